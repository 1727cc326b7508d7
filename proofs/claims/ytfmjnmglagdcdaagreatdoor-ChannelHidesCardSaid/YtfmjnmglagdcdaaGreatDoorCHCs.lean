/- Lists of texts, and of channels: is one there, which is the first, a copy, and what is left without some. -/
import Derived.Test.YtfmjnmglagdcdaaGreatDoorCHWords
import Derived.Test.YtfmjnmglagdcdaaGreatDoorCHCa
import Derived.Test.YtfmjnmglagdcdaaGreatDoorCHShelf
import Derived.WalkSpells
import Derived.Deep.LoopGhost
namespace Go.Proofs.YtfmjnmglagdcdaaGreatDoor.X
open Go.RowKit Go.Lib Go.Shelf Go.Yw.PrintWords Go.Yw.PrintLast Go.Yw.PrintMore
set_option linter.unusedVariables false
set_option linter.unusedSimpArgs false
theorem OwnTx.cells {w : World} {ok : Nat → Prop} {v : Value} {l : List ByteArray} (h : OwnTx w ok v l) (hn : 0 < l.length) :
  ∃ g cap, v = .slice (some ⟨g, 0, none⟩) l.length cap ∧ l.length ≤ cap ∧ (∀ i x, l[i]? = some x → w.cell? ⟨g, i, none⟩ = some (.string x)) ∧ ok g := by
 obtain ⟨g, cap, e, hc, hx, hg⟩ := Yvd h.2 hn
 exact ⟨g, cap, e, hc, fun i x hi => hx i _ (by rw [List.getElem?_map, hi]; rfl), h.1 g hg⟩
theorem Ygm {l : List ByteArray} {j : Nat} (h : j < l.length) : l[j]? = some (l.getD j ByteArray.empty) := by
 rw [List.getD_eq_getElem?_getD, List.getElem?_eq_getElem h]; rfl
theorem Yrn {w : World} {ok : Nat → Prop} {v : Value} {l : List ByteArray} (h : OwnTx w ok v l) (hsz : l.length ≤ 1000000) (x : ByteArray) :
  Calls Tryz.prog 22 #[v, .string x] w fun e w' => e = .returned (.bool (Lib.containsS l x)) ∧ w = w' := by
 by_cases hn : 0 < l.length
 ·obtain ⟨g, cap, rfl, hc, hx, _⟩ := h.cells hn
  refine (Tryz.slices_Contains_string g 0 l.length cap l x w (Nat.le_refl _) Zk (fun j hj => by rw [Nat.zero_add]; exact hx j _ (Ygm hj))).mono ?_
  rintro e w' ⟨rfl, rfl⟩
  rw [List.take_of_length_le (Nat.le_refl _)]
  exact ⟨rfl, rfl⟩
 ·obtain rfl : l = [] := List.length_eq_zero_iff.1 Zk
  obtain ⟨A, cap, rfl, _⟩ := Yeb h.2
  refine (Tryz.slices_Contains_string_empty A cap x w).mono ?_
  rintro e w' ⟨rfl, rfl⟩
  exact ⟨rfl, rfl⟩
theorem Ytm {w : World} {ok : Nat → Prop} {v : Value} {l : List ByteArray} (h : OwnTx w ok v l) (hsz : l.length ≤ 1000000) :
  Calls Tryz.prog 29 #[v] w fun e w' => ∃ v', e = .returned v' ∧ w'.ownsRow w.heap.size 9 1 v' l.length (l.map Value.string) ∧ Below w.heap.size w w' := by
 by_cases hn : 0 < l.length
 ·obtain ⟨g, cap, rfl, hc, hx, _⟩ := h.cells hn
  refine (Tryz.slices_Clone_string g 0 l.length cap l w (Nat.le_refl _) Zk (fun j hj => by rw [Nat.zero_add]; exact hx j _ (Ygm hj))).mono ?_
  rintro e w' ⟨v', rfl, h1, _, h2⟩
  rw [List.take_of_length_le (Nat.le_refl _)] at h1
  exact ⟨v', rfl, h1, h2⟩
 ·obtain rfl : l = [] := List.length_eq_zero_iff.1 Zk
  obtain ⟨A, cap, rfl, _⟩ := Yeb h.2
  cases A with
  | none =>
   refine (Tryz.slices_Clone_string_nil _ _ w).mono ?_
   rintro e w' ⟨rfl, rfl⟩
   exact ⟨_, rfl, ⟨rfl, .inl ⟨rfl, rfl⟩⟩, Below.refl _ _⟩
  | some a =>
   refine (Tryz.slices_Clone_string_zero a cap w).mono ?_
   rintro e w' ⟨v', rfl, h1, _, h2⟩
   exact ⟨v', rfl, h1, h2⟩
def idxI {α : Type} (p : α → Bool) (l : List α) : Int := if l.findIdx p < l.length then (l.findIdx p : Int) else -1
theorem Yvj {α : Type} {p : α → Bool} {l : List α} {k : Nat} {x : α} (hx : l[k]? = some x) (hp : p x = true) (hno : ∀ j y, j < k → l[j]? = some y → p y = false) : idxI p l = (k : Int) := by
 obtain ⟨hlt, hg⟩ := List.getElem?_eq_some_iff.1 hx
 have : l.findIdx p = k := by
  rw [List.findIdx_eq hlt]
  exact ⟨by rw [hg]; exact hp, fun j hj => hno j l[j] hj (List.getElem?_eq_getElem Zk)⟩
 unfold idxI
 rw [this, if_pos hlt]
theorem Yti {α : Type} {p : α → Bool} {l : List α} (hno : ∀ j y, j < l.length → l[j]? = some y → p y = false) : idxI p l = -1 := by
 unfold idxI
 rw [List.findIdx_eq_length.2 (fun x hx => by
  obtain ⟨i, hi, e⟩ := List.mem_iff_getElem.1 hx
  rw [← e]
  exact hno i l[i] hi (List.getElem?_eq_getElem hi)), if_neg (Nat.lt_irrefl _)]
theorem Yck {α : Type} (p : α → Bool) (l : List α) : decide (idxI p l ≥ 0) = l.any p := by
 unfold idxI
 by_cases h : l.findIdx p < l.length
 ·rw [if_pos h]
  have h2 := List.findIdx_getElem (w := h)
  rw [List.any_eq_true.2 ⟨_, List.getElem_mem h, h2⟩]
  exact decide_eq_true Zk
 ·rw [if_neg h]
  have h3 : l.findIdx p = l.length := Nat.le_antisymm List.findIdx_le_length Zk
  rw [List.findIdx_eq_length] at h3
  rw [show l.any p = false from List.any_eq_false.2 (fun x hx => by rw [h3 x hx]; decide)]
  rfl
def PredB {α : Type} (g : Nat) (lb : Array Value) (enc : α → Value) (p : α → Bool) (l : List α) (w : World) : Prop :=
 ∀ (W : World) (x : α), x ∈ l → Below w.heap.size w W → Calls Tryz.prog g (#[enc x] ++ lb) W fun e w' => e = .returned (.bool (p x)) ∧ Below W.heap.size W w'
set_option maxHeartbeats 4000000 in
set_option maxRecDepth 100000 in
theorem Yrh {α : Type} (enc : α → Value) (p : α → Bool) (l : List α) (g : Nat) (lb : Array Value) (eg : ∀ args w, (callFunc g args).run Tryz.prog w = .ok (.enter g args) w) (A : Option Addr) (cap : Nat) (w : World) (hc : l.length ≤ cap) (hsz : l.length ≤ 1000000)
  (hcell : ∀ i x, l[i]? = some x → ∃ b, A = some ⟨b, 0, none⟩ ∧ w.cell? ⟨b, i, none⟩ = some (enc x)) (hp : PredB g lb enc p l w) :
  Calls Tryz.prog 41 #[.slice A l.length cap, .func (.func g) #[] lb] w fun e w' => e = .returned (.int .i64 (idxI p l)) ∧ Below w.heap.size w w' := by
 have HP := Ya.mk hp
 have HC := Ya.mk hcell
 clear hp hcell
 go_enter Tryz.func41, Tryz.ntmps41
 go_wp2
 go_loopg [5, 8] l.length (fun gg _ s8 wr => ∃ k : Nat, k ≤ l.length ∧ l.length ≤ k + gg ∧ s8 = .int .i64 (k : Int) ∧ Ya (Below w.heap.size w wr) ∧ Ya (∀ j y, j < k → l[j]? = some y → p y = false))
 case atStart => exact ⟨0, Nat.zero_le _, Zk, rfl, ⟨Below.refl _ _⟩, ⟨fun j y h => absurd h (Nat.not_lt_zero _)⟩⟩
 case round =>
  obtain ⟨k, hk, hkg, rfl, HB, HN⟩ := hrel
  by_cases hlt : k < l.length
  ·cases gk with
   | zero => omega
   | succ gn =>
    obtain ⟨x, hx⟩ : ∃ x, l[k]? = some x := ⟨_, List.getElem?_eq_getElem hlt⟩
    obtain ⟨b, rfl, hcb⟩ := HC.out k x hx
    have hcb2 : wr.cell? ⟨b, k, none⟩ = some (enc x) := (HB.out.cell (p := ⟨b, k, none⟩) (lt_of_cell hcb)).trans hcb
    have hcall := HP.out wr x (List.mem_of_getElem? hx) HB.out
    have HX := Ya.mk hx
    clear hx hcb
    cases hq : p x with
    | true =>
     have HQ := Ya.mk hq
     rw [hq] at hcall
     have HCL := Ya.mk hcall
     clear hcall hq
     go_wp2_with (go_at_fn g; refine HCL.out.mono ?_; rintro e w' ⟨rfl, hb⟩)
     go_ret
     exact ⟨by rw [Yvj HX.out HQ.out HN.out]; rfl, HB.out.trans (hb.mono HB.out.size)⟩
    | false =>
     have HQ := Ya.mk hq
     rw [hq] at hcall
     have HCL := Ya.mk hcall
     clear hcall hq
     go_wp2_with (go_at_fn g; refine HCL.out.mono ?_; rintro e w' ⟨rfl, hb⟩)
     go_roundg gn
     case measure => omega
     case rel =>
      refine ⟨k + 1, Zk, Zk, by go_num, ⟨HB.out.trans (hb.mono HB.out.size)⟩, ⟨fun j y h1 h2 => ?_⟩⟩
      by_cases e : j = k
      ·subst e; rw [HX.out] at h2; cases h2; exact HQ.out
      ·exact HN.out j y Zk h2
  ·obtain rfl : k = l.length := by omega
   go_wp2
   go_ret
   exact ⟨by rw [Yti HN.out]; rfl, HB.out⟩
theorem Yro {α : Type} (enc : α → Value) (p : α → Bool) (l : List α) (g : Nat) (lb : Array Value) (eg : ∀ args w, (callFunc g args).run Tryz.prog w = .ok (.enter g args) w) (A : Option Addr) (cap : Nat) (w : World) (hc : l.length ≤ cap) (hsz : l.length ≤ 1000000)
  (hcell : ∀ i x, l[i]? = some x → ∃ b, A = some ⟨b, 0, none⟩ ∧ w.cell? ⟨b, i, none⟩ = some (enc x)) (hp : PredB g lb enc p l w) :
  Calls Tryz.prog 26 #[.slice A l.length cap, .func (.func g) #[] lb] w fun e w' => e = .returned (.bool (l.any p)) ∧ Below w.heap.size w w' := by
 have HI := Ya.mk (Yrh enc p l g lb eg A cap w hc hsz hcell hp)
 clear hp hcell
 have hd := Yck p l
 have HD := Ya.mk hd
 clear hd
 go_enter Tryz.func26, Tryz.ntmps26
 go_wp2_with fail
 refine HI.out.mono ?_
 rintro e w' ⟨rfl, hb⟩
 go_wp2
 go_ret
 exact ⟨by rw [← HD.out]; rfl, hb⟩
set_option maxHeartbeats 4000000 in
set_option maxRecDepth 100000 in
theorem Yhp {α : Type} (enc : α → Value) (p : α → Bool) (l : List α) (g : Nat) (lb : Array Value) (eg : ∀ args w, (callFunc g args).run Tryz.prog w = .ok (.enter g args) w) (A : Option Addr) (cap : Nat) (w : World) (hc : l.length ≤ cap) (hsz : l.length ≤ 1000000)
  (hcell : ∀ i x, l[i]? = some x → ∃ b, A = some ⟨b, 0, none⟩ ∧ w.cell? ⟨b, i, none⟩ = some (enc x)) (hp : PredB g lb enc p l w) :
  Calls Tryz.prog 60 #[.slice A l.length cap, .func (.func g) #[] lb] w fun e w' => e = .returned (.int .i64 (idxI p l)) ∧ Below w.heap.size w w' := by
 have HP := Ya.mk hp
 have HC := Ya.mk hcell
 clear hp hcell
 go_enter Tryz.func60, Tryz.ntmps60
 go_wp2
 go_loopg [5, 8] l.length (fun gg _ s8 wr => ∃ k : Nat, k ≤ l.length ∧ l.length ≤ k + gg ∧ s8 = .int .i64 (k : Int) ∧ Ya (Below w.heap.size w wr) ∧ Ya (∀ j y, j < k → l[j]? = some y → p y = false))
 case atStart => exact ⟨0, Nat.zero_le _, Zk, rfl, ⟨Below.refl _ _⟩, ⟨fun j y h => absurd h (Nat.not_lt_zero _)⟩⟩
 case round =>
  obtain ⟨k, hk, hkg, rfl, HB, HN⟩ := hrel
  by_cases hlt : k < l.length
  ·cases gk with
   | zero => omega
   | succ gn =>
    obtain ⟨x, hx⟩ : ∃ x, l[k]? = some x := ⟨_, List.getElem?_eq_getElem hlt⟩
    obtain ⟨b, rfl, hcb⟩ := HC.out k x hx
    have hcb2 : wr.cell? ⟨b, k, none⟩ = some (enc x) := (HB.out.cell (p := ⟨b, k, none⟩) (lt_of_cell hcb)).trans hcb
    have hcall := HP.out wr x (List.mem_of_getElem? hx) HB.out
    have HX := Ya.mk hx
    clear hx hcb
    cases hq : p x with
    | true =>
     have HQ := Ya.mk hq
     rw [hq] at hcall
     have HCL := Ya.mk hcall
     clear hcall hq
     go_wp2_with (go_at_fn g; refine HCL.out.mono ?_; rintro e w' ⟨rfl, hb⟩)
     go_ret
     exact ⟨by rw [Yvj HX.out HQ.out HN.out]; rfl, HB.out.trans (hb.mono HB.out.size)⟩
    | false =>
     have HQ := Ya.mk hq
     rw [hq] at hcall
     have HCL := Ya.mk hcall
     clear hcall hq
     go_wp2_with (go_at_fn g; refine HCL.out.mono ?_; rintro e w' ⟨rfl, hb⟩)
     go_roundg gn
     case measure => omega
     case rel =>
      refine ⟨k + 1, Zk, Zk, by go_num, ⟨HB.out.trans (hb.mono HB.out.size)⟩, ⟨fun j y h1 h2 => ?_⟩⟩
      by_cases e : j = k
      ·subst e; rw [HX.out] at h2; cases h2; exact HQ.out
      ·exact HN.out j y Zk h2
  ·obtain rfl : k = l.length := by omega
   go_wp2
   go_ret
   exact ⟨by rw [Yti HN.out]; rfl, HB.out⟩
theorem Yio {α : Type} (enc : α → Value) (p : α → Bool) (l : List α) (g : Nat) (lb : Array Value) (eg : ∀ args w, (callFunc g args).run Tryz.prog w = .ok (.enter g args) w) (A : Option Addr) (cap : Nat) (w : World) (hc : l.length ≤ cap) (hsz : l.length ≤ 1000000)
  (hcell : ∀ i x, l[i]? = some x → ∃ b, A = some ⟨b, 0, none⟩ ∧ w.cell? ⟨b, i, none⟩ = some (enc x)) (hp : PredB g lb enc p l w) :
  Calls Tryz.prog 51 #[.slice A l.length cap, .func (.func g) #[] lb] w fun e w' => e = .returned (.bool (l.any p)) ∧ Below w.heap.size w w' := by
 have HI := Ya.mk (Yhp enc p l g lb eg A cap w hc hsz hcell hp)
 clear hp hcell
 have hd := Yck p l
 have HD := Ya.mk hd
 clear hd
 go_enter Tryz.func51, Tryz.ntmps51
 go_wp2_with fail
 refine HI.out.mono ?_
 rintro e w' ⟨rfl, hb⟩
 go_wp2
 go_ret
 exact ⟨by rw [← HD.out]; rfl, hb⟩
theorem OwnTx.any {w : World} {ok : Nat → Prop} {v : Value} {l : List ByteArray} (h : OwnTx w ok v l) (hsz : l.length ≤ 1000000) (p : ByteArray → Bool) (g : Nat) (lb : Array Value) (eg : ∀ args w, (callFunc g args).run Tryz.prog w = .ok (.enter g args) w) (hp : PredB g lb Value.string p l w) :
  Calls Tryz.prog 26 #[v, .func (.func g) #[] lb] w fun e w' => e = .returned (.bool (l.any p)) ∧ Below w.heap.size w w' := by
 obtain ⟨A, cap, rfl, hc⟩ := Yeb h.2
 refine Yro Value.string p l g lb eg A cap w hc hsz (fun i x hx => ?_) hp
 obtain ⟨b, cap2, e, _, h2, _⟩ := h.cells (by have := (List.getElem?_eq_some_iff.1 hx).1; omega)
 injection e with e1 e2 e3
 exact ⟨b, e1, h2 i x hx⟩
end Go.Proofs.YtfmjnmglagdcdaaGreatDoor.X
