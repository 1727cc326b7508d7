/- Order: what a call of it does. -/
import Derived.Test.YtfmjnmglagdcdaaGreatDoorCHWords
import Derived.Test.YtfmjnmglagdcdaaGreatDoorCHCm
import Derived.Test.YtfmjnmglagdcdaaGreatDoorCHCa
import Derived.Test.YtfmjnmglagdcdaaGreatDoorCHCs
import Derived.LaidEqlPtr
namespace Go.Proofs.YtfmjnmglagdcdaaGreatDoor.X
open Go.RowKit Go.Lib Go.Shelf Go.Yw.PrintWords Go.Yw.PrintLast Go.Yw.PrintMore
set_option linter.unusedVariables false
set_option linter.unusedSimpArgs false
def hasP (qs : List Nat) (q : Nat) : Bool := qs.any (fun x => x == q)
def pV (q : Nat) : Value := .pointer (some ⟨q, 0, none⟩)
theorem infoC : ∃ j, Tryz.prog.info? 62 = some j ∧ j.size ≠ 0 := by
 have h : (Tryz.prog.info? 62).map (·.size) = some 5 := by kernel_rfl
 cases hi : Tryz.prog.info? 62 with
 | none => rw [hi] at h; cases h
 | some j =>
  rw [hi] at h
  have h2 : j.size = 5 := Option.some.inj h
  exact ⟨j, rfl, by rw [h2]; decide⟩
def Blk (w : World) (q : Nat) : Prop := ∃ (cs : Array Value) (t : Nat), w.heap[q]? = some (.cells cs t (0, 0))
theorem eq_same (w : World) (q : Nat) : (binOp .eql 59 (.pointer (some ⟨q, 0, none⟩)) (.pointer (some ⟨q, 0, none⟩))).run Tryz.prog w = .ok (.bool true) w := by
 obtain ⟨j, hj, _⟩ := infoC
 exact run_eql_ptr_same w ⟨q, 0, none⟩ Tryz.underlying59 hj
theorem eq_other (w : World) {q x : Nat} (hne : q ≠ x) (h1 : Blk w q) (h2 : Blk w x) : (binOp .eql 59 (.pointer (some ⟨q, 0, none⟩)) (.pointer (some ⟨x, 0, none⟩))).run Tryz.prog w = .ok (.bool false) w := by
 obtain ⟨j, hj, hs⟩ := infoC
 obtain ⟨c1, t1, h1⟩ := h1
 obtain ⟨c2, t2, h2⟩ := h2
 exact run_eql_ptr_other w Tryz.underlying59 hj hs (fun e => hne (congrArg Addr.block e)) h1 h2
set_option maxHeartbeats 4000000 in
set_option maxRecDepth 100000 in
theorem Yhm (qs : List Nat) (q : Nat) (A : Option Addr) (cap : Nat) (w : World) (hc : qs.length ≤ cap) (hsz : qs.length ≤ 1000000)
  (hcell : ∀ (i : Nat) (x : Nat), qs[i]? = some x → ∃ b, A = some ⟨b, 0, none⟩ ∧ w.cell? ⟨b, i, none⟩ = some (pV x)) (hq : Blk w q) (hqs : ∀ x ∈ qs, Blk w x) :
  Calls Tryz.prog 53 #[.slice A qs.length cap, .pointer (some ⟨q, 0, none⟩)] w fun e w' => e = .returned (.int .i64 (idxI (fun x => x == q) qs)) ∧ w = w' := by
 have HC := Ya.mk hcell
 have HQS := Ya.mk (And.intro hq hqs)
 clear hcell hq hqs
 go_enter Tryz.func53, Tryz.ntmps53
 go_wp2
 go_loop [5, 8] (fun _ s8 => ∃ k : Nat, k ≤ qs.length ∧ s8 = .int .i64 (k : Int) ∧ Ya (∀ (j y : Nat), j < k → qs[j]? = some y → (y == q) = false)) (fun _ t => qs.length - (RowKit.intOf t).toNat)
 case atStart => exact ⟨0, Nat.zero_le _, rfl, ⟨fun j y h => absurd h (Nat.not_lt_zero _)⟩⟩
 case round =>
  obtain ⟨k, hk, rfl, HN⟩ := hrel
  by_cases hlt : k < qs.length
  ·obtain ⟨x, hx⟩ : ∃ x, qs[k]? = some x := ⟨_, List.getElem?_eq_getElem hlt⟩
   obtain ⟨b, rfl, hcb⟩ := HC.out k x hx
   have hcb2 : w.cell? ⟨b, k, none⟩ = some (.pointer (some ⟨x, 0, none⟩)) := hcb
   have HX := Ya.mk hx
   clear hx hcb
   by_cases hq : x = q
   ·subst hq
    have heq := eq_same w x
    go_wp2
    go_ret
    exact ⟨by rw [Yvj (p := fun y => y == x) HX.out (beq_self_eq_true _) HN.out]; rfl, rfl⟩
   ·have hq2 : ¬ q = x := fun e => hq e.symm
    have HQ := Ya.mk (show (x == q) = false from beq_eq_false_iff_ne.2 hq)
    have heq := eq_other w hq2 HQS.out.1 (HQS.out.2 x (List.mem_of_getElem? HX.out))
    clear hq2
    go_wp2
    go_round
    case rel =>
     refine ⟨k + 1, Zk, by go_num, ⟨fun j y h1 h2 => ?_⟩⟩
     by_cases e : j = k
     ·subst e; rw [HX.out] at h2; cases h2; exact HQ.out
     ·exact HN.out j y Zk h2
    case measure => simp [RowKit.intOf]; omega
  ·obtain rfl : k = qs.length := by omega
   go_wp2
   go_ret
   exact ⟨by rw [Yti HN.out]; rfl, rfl⟩
theorem Ybn (qs : List Nat) (q : Nat) (A : Option Addr) (cap : Nat) (w : World) (hc : qs.length ≤ cap) (hsz : qs.length ≤ 1000000)
  (hcell : ∀ (i : Nat) (x : Nat), qs[i]? = some x → ∃ b, A = some ⟨b, 0, none⟩ ∧ w.cell? ⟨b, i, none⟩ = some (pV x)) (hq : Blk w q) (hqs : ∀ x ∈ qs, Blk w x) :
  Calls Tryz.prog 36 #[.slice A qs.length cap, .pointer (some ⟨q, 0, none⟩)] w fun e w' => e = .returned (.bool (hasP qs q)) ∧ w = w' := by
 have HI := Ya.mk (Yhm qs q A cap w hc hsz hcell hq hqs)
 clear hcell hq hqs
 have HD := Ya.mk (Yck (fun x => x == q) qs)
 go_enter Tryz.func36, Tryz.ntmps36
 go_wp2_with fail
 refine HI.out.mono ?_
 rintro e w' ⟨rfl, rfl⟩
 go_wp2
 go_ret
 exact ⟨by unfold hasP; rw [← HD.out]; rfl, rfl⟩
def dP : ChP := ⟨0, fun _ => .slice none 0 0⟩
def dC : Ch := ⟨ByteArray.empty, ByteArray.empty, fun _ => []⟩
def cbI (ps : List ChP) (i : Nat) : Nat := (ps.getD i dP).cb
theorem BookO.reindex {w w6 : World} {M : Nat → Prop} {bb : Nat} {s : Bk} {sv : Value} {ps : List ChP} {ow : Nat → Nat × Nat} (h : BookO w M bb s sv ps ow) {L : List Nat} (hL : ∀ i ∈ L, i < s.l.length) (hnd : L.Nodup) {made : Int} {sv1 : Value}
  (hblk : w6.heap[bb]? = some (.cells #[.int .i64 made, sv1] 54 (0, 0)))
  (hrow : w6.ownsRow 0 59 1 sv1 L.length (L.map (fun i => pV (cbI ps i))))
  (hfresh : ∀ k, sv1.ownBlock = some k → M k ∨ w.heap.size ≤ k)
  (hkeep : ∀ k, k < w.heap.size → k ≠ bb → some k ≠ sv.ownBlock → w6.heap[k]? = w.heap[k]?) :
  BookO w6 (fun k => M k ∨ w.heap.size ≤ k) bb { made := made, l := L.map (fun i => s.l.getD i dC) } sv1 (L.map (fun i => ps.getD i dP)) ow := by
 have hty : ∀ {k t t2 : Nat} {cs cs2 : Array Value}, w.heap[k]? = some (.cells cs t (0, 0)) → w.heap[k]? = some (.cells cs2 t2 (0, 0)) → t = t2 := by
  intro k t t2 cs cs2 h1 h2
  rw [h1] at h2
  injection h2 with h2
  injection h2 with _ h2 _
 have hsv : ∀ {k t : Nat} {cs : Array Value}, w.heap[k]? = some (.cells cs t (0, 0)) → t ≠ 59 → some k ≠ sv.ownBlock := by
  intro k t cs hk ht he
  obtain ⟨cells, h2⟩ := Yva h.row k he.symm
  exact ht (hty hk h2)
 have hK : ∀ {k t : Nat} {cs : Array Value}, w.heap[k]? = some (.cells cs t (0, 0)) → t ≠ 59 → t ≠ 54 → w6.heap[k]? = w.heap[k]? := by
  intro k t cs hk h1 h2
  exact hkeep k (Yx hk) (fun e => h2 (hty hk (e ▸ h.blk))) (hsv hk h1)
 refine ⟨.inl h.mem, hblk, hfresh, ?_, ?_, ?_, ?_⟩
 ·show w6.ownsRow 0 _ 1 sv1 (L.map _).length ((L.map _).map ptrV)
  rw [List.length_map, List.map_map]
  exact hrow
 ·show (L.map _).length = (L.map _).length
  rw [List.length_map, List.length_map]
 ·rw [List.map_map]
  unfold List.Nodup at hnd ⊢
  rw [List.pairwise_map]
  refine List.Pairwise.imp_of_mem (fun {a b} ha hb hne e => ?_) hnd
  have hla := hL a ha
  have hlb := hL b hb
  have ea : (ps.map (·.cb))[a]? = some (ps.getD a dP).cb := by rw [List.getElem?_map, List.getD_eq_getElem?_getD, List.getElem?_eq_getElem (by rw [h.len]; exact hla)]; rfl
  have eb : (ps.map (·.cb))[b]? = some (ps.getD b dP).cb := by rw [List.getElem?_map, List.getD_eq_getElem?_getD, List.getElem?_eq_getElem (by rw [h.len]; exact hlb)]; rfl
  have e2 : (ps.getD a dP).cb = (ps.getD b dP).cb := e
  rw [← e2] at eb
  exact hne ((List.getElem?_inj (by rw [List.length_map, h.len]; exact hla) h.nodup).1 (ea.trans eb.symm))
 ·intro i p d hp hd
  have hd' : (L.map (fun i => s.l.getD i dC))[i]? = some d := hd
  rw [List.getElem?_map] at hp hd'
  cases hi : L[i]? with
  | none => rw [hi] at hp; cases hp
  | some j =>
   rw [hi] at hp hd'
   obtain rfl := Option.some.inj hp
   obtain rfl := Option.some.inj hd'
   have hj := hL j (List.mem_of_getElem? hi)
   have h1 := h.chs j (ps.getD j dP) (s.l.getD j dC) (by rw [List.getD_eq_getElem?_getD, List.getElem?_eq_getElem (by rw [h.len]; exact hj)]; rfl) (by rw [List.getD_eq_getElem?_getD, List.getElem?_eq_getElem hj]; rfl)
   refine ⟨.inl h1.mem, (hK h1.blk Zq Zq).trans h1.blk, fun j hj => ⟨fun k hk => ⟨.inl ((h1.own j hj).1 k hk).1, ((h1.own j hj).1 k hk).2⟩, Ylc (h1.own j hj).2 (fun k hk => ?_)⟩⟩
   obtain ⟨cells, h2⟩ := Yva (h1.own j hj).2 k hk
   exact hK h2 Zq Zq
def ordS (L : List Nat) (k : Nat) : List Nat := if k ∈ L then L else L ++ [k]
def ordI (n : Nat) (L0 : List Nat) : List Nat := (List.range n).foldl ordS L0
theorem Yll (n : Nat) (L0 : List Nat) : ordI (n + 1) L0 = ordS (ordI n L0) n := by unfold ordI; rw [List.range_succ, List.foldl_append]; rfl
theorem Ycm {N : Nat} {L0 : List Nat} (h0 : ∀ i ∈ L0, i < N) (hnd : L0.Nodup) : ∀ n, n ≤ N → (∀ i ∈ ordI n L0, i < N) ∧ (ordI n L0).Nodup := by
 intro n
 induction n with
 | zero => exact fun _ => ⟨h0, hnd⟩
 | succ n ih =>
  intro hn
  obtain ⟨h1, h2⟩ := ih Zk
  rw [Yll]
  unfold ordS
  by_cases h : n ∈ ordI n L0
  ·rw [if_pos h]; exact ⟨h1, h2⟩
  ·rw [if_neg h]
   refine ⟨fun i hi => ?_, ?_⟩
   ·rcases List.mem_append.1 hi with hi | hi
    ·exact h1 i hi
    ·rw [List.mem_singleton.1 hi]; omega
   ·rw [List.nodup_append]
    exact ⟨h2, Zy, fun a ha b hb e => by rw [List.mem_singleton.1 hb] at e; exact h (e ▸ ha)⟩
theorem Yao : ∀ (N : Nat) (L : List Nat), L.Nodup → (∀ i ∈ L, i < N) → L.length ≤ N
 | 0, L, _, h => by
  cases L with
  | nil => exact Nat.le_refl _
  | cons a r => exact absurd (h a List.mem_cons_self) (Nat.not_lt_zero _)
 | N + 1, L, hnd, h => by
  have h1 := Yao N (L.erase N) (hnd.erase N) (fun i hi => by
   have h2 := hnd.mem_erase_iff.1 hi
   have h3 := h i h2.2
   have h4 := h2.1
   omega)
  have h2 : L.length ≤ (L.erase N).length + 1 := by rw [List.length_erase]; split <;> omega
  omega
theorem ordI_len {N : Nat} {L0 : List Nat} (h0 : ∀ i ∈ L0, i < N) (hnd : L0.Nodup) (n : Nat) (hn : n ≤ N) : (ordI n L0).length ≤ N := by
 obtain ⟨h1, h2⟩ := Ycm h0 hnd n hn
 exact Yao N _ h2 h1
def TextsAt (w : World) (A : Option Addr) (cap : Nat) (us : List ByteArray) : Prop := us.length ≤ cap ∧ ∀ (i : Nat) (x : ByteArray), us[i]? = some x → ∃ b o, A = some ⟨b, o, none⟩ ∧ w.cell? ⟨b, o + i, none⟩ = some (.string x)
def Ybc (s : Bk) (us : List ByteArray) : List Nat := us.map (Yoa s.l)
def dupB (us : List ByteArray) : Bool := (List.range us.length).any (fun i => Lib.containsS (us.take i) (us.getD i ByteArray.empty))
def Yqf (s : Bk) (us : List ByteArray) : Int × Bk :=
 if us.any (fun u => !decide (Yoa s.l u < s.l.length)) = true then (6, s) else if dupB us = true then (7, s) else (0, { s with l := (ordI s.l.length (Ybc s us)).map (fun i => s.l.getD i dC) })
theorem Yym {a b : ByteArray} (h : a.toList = b.toList) : a = b := by
 have ha : a.toList = a.data.toList := Yzb a.data.toList
 have hb : b.toList = b.data.toList := Yzb b.data.toList
 rw [ha, hb] at h
 exact ByteArray.ext (Array.ext' h)
theorem Ybo {s : Bk} {us : List ByteArray} (h1 : ∀ u ∈ us, Yoa s.l u < s.l.length) (h2 : dupB us = false) : (Ybc s us).Nodup := by
 unfold Ybc List.Nodup
 rw [List.pairwise_map, List.pairwise_iff_getElem]
 intro i j hi hj hij e
 have hu : ∀ u ∈ us, ∃ c, s.l[Yoa s.l u]? = some c ∧ (c.uid.toList == u.toList) = true := fun u hu => by
  have hl := h1 u hu
  exact ⟨_, List.getElem?_eq_getElem hl, List.findIdx_getElem (w := hl)⟩
 obtain ⟨c1, e1, f1⟩ := hu us[i] (List.getElem_mem hi)
 obtain ⟨c2, e2, f2⟩ := hu us[j] (List.getElem_mem hj)
 rw [e, e2] at e1
 obtain rfl := Option.some.inj e1
 have heq : us[i] = us[j] := by
  have h3 := (beq_iff_eq.1 f1).symm.trans (beq_iff_eq.1 f2)
  exact Yym h3
 have h4 := List.any_eq_false.1 h2 j (List.mem_range.2 hj)
 apply h4
 rw [List.getD_eq_getElem?_getD, List.getElem?_eq_getElem hj, Option.getD_some, ← heq]
 exact (Lib.containsS_iff _ _).2 (by
  rw [List.mem_take_iff_getElem]
  exact ⟨i, Zk, rfl⟩)
end Go.Proofs.YtfmjnmglagdcdaaGreatDoor.X
