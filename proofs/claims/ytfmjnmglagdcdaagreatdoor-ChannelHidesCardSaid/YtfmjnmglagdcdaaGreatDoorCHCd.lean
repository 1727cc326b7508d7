/- slices.DeleteFunc on a list of texts of its own, and Drop. -/
import Derived.Test.YtfmjnmglagdcdaaGreatDoorCHWords
import Derived.Test.YtfmjnmglagdcdaaGreatDoorCHCt
import Derived.Lib.SliceRun
import Derived.Laws.IdiomCopy
namespace Go.Proofs.YtfmjnmglagdcdaaGreatDoor.X
open Go.RowKit Go.Lib Go.Shelf Go.Yw.PrintWords Go.Yw.PrintLast Go.Yw.PrintMore
set_option linter.unusedVariables false
set_option linter.unusedSimpArgs false
def left {α : Type} (p : α → Bool) (l : List α) : List α := l.filter (fun x => !p x)
theorem left_none {α : Type} {p : α → Bool} {l : List α} (h : idxI p l = -1) : left p l = l := by
 unfold idxI at h
 by_cases hl : l.findIdx p < l.length
 ·rw [if_pos hl] at h; omega
 ·have h3 : l.findIdx p = l.length := Nat.le_antisymm List.findIdx_le_length Zk
  rw [List.findIdx_eq_length] at h3
  unfold left
  rw [List.filter_eq_self]
  intro x hx
  rw [h3 x hx]; rfl
theorem Ywo {α : Type} {p : α → Bool} {l : List α} {k : Nat} (h : idxI p l = (k : Int)) : k < l.length ∧ left p (l.take (k + 1)) = l.take k := by
 unfold idxI at h
 by_cases hl : l.findIdx p < l.length
 ·rw [if_pos hl] at h
  obtain rfl : l.findIdx p = k := by omega
  refine ⟨hl, ?_⟩
  have h1 := List.findIdx_getElem (w := hl)
  unfold left
  rw [List.take_succ_eq_append_getElem hl, List.filter_append, List.filter_cons, h1]
  simp only [Bool.not_true, Bool.false_eq_true, if_false, List.filter_nil, List.append_nil]
  rw [List.filter_eq_self]
  intro x hx
  obtain ⟨i, hi, e⟩ := List.mem_take_iff_getElem.1 hx
  have h2 := List.not_of_lt_findIdx (show i < l.findIdx p by omega)
  rw [← e]
  simpa using h2
 ·rw [if_neg hl] at h; omega
theorem left_step {α : Type} {p : α → Bool} {l : List α} {j : Nat} {x : α} (hx : l[j]? = some x) : left p (l.take (j + 1)) = left p (l.take j) ++ (if p x = true then [] else [x]) := by
 obtain ⟨hlt, hg⟩ := List.getElem?_eq_some_iff.1 hx
 unfold left
 rw [List.take_succ_eq_append_getElem hlt, List.filter_append, hg, List.filter_cons]
 cases p x <;> rfl
def DelPost (w : World) (b cap : Nat) (l : List ByteArray) (e : Ending) (w' : World) : Prop :=
 ∃ C' : Array Value, e = .returned (.slice (some ⟨b, 0, none⟩) l.length cap) ∧ w'.heap[b]? = some (.cells C' 9 (0, 0)) ∧ C'.size = cap ∧ C'.toList.take l.length = l.map Value.string ∧ (∀ k, k < w.heap.size → k ≠ b → w'.heap[k]? = w.heap[k]?) ∧ w.heap.size ≤ w'.heap.size ∧ ∀ B, B ≤ b → B ≤ w.heap.size → Below B w w'
set_option maxHeartbeats 4000000 in
set_option maxRecDepth 100000 in
theorem Ymp (p : ByteArray → Bool) (l : List ByteArray) (g : Nat) (lb : Array Value) (eg : ∀ args w, (callFunc g args).run Tryz.prog w = .ok (.enter g args) w) (b cap : Nat) (C : Array Value) (w : World)
  (hb : w.heap[b]? = some (.cells C 9 (0, 0))) (hC : C.toList.take l.length = l.map Value.string) (hcs : C.size = cap) (hlc : l.length ≤ cap) (hsz : l.length ≤ 1000000) (hcz : cap ≤ 9223372036854775807)
  (hp : ∀ (W : World) (x : ByteArray), x ∈ l → w.heap.size ≤ W.heap.size → (∀ k, k < w.heap.size → k ≠ b → W.heap[k]? = w.heap[k]?) → Calls Tryz.prog g (#[.string x] ++ lb) W fun e w' => e = .returned (.bool (p x)) ∧ W = w') :
  Calls Tryz.prog 27 #[.slice (some ⟨b, 0, none⟩) l.length cap, .func (.func g) #[] lb] w fun e w' => DelPost w b cap (left p l) e w' := by
 have hat : ∀ (i : Nat) (x : ByteArray), l[i]? = some x → C[i]? = some (Value.string x) := by
  intro i x hx
  have h1 : (l.map Value.string)[i]? = some (Value.string x) := by rw [List.getElem?_map, hx]; rfl
  have hi := (List.getElem?_eq_some_iff.1 hx).1
  rw [← hC, List.getElem?_take, if_pos hi, Array.getElem?_toList] at h1
  exact h1
 have hidx := Yrh Value.string p l g lb eg (some ⟨b, 0, none⟩) cap w hlc hsz (fun i x hx => ⟨b, rfl, (Yf hb i).trans (hat i x hx)⟩) (fun W x hx hbel => (hp W x hx hbel.size (fun k hk _ => hbel.block k hk)).mono fun e w' h => ⟨h.1, by rw [← h.2]; exact Below.refl _ _⟩)
 have HI := Ya.mk hidx
 have HA := Ya.mk hat
 have HC := Ya.mk hC
 have HBk := Ya.mk hb
 have HP := Ya.mk hp
 clear hidx hat hb hC hp
 go_enter Tryz.func27, Tryz.ntmps27
 go_wp2_with fail
 refine HI.out.mono ?_
 rintro e w1 ⟨rfl, hbel⟩
 have HB := Ya.mk hbel
 clear hbel
 by_cases hm : idxI p l = -1
 ·have HM := Ya.mk (left_none hm)
  rw [hm]
  clear hm
  go_wp2
  go_ret
  rw [HM.out]
  exact ⟨C, rfl, (HB.out.block b (Yx HBk.out)).trans HBk.out, hcs, HC.out, fun k hk _ => HB.out.block k hk, HB.out.size, fun B _ hB => HB.out.mono hB⟩
 ·obtain ⟨k0, hk0⟩ : ∃ k0 : Nat, idxI p l = (k0 : Int) := by
   unfold idxI at hm ⊢
   by_cases hl : l.findIdx p < l.length
   ·rw [if_pos hl]; exact ⟨_, rfl⟩
   ·rw [if_neg hl] at hm; exact absurd rfl hm
  obtain ⟨hk1, hk2⟩ := Ywo hk0
  have HF := Ya.mk hk2
  have d1 : ((k0 : Int) == -1) = false := beq_eq_false_iff_ne.2 Zk
  rw [hk0]
  clear hm hk0 hk2
  go_wp2
  go_loopg [5, 6, 7] l.length (fun gg s5 s6 _ wr => ∃ (i j : Nat) (D : Array Value), i < j ∧ j ≤ l.length ∧ l.length ≤ j + gg ∧ s5 = .int .i64 (i : Int) ∧ s6 = .int .i64 (j : Int) ∧ Ya (wr.heap[b]? = some (.cells D 9 (0, 0))) ∧ Ya (D.size = cap) ∧ Ya (i = (left p (l.take j)).length) ∧ Ya (D.toList.take i = (left p (l.take j)).map Value.string) ∧ Ya (∀ (q : Nat) (x : ByteArray), j ≤ q → l[q]? = some x → D[q]? = some (Value.string x)) ∧ Ya (∀ k, k < w.heap.size → k ≠ b → wr.heap[k]? = w.heap[k]?) ∧ Ya (w.heap.size ≤ wr.heap.size) ∧ Ya (∀ B, B ≤ b → B ≤ w.heap.size → Below B w wr))
  case atStart =>
   refine ⟨k0, k0 + 1, C, Zk, Zk, Zk, rfl, by go_num, ⟨(HB.out.block b (Yx HBk.out)).trans HBk.out⟩, ⟨hcs⟩, ⟨?_⟩, ⟨?_⟩, ⟨fun q x _ hq => HA.out q x hq⟩, ⟨fun k hk _ => HB.out.block k hk⟩, ⟨HB.out.size⟩, ⟨fun B _ hB => HB.out.mono hB⟩⟩
   ·rw [HF.out, List.length_take]; omega
   ·rw [HF.out, List.map_take, ← HC.out, List.take_take]
    congr 1; omega
  case round =>
   obtain ⟨i, j, D, hij, hjn, hjg, rfl, rfl, HD, HDs, HIl, HIt, HR, HK, HS, HBB⟩ := hrel
   by_cases hlt : j < l.length
   ·cases gk with
    | zero => omega
    | succ gn =>
     obtain ⟨x, hx⟩ : ∃ x, l[j]? = some x := ⟨_, List.getElem?_eq_getElem hlt⟩
     have hcell : wr.cell? ⟨b, j, none⟩ = some (Value.string x) := (Yf HD.out j).trans (HR.out j x (Nat.le_refl _) hx)
     have hcall := HP.out wr x (List.mem_of_getElem? hx) HS.out HK.out
     have HX := Ya.mk hx
     have HST := Ya.mk (left_step (p := p) hx)
     clear hx
     cases hq : p x with
     | true =>
      rw [hq] at hcall
      have HQ := Ya.mk hq
      have HCL := Ya.mk hcall
      clear hcall hq
      go_wp2_with (go_at_fn g; refine HCL.out.mono ?_; rintro e w' ⟨rfl, rfl⟩)
      go_roundg gn
      case measure => omega
      case rel =>
       have e1 : left p (l.take (j + 1)) = left p (l.take j) := by rw [HST.out, if_pos HQ.out, List.append_nil]
       exact ⟨i, j + 1, D, Zk, Zk, Zk, rfl, by go_num, HD, HDs, ⟨by rw [e1]; exact HIl.out⟩, ⟨by rw [e1]; exact HIt.out⟩, ⟨fun q y h1 h2 => HR.out q y Zk h2⟩, HK, HS, HBB⟩
     | false =>
      rw [hq] at hcall
      have HQ := Ya.mk hq
      have HCL := Ya.mk hcall
      have hiD : i < D.size := by rw [HDs.out]; omega
      have hceli : wr.cell? ⟨b, i, none⟩ = some D[i] := (Yf HD.out i).trans (Array.getElem?_eq_getElem hiD)
      have hfzi := Yc HD.out i
      generalize D[i] = old at hceli
      clear hcall hq
      go_wp2_with (go_at_fn g; refine HCL.out.mono ?_; rintro e w' ⟨rfl, rfl⟩)
      go_roundg gn
      case measure => omega
      case rel =>
       have e1 : left p (l.take (j + 1)) = left p (l.take j) ++ [x] := by rw [HST.out, if_neg (by rw [HQ.out]; decide)]
       refine ⟨i + 1, j + 1, D.setIfInBounds i (.string x), Zk, Zk, Zk, by go_num, by go_num, ⟨Yfd HD.out i _ rfl⟩, ⟨by rw [Array.size_setIfInBounds]; exact HDs.out⟩, ⟨?_⟩, ⟨?_⟩, ⟨fun q y h1 h2 => ?_⟩, ⟨fun k hk hne => ?_⟩, ⟨by rw [Ycd]; exact HS.out⟩, ⟨fun B h1 h2 => (HBB.out B h1 h2).setCell (p := ⟨b, i, none⟩) h1 _⟩⟩
       ·rw [e1, List.length_append, ← HIl.out]; rfl
       ·rw [e1, List.map_append, ← HIt.out, Array.toList_setIfInBounds]
        have hl2 : i < D.toList.length := by rw [Array.length_toList]; exact hiD
        rw [List.take_succ_eq_append_getElem (by rw [List.length_set]; exact hl2), List.take_set_of_le (Nat.le_refl _), List.getElem_set_self]
        rfl
       ·rw [Array.getElem?_setIfInBounds_ne Zk]
        exact HR.out q y Zk h2
       ·rw [Below.heap_setCell wr ⟨b, i, none⟩ _ k hne]
        exact HK.out k hk hne
   ·obtain rfl : j = l.length := by omega
    have hcl : ∀ ty, (Builtin.clear_ #[28] ty #[.slice (some ⟨b, i, none⟩) (l.length - i) (cap - i)]).run Tryz.prog wr = .ok (.tuple #[]) (wr.setCells b i (List.replicate (l.length - i) (.string ByteArray.empty))) :=
     fun ty => Lib.run_clear_slice wr _ _ ty _ Tryz.underlying28 (fun w => by kernel_rfl) rfl rfl b i _ _ Zk (fun q hq => by rw [Yf HD.out, Array.getElem?_eq_getElem (by rw [HDs.out]; omega)]; rfl) (fun q hq => Yc HD.out _)
    have hne : ¬ cap = i := by omega
    go_wp2
    go_ret
    rw [List.take_length] at HIl HIt
    obtain ⟨D', h1, h2, h3⟩ := Yii (List.replicate (l.length - i) (.string ByteArray.empty)) i wr D HD.out (by rw [List.length_replicate, HDs.out]; omega)
    refine ⟨D', by rw [← HIl.out]; rfl, h1, h2.trans HDs.out, ?_, fun k hk hne => (Ydg _ _ k hne).trans (HK.out k hk hne), by rw [(Ydd b _ i wr).2.2.2]; exact HS.out, fun B hB1 hB2 => (HBB.out B hB1 hB2).trans ⟨(Ydd b _ i wr).1, (Ydd b _ i wr).2.1, (Ydd b _ i wr).2.2.1, Nat.le_of_eq (Ydd b _ i wr).2.2.2.symm, fun k hk => Ydg _ _ k Zk⟩⟩
    rw [h3, ← HIl.out, List.append_assoc, List.take_append_of_le_length (by rw [List.length_take, Array.length_toList, HDs.out]; omega), List.take_take, Nat.min_self]
    exact HIt.out
theorem Yen (x k : ByteArray) (kb : Nat) (W : World) (h : W.cell? ⟨kb, 0, none⟩ = some (.string k)) :
  Calls Tryz.prog 28 #[.string x, .pointer (some ⟨kb, 0, none⟩)] W fun e w' => e = .returned (.bool (x.toList == k.toList)) ∧ W = w' := by
 go_enter Tryz.func28, Tryz.ntmps28
 go_wp2
 go_ret
 exact ⟨rfl, rfl⟩
def Yeh (s : Bk) (i : Nat) (c : Ch) (n : Nat) (u : ByteArray) : Int × Bk :=
 if (keyP u).2 ≠ 0 then ((keyP u).2, s) else (0, s.setL i n (left (fun x => x.toList == (keyP u).1.toList) (c.l n)))
def DropMid (w : World) (b : Option Nat) (l : List ByteArray) (e : Ending) (w' : World) : Prop :=
 ∃ A cap, e = .returned (.slice A l.length cap) ∧ w'.ownsRow 0 9 1 (.slice A l.length cap) l.length (l.map Value.string) ∧ (Value.slice A l.length cap).ownBlock = b ∧ (∀ k, k < w.heap.size → some k ≠ b → w'.heap[k]? = w.heap[k]?) ∧ w.heap.size ≤ w'.heap.size ∧ ∀ B, (∀ k, b = some k → B ≤ k) → B ≤ w.heap.size → Below B w w'
theorem Yuo (l : List ByteArray) (A : Option Addr) (cap : Nat) (k : ByteArray) (kb : Nat) (w : World) (h : w.ownsRow 0 9 1 (.slice A l.length cap) l.length (l.map Value.string)) (hsz : l.length ≤ 1000000) (hk : w.cell? ⟨kb, 0, none⟩ = some (.string k)) (hne : some kb ≠ (Value.slice A l.length cap).ownBlock) :
  Calls Tryz.prog 27 #[.slice A l.length cap, .func (.func 28) #[] #[.pointer (some ⟨kb, 0, none⟩)]] w fun e w' => DropMid w (Value.slice A l.length cap).ownBlock (left (fun x => x.toList == k.toList) l) e w' := by
 have eg := enters_of Tryz.func28 Zg rfl
 by_cases hn : 0 < l.length
 ·obtain ⟨hl, h0 | ⟨g, cap2, cur, hv, _, hh, hc1, hc2, hcs, hct⟩⟩ := h
  ·omega
  ·injection hv with e1 e2 e3
   subst e1 e3
   rw [Nat.mul_one] at hcs hct
   refine (Ymp (fun x => x.toList == k.toList) l _ _ eg g cap cur w hh hct hcs hc1 hsz (by unfold maxLen at hc2; omega) (fun W x hx hs hW => ?_)).mono ?_
   ·have hkb : kb ≠ g := fun e => hne (by rw [e]; rfl)
    refine Yen x k kb W ?_
    unfold World.cell?
    rw [hW kb (lt_of_cell hk) hkb]
    exact hk
   ·rintro e w' ⟨C', rfl, h1, h2, h3, h4, h5, h6⟩
    have hle : (left (fun x => x.toList == k.toList) l).length ≤ l.length := List.length_filter_le _ _
    exact ⟨_, _, rfl, ⟨by rw [List.length_map, Nat.mul_one], .inr ⟨g, cap, C', rfl, Nat.zero_le _, h1, Zk, hc2, by rw [h2, Nat.mul_one], by rw [Nat.mul_one]; exact h3⟩⟩, rfl, fun q hq hqn => h4 q hq (fun e => hqn (by rw [e]; rfl)), h5, fun B hB1 hB2 => h6 B (hB1 g rfl) hB2⟩
 ·obtain rfl : l = [] := List.length_eq_zero_iff.1 Zk
  have hidx := Yrh Value.string (fun x => x.toList == k.toList) [] _ #[.pointer (some ⟨kb, 0, none⟩)] eg A cap w (Nat.zero_le _) Zq (fun i x hx => by simp at hx) (fun W x hx => by simp at hx)
  have HI := Ya.mk hidx
  have H := Ya.mk h
  clear hidx h hk
  go_enter Tryz.func27, Tryz.ntmps27
  go_wp2_with fail
  refine HI.out.mono ?_
  rintro e w1 ⟨rfl, hbel⟩
  have hm : idxI (fun x : ByteArray => x.toList == k.toList) [] = -1 := rfl
  rw [hm]
  go_wp2
  go_ret
  exact ⟨A, cap, rfl, Ylc H.out (fun q hq => by obtain ⟨cells, h2⟩ := Yva H.out q hq; exact hbel.block q (Yx h2)), rfl, fun q hq _ => hbel.block q hq, hbel.size, fun B _ hB => hbel.mono hB⟩
set_option maxHeartbeats 4000000 in
set_option maxRecDepth 100000 in
theorem Yyo {w : World} {M : Nat → Prop} {bb : Nat} {s : Bk} {sv : Value} {ps : List ChP} {ow : Nat → Nat × Nat} (h : BookO w M bb s sv ps ow) (hE : EnvOk w) (hsz : s.l.length ≤ 1000000) (uid : ByteArray) (p : ChP) (c : Ch) (hp : ps[Yoa s.l uid]? = some p) (hc : s.l[Yoa s.l uid]? = some c)
  (n : Nat) (hn : n < 3) (hl : (c.l n).length ≤ 64) (u : ByteArray) (hu : u.size ≤ 1000000000) :
  Calls Tryz.prog 10 #[.pointer (some ⟨bb, 0, none⟩), .string uid, .int .i64 (n : Int), .string u] w fun e w' => AddPost w M bb (Yeh s (Yoa s.l uid) c n u) e w' := by
 have HL := Ya.mk (Ysi h hsz uid p hp n hn)
 have H := Ya.mk h
 have HE := Ya.mk hE
 have HP := Ya.mk hp
 have HC := Ya.mk hc
 have HU := Ya.mk hu
 have HN := Ya.mk (And.intro hn hl)
 clear h hE hp hc hu hn hl hsz
 go_enter Tryz.func10, Tryz.ntmps10
 go_wp2_with fail
 refine HL.out.mono ?_
 rintro e w0 ⟨rfl, rfl⟩
 go_wp2_with fail
 refine (Yol u HU.out w HE.out).mono ?_
 rintro e w1 ⟨rfl, hb⟩
 have HB := Ya.mk (hb.alloc hb.size (.cells #[.string (keyP u).1] 9))
 have HW1 := Ya.mk hb
 have H1 := Ya.mk ((H.out.below hb).below ((Below.refl _ _).alloc (Nat.le_refl _) (.cells #[.string (keyP u).1] 9)))
 have hch := (H.out.below hb).chs _ p c HP.out HC.out
 clear hb
 by_cases hk : (keyP u).2 = 0
 ·have d1 : ((keyP u).2 == 0) = true := by rw [hk]; rfl
  have HK := Ya.mk hk
  have hcell := Ymg hch n HN.out.1
  have hlt := Yx hch.blk
  have HCH := Ya.mk hch
  obtain ⟨A, cap, hv, hcap⟩ := Yeb (hch.own n HN.out.1).2
  rw [hv] at hcell
  have HV := Ya.mk hv
  have hmf : ∀ (fn : Fn) (first cap : Array Value) (w : World), (Instr.makeFunc fn first cap).run Tryz.prog w = .ok (.func fn first cap) w := fun _ _ _ _ => rfl
  clear hch hv hk
  go_wp2_with fail
  have HCH2 := Ya.mk (H1.out.chs _ p c HP.out HC.out)
  have hown := (HCH2.out.own n HN.out.1).2
  rw [HV.out] at hown
  have hkb : some w1.heap.size ≠ (Value.slice A (c.l n).length cap).ownBlock := fun e => by
   rw [← HV.out] at e
   obtain ⟨cells, h2⟩ := Yva (HCH.out.own n HN.out.1).2 _ e.symm
   exact Nat.lt_irrefl _ (Yx h2)
  refine (Yuo (c.l n) A cap (keyP u).1 w1.heap.size _ hown (Nat.le_trans HN.out.2 Zq) ((Yf (heap_alloc_new w1 _) 0).trans rfl) hkb).mono ?_
  rintro e w3 ⟨A1, cap1, rfl, ho1, hb1, hk1, hs1, hbb1⟩
  have HBW := Ya.mk hbb1
  have hblk3 : w3.heap[p.cb]? = some (.cells (Yzg c p) 62 (0, 0)) := (hk1 p.cb (Yx HCH2.out.blk) (by rw [← HV.out]; intro he; obtain ⟨cells, h2⟩ := Yva (HCH2.out.own n HN.out.1).2 p.cb he.symm; rw [HCH2.out.blk] at h2; injection h2 with h2; injection h2 with _ h2 _; exact absurd h2 Zq)).trans HCH2.out.blk
  have HO1 := Ya.mk ho1
  have HB1 := Ya.mk hb1
  have HK1 := Ya.mk hk1
  have HS1 := Ya.mk hs1
  have HB3 := Ya.mk hblk3
  have hcell3 := (Yf hblk3 (2 + n)).trans ((Yqh c p n HN.out.1).trans (congrArg some HV.out))
  have hfz3 := Yc hblk3 (2 + n)
  have hk0 := HK.out
  clear ho1 hb1 hk1 hs1 hbb1 hblk3 hcell hown hkb hlt hk0
  generalize hll : left (fun x : ByteArray => x.toList == (keyP u).1.toList) (c.l n) = ll at HO1 HB1 hcell3 ⊢
  have HLL := Ya.mk hll
  clear hll
  go_wp2
  go_ret
  have hz1 := HB.out.size
  have hz3 := HS1.out
  have e1 : Yeh s (Yoa s.l uid) c n u = (0, s.setL (Yoa s.l uid) n ll) := by unfold Yeh; rw [if_neg (fun h => h HK.out), HLL.out]
  rw [e1]
  have hset : ∀ k, k ≠ p.cb → (w3.setCell ⟨p.cb, 2 + n, none⟩ (.slice A1 ll.length cap1)).heap[k]? = w3.heap[k]? := fun k hk => Below.heap_setCell w3 ⟨p.cb, 2 + n, none⟩ _ k hk
  have hnew : ∀ k, (Value.slice A1 ll.length cap1).ownBlock = some k → k ≠ p.cb := by
   intro k hk e
   obtain ⟨cells, h2⟩ := Yva HO1.out k hk
   rw [e, HB3.out] at h2
   injection h2 with h2
   injection h2 with _ h2 _
   exact absurd h2 Zq
  have hturn := BookO.turned (w3 := w3.setCell ⟨p.cb, 2 + n, none⟩ (.slice A1 ll.length cap1)) H1.out HP.out HC.out HN.out.1 (v := .slice A1 ll.length cap1) (l := ll)
   (Yfd HB3.out (2 + n) _ (Ywi c p n HN.out.1 _ _))
   (Ylc HO1.out (fun k hk => hset k (hnew k hk)))
   (by rw [HV.out]; exact .inl HB1.out)
   (fun k hk h1 h2 => (hset k h1).trans (HK1.out k hk (by rw [← HV.out]; exact h2)))
  refine ⟨by rw [HK.out]; rfl, _, fun k hk => ?_, ⟨_, _, _, hturn⟩, ?_, fun B hM hB => ((HB.out.mono hB).trans (HBW.out B (fun q hq => hM q (by rw [← HV.out] at hq; exact ((HCH2.out.own n HN.out.1).1 q hq).1)) (Nat.le_trans hB hz1))).setCell (p := ⟨p.cb, 2 + n, none⟩) (hM p.cb HCH.out.mem) _⟩
  ·rcases hk with hk | hk
   ·exact .inl hk
   ·exact .inr Zk
  ·refine ⟨by rw [Ycd]; omega, fun k hk hm => ?_⟩
   rw [hset k (fun e => hm (e ▸ HCH.out.mem)), HK1.out k Zk (fun e => hm (by rw [← HV.out] at e; exact ((HCH2.out.own n HN.out.1).1 k e.symm).1))]
   exact HB.out.block k hk
 ·have d1 : ((keyP u).2 == 0) = false := beq_eq_false_iff_ne.2 hk
  have HK := Ya.mk hk
  clear hk
  go_wp2
  go_ret
  have e1 : Yeh s (Yoa s.l uid) c n u = ((keyP u).2, s) := by unfold Yeh; rw [if_pos HK.out]
  rw [e1]
  exact ⟨rfl, Then.of_below ⟨_, _, _, H.out⟩ HB.out⟩
end Go.Proofs.YtfmjnmglagdcdaaGreatDoor.X
