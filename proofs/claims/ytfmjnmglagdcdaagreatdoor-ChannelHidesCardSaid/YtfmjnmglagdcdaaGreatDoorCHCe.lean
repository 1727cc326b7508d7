/- Create: what a call of it does. -/
import Derived.Test.YtfmjnmglagdcdaaGreatDoorCHWords
import Derived.Test.YtfmjnmglagdcdaaGreatDoorCHCc
import Derived.Test.YtfmjnmglagdcdaaGreatDoorCHX2
namespace Go.Proofs.YtfmjnmglagdcdaaGreatDoor.X
open Go.RowKit Go.Lib Go.Shelf Go.Yw.PrintWords Go.Yw.PrintLast Go.Yw.PrintMore
set_option linter.unusedVariables false
set_option linter.unusedSimpArgs false
def digB (m : Int) : ByteArray := strOfNums (Yie m.toNat)
def uidOf (m : Int) : ByteArray := (⟨#[99]⟩ : ByteArray) ++ digB m
def Ygd (s : Bk) (nb : Bool) (name : ByteArray) : ByteArray × Int × Bk :=
 if Ynf s nb name ≠ 0 then (⟨#[]⟩, Ynf s nb name, s) else if s.l.length = 32 ∨ s.made = 2147483647 then (⟨#[]⟩, 5, s) else (uidOf (s.made + 1), 0, { made := s.made + 1, l := s.l ++ [⟨uidOf (s.made + 1), name, fun _ => []⟩] })
def Yso (w : World) (M : Nat → Prop) (bb : Nat) (r : ByteArray × Int × Bk) (e : Ending) (w' : World) : Prop := e = .returned (.tuple #[.string r.1, .int .i64 r.2.1]) ∧ Then w M bb r.2.2 w'
set_option maxHeartbeats 4000000 in
set_option maxRecDepth 100000 in
theorem Yim {w : World} {M : Nat → Prop} {bb : Nat} {s : Bk} {sv : Value} {ps : List ChP} {ow : Nat → Nat × Nat} (h : BookO w M bb s sv ps ow) {wb : World} (hE0 : EnvOk wb) (hB0 : Below wb.heap.size wb w) (hM : ∀ k, M k → wb.heap.size ≤ k) (hsz : s.l.length ≤ 32) (hn0 : 0 < s.l.length) (hm0 : 0 ≤ s.made) (hm1 : s.made ≤ 2147483647) (name : ByteArray) (nb : Bool) (k : Nat) (hnb : Yhc.f k name = some nb) :
  Calls Tryz.prog 18 #[.pointer (some ⟨bb, 0, none⟩), .string name] w fun e w' => Yso w M bb (Ygd s nb name) e w' := by
 have hE := hE0.below hB0
 have HE0 := Ya.mk hE0
 have HB0 := Ya.mk hB0
 have HM := Ya.mk hM
 have HOK := Ya.mk (Ydi h hn0)
 have HNC := Ya.mk (Yhn h hE Zk name nb k hnb)
 have H := Ya.mk h
 have HE := Ya.mk hE
 clear h hE hnb hE0 hB0 hM
 go_enter Tryz.func18, Tryz.ntmps18
 go_wp2_with fail
 refine HOK.out.mono ?_
 rintro e w0 ⟨rfl, rfl⟩
 go_wp2_with fail
 refine HNC.out.mono ?_
 rintro e w1 ⟨rfl, hb⟩
 have HB := Ya.mk hb
 have h1 := H.out.below hb
 have H1 := Ya.mk h1
 clear hb
 by_cases hne : Ynf s nb name = 0
 ·have HNE := Ya.mk hne
  rw [hne]
  clear hne
  obtain ⟨A, cap, hsv, hcap⟩ := Yeb h1.row
  have hc1 := h1.sv_cell
  have hc0 := h1.made_cell
  have hfz0 := Yc h1.blk 0
  rw [hsv] at hc1
  have HSV := Ya.mk hsv
  clear hsv h1
  by_cases h32 : s.l.length = 32
  ·have d1 : ((s.l.length : Int) == 32) = true := by rw [h32]; rfl
   have HX := Ya.mk h32
   clear h32
   go_wp2
   go_ret2
   have e1 : Ygd s nb name = (⟨#[]⟩, 5, s) := by unfold Ygd; rw [if_neg (fun h => h HNE.out), if_pos (.inl HX.out)]
   rw [e1]
   exact ⟨rfl, Then.of_below ⟨_, _, _, H.out⟩ HB.out⟩
  ·have d1 : ((s.l.length : Int) == 32) = false := beq_eq_false_iff_ne.2 Zk
   have HX := Ya.mk h32
   clear h32
   by_cases hmt : s.made = 2147483647
   ·have d2 : (s.made == 2147483647) = true := by rw [hmt]; rfl
    have HY := Ya.mk hmt
    clear hmt
    go_wp2
    go_ret2
    have e1 : Ygd s nb name = (⟨#[]⟩, 5, s) := by unfold Ygd; rw [if_neg (fun h => h HNE.out), if_pos (.inr HY.out)]
    rw [e1]
    exact ⟨rfl, Then.of_below ⟨_, _, _, H.out⟩ HB.out⟩
   ·have d2 : (s.made == 2147483647) = false := beq_eq_false_iff_ne.2 hmt
    have HY := Ya.mk hmt
    have hm2 : s.made < 2147483647 := by omega
    clear hmt
    go_wp2_with fail
    have HB2 := Ya.mk (Yfd H1.out.blk 0 (.int .i64 (s.made + 1)) rfl)
    have hk2 : ∀ q, q ≠ bb → (w1.setCell ⟨bb, 0, none⟩ (.int .i64 (s.made + 1))).heap[q]? = w1.heap[q]? := fun q hq => Below.heap_setCell w1 ⟨bb, 0, none⟩ _ q hq
    have hs2 := Ycd w1 ⟨bb, 0, none⟩ (.int .i64 (s.made + 1))
    have hE2 : EnvOk (w1.setCell ⟨bb, 0, none⟩ (.int .i64 (s.made + 1))) := HE0.out.below ((HB0.out.trans (HB.out.mono HB0.out.size)).setCell (p := ⟨bb, 0, none⟩) (HM.out bb H.out.mem) _)
    have HK2 := Ya.mk hk2
    have HS2 := Ya.mk hs2
    have HE2 := Ya.mk hE2
    have HBW2 := Ya.mk (show ∀ B, B ≤ w.heap.size → B ≤ bb → Below B w (w1.setCell ⟨bb, 0, none⟩ (.int .i64 (s.made + 1))) from fun B h1 h2 => (HB.out.mono h1).setCell (p := ⟨bb, 0, none⟩) h2 _)
    obtain ⟨k2, hk3⟩ := text_f (s.made + 1).toNat Zk
    have hk4 := hk3 k2 (Nat.le_refl _)
    rw [Int.toNat_of_nonneg Zk] at hk4
    have HT := Ya.mk hk4
    clear hk2 hs2 hE2 hk3 hk4 hc0 hc1 hfz0
    generalize w1.setCell ⟨bb, 0, none⟩ (.int .i64 (s.made + 1)) = w2 at HB2 HK2 HS2 HE2 HBW2 ⊢
    refine (Yrb.calls k2 _ _ w2 HE2.out HT.out).mono ?_
    rintro e w3 ⟨rfl, hb3⟩
    have hdz : (digB (s.made + 1)).size ≤ 20 := by unfold digB; rw [strOfNums_size]; exact Ycg _
    have hdd : strOfNums (Yie (s.made + 1).toNat) = digB (s.made + 1) := rfl
    rw [hdd]
    have e1 : Ygd s nb name = ((⟨#[99]⟩ : ByteArray) ++ digB (s.made + 1), 0, { made := s.made + 1, l := s.l ++ [⟨(⟨#[99]⟩ : ByteArray) ++ digB (s.made + 1), name, fun _ => []⟩] }) := by unfold Ygd uidOf; rw [if_neg (fun h => h HNE.out), if_neg (fun h => h.elim HX.out HY.out)]
    have HR := Ya.mk e1
    clear e1
    generalize digB (s.made + 1) = dg at hdz HR ⊢
    have hz1 : 1 + dg.size ≤ 9223372036854775807 := by omega
    have hz2 : (9223372036854775807 < 1 + dg.size) = False := eq_false Zk
    have HB3 := Ya.mk hb3
    have hblk3 := Yua HB2.out hb3
    have hc3 : w3.cell? ⟨bb, 1, none⟩ = some (.slice A s.l.length cap) := (Yf hblk3 1).trans (congrArg some HSV.out)
    have hsvk : ∀ q, sv.ownBlock = some q → q ≠ bb ∧ q < w1.heap.size ∧ M q := fun q hq => by
     obtain ⟨cells, h2⟩ := Yva H1.out.row q hq
     refine ⟨fun e => ?_, Yx h2, H1.out.okv q hq⟩
     rw [e, H1.out.blk] at h2
     injection h2 with h2
     injection h2 with _ h2 _
     exact absurd h2 Zq
    have hk13 : ∀ q, q < w1.heap.size → q ≠ bb → w3.heap[q]? = w1.heap[q]? := fun q h1 h2 => (HB3.out.block q (by rw [HS2.out]; exact h1)).trans (HK2.out q h2)
    have hs13 : w1.heap.size ≤ w3.heap.size := by have := HB3.out.size; rw [HS2.out] at this; exact this
    have hrow := Ylc H1.out.row (fun q hq => hk13 q (hsvk q hq).2.1 (hsvk q hq).1)
    rw [HSV.out] at hrow
    have hbbne : some bb ≠ (Value.slice A s.l.length cap).ownBlock := fun e => (hsvk bb (by rw [HSV.out]; exact e.symm)).1 rfl
    have HBB := Ya.mk hbbne
    have HK13 := Ya.mk hk13
    have HSVK := Ya.mk hsvk
    have HROW := Ya.mk hrow
    have HBK3 := Ya.mk hblk3
    have HSZ := Ya.mk (show s.l.length ≤ 1000000 by omega)
    have HS13 := Ya.mk hs13
    clear hblk3 hsvk hk13 hs13 hrow hbbne hb3
    go_wp2_with (at_builtin; refine app_one (W := w3.alloc (.cells #[.string ((⟨#[99]⟩ : ByteArray) ++ dg), .string name, .slice none 0 0, .slice none 0 0, .slice none 0 0] 62)) rfl (.tmp 47) (.tmp 53) 52 59 (.pointer none) 8 rfl Tryz.underlying52 Zg rfl (.slice A s.l.length cap) s.l.length (ps.map ptrV) (.pointer (some ⟨w3.heap.size, 0, none⟩)) rfl rfl (by rw [Yz]; rfl) (HROW.out.alloc _) HSZ.out Zq ?_; intro v1 w5 hown1 hg1 hat1; obtain ⟨A1, cap1, rfl, hcap1⟩ := Yeb hown1; have HO1 := Ya.mk hown1; have HG1 := Ya.mk hg1; have HA1 := Ya.mk hat1; have hblk5 := (HG1.out.block bb (by rw [Yz]; have := Yx HBK3.out; omega) HBB.out).trans (Yca HBK3.out _); have HB5 := Ya.mk hblk5; have hcell5 := (Yf hblk5 1).trans (congrArg some HSV.out); have hfz5 := Yc hblk5 1; clear hown1 hg1 hat1 hblk5 hc3)
    go_ret2
    have hz3 := HB.out.size
    have hz13 := HS13.out
    have hz5 := HG1.out.size
    rw [Yz] at hz5
    have hbl := Yx HBK3.out
    have hbl1 := Yx H1.out.blk
    have hset : ∀ q, q ≠ bb → (w5.setCell ⟨bb, 1, none⟩ (.slice A1 (s.l.length + 1) cap1)).heap[q]? = w5.heap[q]? := fun q hq => Below.heap_setCell w5 ⟨bb, 1, none⟩ _ q hq
    have hnew : ∀ q, (Value.slice A1 (s.l.length + 1) cap1).ownBlock = some q → q ≠ bb := by
     intro q hq e
     obtain ⟨cells, h2⟩ := Yva HO1.out q hq
     rw [e, HB5.out] at h2
     injection h2 with h2
     injection h2 with _ h2 _
     exact absurd h2 Zq
    have hk15 : ∀ q, q < w1.heap.size → q ≠ bb → some q ≠ (Value.slice A s.l.length cap).ownBlock → (w5.setCell ⟨bb, 1, none⟩ (.slice A1 (s.l.length + 1) cap1)).heap[q]? = w1.heap[q]? := fun q h1 h2 h3 =>
     (hset q h2).trans ((HG1.out.block q Zoa h3).trans ((Below.heap_alloc w3 _ q Zk).trans (HK13.out q h1 h2)))
    have hq5 : w5.heap[w3.heap.size]? = some (.cells #[.string ((⟨#[99]⟩ : ByteArray) ++ dg), .string name, .slice none 0 0, .slice none 0 0, .slice none 0 0] 62 (0, 0)) :=
     (HG1.out.block _ Zoa (fun e => by
      have h2 := (HSVK.out _ (by rw [HSV.out]; exact e.symm)).2.1
      omega)).trans (heap_alloc_new w3 _)
    have hsn := BookO.snoc (w6 := w5.setCell ⟨bb, 1, none⟩ (.slice A1 (s.l.length + 1) cap1)) H1.out (made := s.made + 1) (sv1 := .slice A1 (s.l.length + 1) cap1) (q := w3.heap.size) (c := ⟨(⟨#[99]⟩ : ByteArray) ++ dg, name, fun _ => []⟩) (fun _ _ => rfl)
     (Yfd HB5.out 1 _ rfl) (Ylc HO1.out (fun q hq => hset q (hnew q hq))) ((hset _ Zk).trans hq5) hz13
     (by rw [HSV.out]; exact HA1.out.imp id (fun ⟨b, h1, h2⟩ => ⟨b, h1, by rw [Yz] at h2; omega⟩))
     (fun q h1 h2 h3 => hk15 q h1 h2 (by rw [← HSV.out]; exact h3))
    rw [HR.out]
    refine ⟨rfl, _, fun q hq => ?_, ⟨_, _, _, hsn⟩, ?_, fun B hM2 hB => ?_⟩
    ·rcases hq with hq | hq
     ·exact .inl hq
     ·exact .inr Zk
    ·refine ⟨by rw [Ycd]; omega, fun q hq hm => ?_⟩
     rw [hk15 q Zk (fun e => hm (e ▸ H.out.mem)) (fun e => hm (HSVK.out q (by rw [HSV.out]; exact e.symm)).2.2)]
     exact HB.out.block q hq
    ·have hb2 : Below B w w2 := HBW2.out B hB (hM2 bb H.out.mem)
     exact (below_grown ((hb2.trans (HB3.out.mono (Nat.le_trans hB (Nat.le_trans hz3 (Nat.le_of_eq HS2.out.symm))))).alloc Zk _) HG1.out (fun q hq => hM2 q (HSVK.out q (by rw [HSV.out]; exact hq)).2.2) Zoa).setCell (p := ⟨bb, 1, none⟩) (hM2 bb H.out.mem) _
 ·have d1 : (Ynf s nb name != 0) = true := bne_iff_ne.2 hne
  have HX := Ya.mk hne
  clear hne h1
  go_wp2
  go_ret2
  have e1 : Ygd s nb name = (⟨#[]⟩, Ynf s nb name, s) := by unfold Ygd; rw [if_pos HX.out]
  rw [e1]
  exact ⟨rfl, Then.of_below ⟨_, _, _, H.out⟩ HB.out⟩
end Go.Proofs.YtfmjnmglagdcdaaGreatDoor.X
