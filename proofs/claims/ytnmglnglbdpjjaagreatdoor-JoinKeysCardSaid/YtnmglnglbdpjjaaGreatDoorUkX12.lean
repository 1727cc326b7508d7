/- Printed by a program of ours: functions as plain Lean, and what a call of each does. -/
import Derived.Test.YtnmglnglbdpjjaaGreatDoorUkWords
import Derived.Test.YtnmglnglbdpjjaaGreatDoorUkX0
import Derived.Test.YtnmglnglbdpjjaaGreatDoorUkX5
import Derived.Test.YtnmglnglbdpjjaaGreatDoorUkX9
namespace Go.Proofs.YtnmglnglbdpjjaaGreatDoor.X
open Go.RowKit Go.Yw.PrintWords Go.Yw.PrintLast Go.Yw.PrintMore
attribute [local go_sem] Yde Yee Ywe Yve Ypd Yod Yce Ybe
set_option linter.unusedVariables false
set_option linter.unusedSimpArgs false
set_option maxHeartbeats 8000000
set_option maxRecDepth 100000
def Yo.j0 : Nat → ByteArray → ByteArray → ByteArray → Int → ByteArray → ByteArray → ByteArray → Bool → Bool → Option (ByteArray)
 | 0, _, _, _, _, _, _, _, _, _ => none
 | k + 1, x3, aTa, aTb, aTc, hO, kX, jK, aEl, aAm => if x3.size + hO.size ≤ 9223372036854775807 then (if aEl = true then (if 1 + kX.size ≤ 9223372036854775807 then (if (x3 ++ hO).size + ((⟨#[63]⟩ : ByteArray) ++ kX).size ≤ 9223372036854775807 then (if aAm = true then (if 1 + jK.size ≤ 9223372036854775807 then (if ((x3 ++ hO) ++ ((⟨#[63]⟩ : ByteArray) ++ kX)).size + ((⟨#[35]⟩ : ByteArray) ++ jK).size ≤ 9223372036854775807 then (some (((x3 ++ hO) ++ ((⟨#[63]⟩ : ByteArray) ++ kX)) ++ ((⟨#[35]⟩ : ByteArray) ++ jK))) else (none)) else (none)) else (some ((x3 ++ hO) ++ ((⟨#[63]⟩ : ByteArray) ++ kX)))) else (none)) else (none)) else (if aAm = true then (if 1 + jK.size ≤ 9223372036854775807 then (if (x3 ++ hO).size + ((⟨#[35]⟩ : ByteArray) ++ jK).size ≤ 9223372036854775807 then (some ((x3 ++ hO) ++ ((⟨#[35]⟩ : ByteArray) ++ jK))) else (none)) else (none)) else (some (x3 ++ hO)))) else (none)
def Yo.f (k : Nat) (aC aH : ByteArray) (aJ : Int) (aG aI aK : ByteArray) (aQ aR : Bool) : Option (ByteArray) := if aC.size + 3 ≤ 9223372036854775807 then (if (aC ++ (⟨#[58, 47, 47]⟩ : ByteArray)).size + aH.size ≤ 9223372036854775807 then (if aJ = 0 then (Yo.j0 k ((aC ++ (⟨#[58, 47, 47]⟩ : ByteArray)) ++ aH) aC aH aJ aG aI aK aQ aR) else ((Yxc.f k aJ).bind fun iM => (if 1 + iM.size ≤ 9223372036854775807 then (if ((aC ++ (⟨#[58, 47, 47]⟩ : ByteArray)) ++ aH).size + ((⟨#[58]⟩ : ByteArray) ++ iM).size ≤ 9223372036854775807 then (Yo.j0 k (((aC ++ (⟨#[58, 47, 47]⟩ : ByteArray)) ++ aH) ++ ((⟨#[58]⟩ : ByteArray) ++ iM)) aC aH aJ aG aI aK aQ aR) else (none)) else (none)))) else (none)) else (none)
theorem Yo.calls (k : Nat) (aC aH : ByteArray) (aJ : Int) (aG aI aK : ByteArray) (aQ aR : Bool) (r : ByteArray) (w : World) (hE : EnvOk w) (h : Yo.f k aC aH aJ aG aI aK aQ aR = some r) :
  Calls Tryz.prog 25 #[.agg #[.string aC, .string aH, .int .i64 aJ, .string aG, .string aI, .string aK, .bool aQ, .bool aR]] w fun e w' => e = .returned (.string r) ∧ Below w.heap.size w w' := by
 have cB := Tryz.underlying25
 have HE := Ya.mk hE
 clear hE
 have HB := Ya.mk (Below.refl w.heap.size w)
 have H : (if aC.size + 3 ≤ 9223372036854775807 then (if (aC ++ (⟨#[58, 47, 47]⟩ : ByteArray)).size + aH.size ≤ 9223372036854775807 then (if aJ = 0 then (Yo.j0 k ((aC ++ (⟨#[58, 47, 47]⟩ : ByteArray)) ++ aH) aC aH aJ aG aI aK aQ aR) else ((Yxc.f k aJ).bind fun iM => (if 1 + iM.size ≤ 9223372036854775807 then (if ((aC ++ (⟨#[58, 47, 47]⟩ : ByteArray)) ++ aH).size + ((⟨#[58]⟩ : ByteArray) ++ iM).size ≤ 9223372036854775807 then (Yo.j0 k (((aC ++ (⟨#[58, 47, 47]⟩ : ByteArray)) ++ aH) ++ ((⟨#[58]⟩ : ByteArray) ++ iM)) aC aH aJ aG aI aK aQ aR) else (none)) else (none)))) else (none)) else (none)) = some r := h
 clear h
 by_cases c2 : aC.size + 3 ≤ 9223372036854775807
 rotate_left
 ·rw [if_neg c2] at H
  exact absurd H Zv
 rw [if_pos c2] at H
 have eT := eq_true c2
 have kG : decide (aC.size + 3 ≤ 9223372036854775807) = true := decide_eq_true c2
 try have aFM : (9223372036854775807 < aC.size + 3) = False := eq_false (Nat.not_lt.2 c2)
 by_cases c3 : (aC ++ (⟨#[58, 47, 47]⟩ : ByteArray)).size + aH.size ≤ 9223372036854775807
 rotate_left
 ·rw [if_neg c3] at H
  exact absurd H Zv
 rw [if_pos c3] at H
 have cJ := eq_true c3
 have fY : decide ((aC ++ (⟨#[58, 47, 47]⟩ : ByteArray)).size + aH.size ≤ 9223372036854775807) = true := decide_eq_true c3
 try have aBj : (9223372036854775807 < (aC ++ (⟨#[58, 47, 47]⟩ : ByteArray)).size + aH.size) = False := eq_false (Nat.not_lt.2 c3)
 have HC4 := Ya.mk H
 clear H
 go_enter Tryz.func25, Tryz.ntmps25
 go_upto_if 12 with (first | ((with_reducible refine Ywc (N := 1) rfl ?_); refine Yrc ?hg (N := 1) ?hd (cs := #[.string aC, .string aH, .int .i64 aJ, .string aG, .string aI, .string aK, .bool aQ, .bool aR]) (t := 25) ?hr ?_; (case hd => rfl); (case hg => rfl); (case hr => first | (go_simp; done) | (go_simp; rfl)); intro bY hg w5 hbox hb; have aM := Ya.mk (Ys Za hb); have aU := Ya.mk (hbox); have bI := Ya.mk ((by rw [hg]; exact (Yda Za) : w.heap.size ≤ bY)); have dE := Ya.mk ((by rw [hg]; exact (Yda Za) : w.heap.size ≤ bY)); clear HB; have HB := aM; have bB := aU; have aXC := bI; have aHH := dE; clear aM aU bI dE; clear hb hbox hg; have nO : w5.cell? ⟨bY, 0, none⟩ = some (.string aC) := (Yf bB.out 0).trans rfl; have nP : w5.cell? ⟨bY, 1, none⟩ = some (.string aH) := (Yf bB.out 1).trans rfl; have nQ : w5.cell? ⟨bY, 2, none⟩ = some (.int .i64 aJ) := (Yf bB.out 2).trans rfl; have nR : w5.cell? ⟨bY, 3, none⟩ = some (.string aG) := (Yf bB.out 3).trans rfl; have nS : w5.cell? ⟨bY, 4, none⟩ = some (.string aI) := (Yf bB.out 4).trans rfl; have nT : w5.cell? ⟨bY, 5, none⟩ = some (.string aK) := (Yf bB.out 5).trans rfl; have nU : w5.cell? ⟨bY, 6, none⟩ = some (.bool aQ) := (Yf bB.out 6).trans rfl; have nV : w5.cell? ⟨bY, 7, none⟩ = some (.bool aR) := (Yf bB.out 7).trans rfl; have nW := Ye bB.out 0; have nX := Ye bB.out 1; have nY := Ye bB.out 2; have nZ := Ye bB.out 3; have oA := Ye bB.out 4; have oB := Ye bB.out 5; have oC := Ye bB.out 6; have oD := Ye bB.out 7))
 (try simp only [Act.put, List.setIfInBounds_toArray, List.set_cons_zero, List.set_cons_succ])
 go_cut [3] (fun v3 wc => ∃ (kq : Nat) (gR : ByteArray), v3 = .string gR ∧ Ya (Yo.j0 kq gR aC aH aJ aG aI aK aQ aR = some r) ∧ Ya (kq ≤ k) ∧ Ya (wc.heap[bY]? = some (.cells #[.string aC, .string aH, .int .i64 aJ, .string aG, .string aI, .string aK, .bool aQ, .bool aR] 25 (0, 0))) ∧ Ya (Below w.heap.size w wc))
 case first =>
  have H := HC4.out
  clear HC4
  by_cases c7 : aJ = 0
  ·rw [if_pos c7] at H
   have dA : (aJ == 0) = true := beq_iff_eq.mpr c7
   have iF : (aJ != 0) = false := bne_eq_false_iff_eq.mpr c7
   clear c7
   (first | rw [dA] | (simp only [Yma, Yqa]; rw [dA]) | skip)
   have H' := Ya.mk H
   clear H
   go_wp2
   go_meet
   case rel => exact ⟨_, ((aC ++ (⟨#[58, 47, 47]⟩ : ByteArray)) ++ aH), Zf, H', ⟨Zna⟩, ⟨Zeb⟩, ⟨Zw⟩⟩
  rw [if_neg c7] at H
  have dA : (aJ == 0) = false := beq_eq_false_iff_ne.mpr c7
  have iF : (aJ != 0) = true := bne_iff_ne.mpr c7
  (first | rw [dA] | (simp only [Yma, Yqa]; rw [dA]) | skip)
  replace H := Option.bind_eq_some_iff.mp H
  obtain ⟨iM, xJ, H⟩ := H
  try dsimp -simprocs only at H
  have A8 := Ya.mk xJ
  clear xJ
  by_cases c9 : 1 + iM.size ≤ 9223372036854775807
  rotate_left
  ·rw [if_neg c9] at H
   exact absurd H Zv
  rw [if_pos c9] at H
  have iI := eq_true c9
  have oF : decide (1 + iM.size ≤ 9223372036854775807) = true := decide_eq_true c9
  try have aBk : (9223372036854775807 < 1 + iM.size) = False := eq_false (Nat.not_lt.2 c9)
  by_cases dR : ((aC ++ (⟨#[58, 47, 47]⟩ : ByteArray)) ++ aH).size + ((⟨#[58]⟩ : ByteArray) ++ iM).size ≤ 9223372036854775807
  rotate_left
  ·rw [if_neg dR] at H
   exact absurd H Zv
  rw [if_pos dR] at H
  have hH := eq_true dR
  have aBw : decide (((aC ++ (⟨#[58, 47, 47]⟩ : ByteArray)) ++ aH).size + ((⟨#[58]⟩ : ByteArray) ++ iM).size ≤ 9223372036854775807) = true := decide_eq_true dR
  try have aKz : (9223372036854775807 < ((aC ++ (⟨#[58, 47, 47]⟩ : ByteArray)) ++ aH).size + ((⟨#[58]⟩ : ByteArray) ++ iM).size) = False := eq_false (Nat.not_lt.2 dR)
  have H' := Ya.mk H
  clear H
  have lY : w5.cell? ⟨bY, 0, none⟩ = some (.string aC) := (Yf bB.out 0).trans rfl
  have lZ : w5.cell? ⟨bY, 1, none⟩ = some (.string aH) := (Yf bB.out 1).trans rfl
  have mA : w5.cell? ⟨bY, 2, none⟩ = some (.int .i64 aJ) := (Yf bB.out 2).trans rfl
  have mB : w5.cell? ⟨bY, 3, none⟩ = some (.string aG) := (Yf bB.out 3).trans rfl
  have mC : w5.cell? ⟨bY, 4, none⟩ = some (.string aI) := (Yf bB.out 4).trans rfl
  have mD : w5.cell? ⟨bY, 5, none⟩ = some (.string aK) := (Yf bB.out 5).trans rfl
  have mE : w5.cell? ⟨bY, 6, none⟩ = some (.bool aQ) := (Yf bB.out 6).trans rfl
  have mF : w5.cell? ⟨bY, 7, none⟩ = some (.bool aR) := (Yf bB.out 7).trans rfl
  have mG := Ye bB.out 0
  have mH := Ye bB.out 1
  have mI := Ye bB.out 2
  have mJ := Ye bB.out 3
  have mK := Ye bB.out 4
  have mL := Ye bB.out 5
  have mM := Ye bB.out 6
  have mN := Ye bB.out 7
  go_wp2_with (first | ((with_reducible refine Yh (f := 67) rfl ?_); refine Yba (some 16) rfl rfl Tryz.func67 Zi rfl #[.int .i64 aJ] rfl Zb ?_; (with_reducible refine (Yxc.calls k aJ iM _ ?side1 A8.out).mono ?_); (case side1 => first | exact HE.out | exact EnvOk.below HE.out Zw); rintro e vG ⟨rfl, hb⟩; refine ⟨_, rfl, ?_⟩; have aM := Ya.mk (Ydb (g := bY) (o := .cells #[.string aC, .string aH, .int .i64 aJ, .string aG, .string aI, .string aK, .bool aQ, .bool aR] 25 (0, 0)) Zeb hb); have aU := Ya.mk (Ys Zw hb); clear bB; clear HB; have bB := aM; have HB := aU; clear aM aU; (try clear hb); (try clear cC); (try clear hk); (try clear hi)))
  go_meet
  case rel => exact ⟨_, (((aC ++ (⟨#[58, 47, 47]⟩ : ByteArray)) ++ aH) ++ ((⟨#[58]⟩ : ByteArray) ++ iM)), Zf, H', ⟨Zna⟩, ⟨Zeb⟩, ⟨Zw⟩⟩
 case rest =>
  clear HC4
  try clear c1
  try clear c2
  try clear eT
  try clear kG
  try clear aFM
  try clear p2
  try clear c3
  try clear cJ
  try clear fY
  try clear aBj
  try clear c6
  try clear c7
  try clear dA
  try clear iF
  try clear c9
  try clear iI
  try clear oF
  try clear aBk
  try clear dR
  try clear hH
  try clear aBw
  try clear aKz
  try clear lY
  try clear lZ
  try clear mA
  try clear mB
  try clear mC
  try clear mD
  try clear mE
  try clear mF
  try clear nO
  try clear nP
  try clear nQ
  try clear nR
  try clear nS
  try clear nT
  try clear nU
  try clear nV
  try clear mG
  try clear mH
  try clear mI
  try clear mJ
  try clear mK
  try clear mL
  try clear mM
  try clear mN
  try clear nW
  try clear nX
  try clear nY
  try clear nZ
  try clear oA
  try clear oB
  try clear oC
  try clear oD
  obtain ⟨kq, gR, rfl, HA, HJ3, bB, HB⟩ := hcut
  cases kq with
  | zero => exact absurd HA.out (by simp [Yo.j0])
  | succ kj3 =>
   have H := HA.out
   clear HA
   simp only [Yo.j0] at H
   by_cases eN : gR.size + aG.size ≤ 9223372036854775807
   rotate_left
   ·rw [if_neg eN] at H
    exact absurd H Zv
   rw [if_pos eN] at H
   have hM := eq_true eN
   have aFm : decide (gR.size + aG.size ≤ 9223372036854775807) = true := decide_eq_true eN
   try have aXD : (9223372036854775807 < gR.size + aG.size) = False := eq_false (Nat.not_lt.2 eN)
   by_cases gS : aQ = true
   rotate_left
   ·replace gS := Bool.eq_false_iff.mpr gS
    subst gS
    rw [if_neg (show ¬ (false = true) by decide)] at H
    by_cases iJ : aR = true
    rotate_left
    ·replace iJ := Bool.eq_false_iff.mpr iJ
     subst iJ
     rw [if_neg (show ¬ (false = true) by decide)] at H
     obtain rfl := Option.some.inj H
     have aTd : wc.cell? ⟨bY, 0, none⟩ = some (.string aC) := (Yf bB.out 0).trans rfl
     have aTe : wc.cell? ⟨bY, 1, none⟩ = some (.string aH) := (Yf bB.out 1).trans rfl
     have aTf : wc.cell? ⟨bY, 2, none⟩ = some (.int .i64 aJ) := (Yf bB.out 2).trans rfl
     have aTg : wc.cell? ⟨bY, 3, none⟩ = some (.string aG) := (Yf bB.out 3).trans rfl
     have aTh : wc.cell? ⟨bY, 4, none⟩ = some (.string aI) := (Yf bB.out 4).trans rfl
     have aTi : wc.cell? ⟨bY, 5, none⟩ = some (.string aK) := (Yf bB.out 5).trans rfl
     have aTj : wc.cell? ⟨bY, 6, none⟩ = some (.bool false) := (Yf bB.out 6).trans rfl
     have aTk : wc.cell? ⟨bY, 7, none⟩ = some (.bool false) := (Yf bB.out 7).trans rfl
     have aTl := Ye bB.out 0
     have aTm := Ye bB.out 1
     have aTn := Ye bB.out 2
     have aTo := Ye bB.out 3
     have aTp := Ye bB.out 4
     have aTq := Ye bB.out 5
     have aTr := Ye bB.out 6
     have aTs := Ye bB.out 7
     go_wp2
     go_ret
     exact ⟨Zk, Zw⟩
    subst iJ
    rw [if_pos rfl] at H
    by_cases jM : 1 + aK.size ≤ 9223372036854775807
    rotate_left
    ·rw [if_neg jM] at H
     exact absurd H Zv
    rw [if_pos jM] at H
    have oH := eq_true jM
    have oI : decide (1 + aK.size ≤ 9223372036854775807) = true := decide_eq_true jM
    try have aIn : (9223372036854775807 < 1 + aK.size) = False := eq_false (Nat.not_lt.2 jM)
    by_cases kE : (gR ++ aG).size + ((⟨#[35]⟩ : ByteArray) ++ aK).size ≤ 9223372036854775807
    rotate_left
    ·rw [if_neg kE] at H
     exact absurd H Zv
    rw [if_pos kE] at H
    have qP := eq_true kE
    have qQ : decide ((gR ++ aG).size + ((⟨#[35]⟩ : ByteArray) ++ aK).size ≤ 9223372036854775807) = true := decide_eq_true kE
    try have aXE : (9223372036854775807 < (gR ++ aG).size + ((⟨#[35]⟩ : ByteArray) ++ aK).size) = False := eq_false (Nat.not_lt.2 kE)
    obtain rfl := Option.some.inj H
    have rC : wc.cell? ⟨bY, 0, none⟩ = some (.string aC) := (Yf bB.out 0).trans rfl
    have rD : wc.cell? ⟨bY, 1, none⟩ = some (.string aH) := (Yf bB.out 1).trans rfl
    have rE : wc.cell? ⟨bY, 2, none⟩ = some (.int .i64 aJ) := (Yf bB.out 2).trans rfl
    have rF : wc.cell? ⟨bY, 3, none⟩ = some (.string aG) := (Yf bB.out 3).trans rfl
    have rG : wc.cell? ⟨bY, 4, none⟩ = some (.string aI) := (Yf bB.out 4).trans rfl
    have rH : wc.cell? ⟨bY, 5, none⟩ = some (.string aK) := (Yf bB.out 5).trans rfl
    have rI : wc.cell? ⟨bY, 6, none⟩ = some (.bool false) := (Yf bB.out 6).trans rfl
    have rJ : wc.cell? ⟨bY, 7, none⟩ = some (.bool true) := (Yf bB.out 7).trans rfl
    have rK := Ye bB.out 0
    have rL := Ye bB.out 1
    have rM := Ye bB.out 2
    have rN := Ye bB.out 3
    have rO := Ye bB.out 4
    have rP := Ye bB.out 5
    have rQ := Ye bB.out 6
    have rR := Ye bB.out 7
    go_wp2
    go_ret
    exact ⟨Zk, Zw⟩
   subst gS
   rw [if_pos rfl] at H
   by_cases dJ : 1 + aI.size ≤ 9223372036854775807
   rotate_left
   ·rw [if_neg dJ] at H
    exact absurd H Zv
   rw [if_pos dJ] at H
   have eU := eq_true dJ
   have qJ : decide (1 + aI.size ≤ 9223372036854775807) = true := decide_eq_true dJ
   try have aXF : (9223372036854775807 < 1 + aI.size) = False := eq_false (Nat.not_lt.2 dJ)
   by_cases eP : (gR ++ aG).size + ((⟨#[63]⟩ : ByteArray) ++ aI).size ≤ 9223372036854775807
   rotate_left
   ·rw [if_neg eP] at H
    exact absurd H Zv
   rw [if_pos eP] at H
   have hJ := eq_true eP
   have kM : decide ((gR ++ aG).size + ((⟨#[63]⟩ : ByteArray) ++ aI).size ≤ 9223372036854775807) = true := decide_eq_true eP
   try have aXG : (9223372036854775807 < (gR ++ aG).size + ((⟨#[63]⟩ : ByteArray) ++ aI).size) = False := eq_false (Nat.not_lt.2 eP)
   by_cases eH : aR = true
   rotate_left
   ·replace eH := Bool.eq_false_iff.mpr eH
    subst eH
    rw [if_neg (show ¬ (false = true) by decide)] at H
    obtain rfl := Option.some.inj H
    have aTt : wc.cell? ⟨bY, 0, none⟩ = some (.string aC) := (Yf bB.out 0).trans rfl
    have aTu : wc.cell? ⟨bY, 1, none⟩ = some (.string aH) := (Yf bB.out 1).trans rfl
    have aTv : wc.cell? ⟨bY, 2, none⟩ = some (.int .i64 aJ) := (Yf bB.out 2).trans rfl
    have aTw : wc.cell? ⟨bY, 3, none⟩ = some (.string aG) := (Yf bB.out 3).trans rfl
    have aTx : wc.cell? ⟨bY, 4, none⟩ = some (.string aI) := (Yf bB.out 4).trans rfl
    have aTy : wc.cell? ⟨bY, 5, none⟩ = some (.string aK) := (Yf bB.out 5).trans rfl
    have aTz : wc.cell? ⟨bY, 6, none⟩ = some (.bool true) := (Yf bB.out 6).trans rfl
    have aTA : wc.cell? ⟨bY, 7, none⟩ = some (.bool false) := (Yf bB.out 7).trans rfl
    have aTB := Ye bB.out 0
    have aTC := Ye bB.out 1
    have aTD := Ye bB.out 2
    have aTE := Ye bB.out 3
    have aTF := Ye bB.out 4
    have aTG := Ye bB.out 5
    have aTH := Ye bB.out 6
    have aTI := Ye bB.out 7
    go_wp2
    go_ret
    exact ⟨Zk, Zw⟩
   subst eH
   rw [if_pos rfl] at H
   by_cases eQ : 1 + aK.size ≤ 9223372036854775807
   rotate_left
   ·rw [if_neg eQ] at H
    exact absurd H Zv
   rw [if_pos eQ] at H
   have oG := eq_true eQ
   have qK : decide (1 + aK.size ≤ 9223372036854775807) = true := decide_eq_true eQ
   try have aEW : (9223372036854775807 < 1 + aK.size) = False := eq_false (Nat.not_lt.2 eQ)
   by_cases iP : ((gR ++ aG) ++ ((⟨#[63]⟩ : ByteArray) ++ aI)).size + ((⟨#[35]⟩ : ByteArray) ++ aK).size ≤ 9223372036854775807
   rotate_left
   ·rw [if_neg iP] at H
    exact absurd H Zv
   rw [if_pos iP] at H
   have kH := eq_true iP
   have qG : decide (((gR ++ aG) ++ ((⟨#[63]⟩ : ByteArray) ++ aI)).size + ((⟨#[35]⟩ : ByteArray) ++ aK).size ≤ 9223372036854775807) = true := decide_eq_true iP
   try have aIm : (9223372036854775807 < ((gR ++ aG) ++ ((⟨#[63]⟩ : ByteArray) ++ aI)).size + ((⟨#[35]⟩ : ByteArray) ++ aK).size) = False := eq_false (Nat.not_lt.2 iP)
   obtain rfl := Option.some.inj H
   have aDJ : wc.cell? ⟨bY, 0, none⟩ = some (.string aC) := (Yf bB.out 0).trans rfl
   have aDK : wc.cell? ⟨bY, 1, none⟩ = some (.string aH) := (Yf bB.out 1).trans rfl
   have aDL : wc.cell? ⟨bY, 2, none⟩ = some (.int .i64 aJ) := (Yf bB.out 2).trans rfl
   have aDM : wc.cell? ⟨bY, 3, none⟩ = some (.string aG) := (Yf bB.out 3).trans rfl
   have aDN : wc.cell? ⟨bY, 4, none⟩ = some (.string aI) := (Yf bB.out 4).trans rfl
   have aDO : wc.cell? ⟨bY, 5, none⟩ = some (.string aK) := (Yf bB.out 5).trans rfl
   have aDP : wc.cell? ⟨bY, 6, none⟩ = some (.bool true) := (Yf bB.out 6).trans rfl
   have aDQ : wc.cell? ⟨bY, 7, none⟩ = some (.bool true) := (Yf bB.out 7).trans rfl
   have aDR := Ye bB.out 0
   have aDS := Ye bB.out 1
   have aDT := Ye bB.out 2
   have aDU := Ye bB.out 3
   have aDV := Ye bB.out 4
   have aDW := Ye bB.out 5
   have aDX := Ye bB.out 6
   have aDY := Ye bB.out 7
   go_wp2
   go_ret
   exact ⟨Zk, Zw⟩
def Yz.l0 : Nat → ByteArray → Int → Option (Int)
 | 0, _, _ => none
 | k + 1, x0, x3 => if x3 < (x0.size : Int) then (if 0 ≤ x3 then ((Ysa.f (bt x0 x3)).bind fun aCl => (if aCl = true then (Yz.l0 k x0 (wrap64 (x3 + 1))) else (if x3 > 0 then ((Yy.f (bt x0 x3)).bind fun pD => (if pD = true then (Yz.l0 k x0 (wrap64 (x3 + 1))) else ((Yha.f k (bt x0 x3) (⟨#[43, 45, 46]⟩ : ByteArray)).bind fun rZ => (if rZ = true then (Yz.l0 k x0 (wrap64 (x3 + 1))) else (if x3 = 0 then (some 0) else (if x3 = (x0.size : Int) then (some 0) else (if (bt x0 x3) = 58 then (some (wrap64 (x3 + 1))) else (some 0)))))))) else (if x3 = 0 then (some 0) else (if x3 = (x0.size : Int) then (some 0) else (if (bt x0 x3) = 58 then (some (wrap64 (x3 + 1))) else (some 0))))))) else (none)) else (if x3 = 0 then (some 0) else (if x3 = (x0.size : Int) then (some 0) else (if 0 ≤ x3 then (none) else (none))))
def Yz.f (k : Nat) (a0 : ByteArray) : Option (Int) := Yz.l0 k a0 0
theorem Yz.calls (k : Nat) (a0 : ByteArray) (r : Int) (w : World) (hE : EnvOk w) (h : Yz.f k a0 = some r) :
  Calls Tryz.prog 46 #[.string a0] w fun e w' => e = .returned (.int .i64 r) ∧ Drawn0 w w' := by
 have HE := Ya.mk hE
 clear hE
 have H : (Yz.l0 k a0 0) = some r := h
 clear h
 have H' := Ya.mk H
 clear H
 go_enter Tryz.func46, Tryz.ntmps46
 go_wp2
 go_loopg [3] k (fun kq v3 w' => ∃ (aE : Int), v3 = .int .i64 aE ∧ Ya (Yz.l0 kq a0 aE = some r) ∧ Ya (kq ≤ k) ∧ Drawn0 w w')
 case atStart => exact ⟨(0), Zf, H', ⟨Nat.le_refl _⟩, Zh⟩
 case round =>
  clear H'
  obtain ⟨aE, rfl, HA, dD, ⟨m1, rfl⟩⟩ := hrel
  cases gk with
  | zero => exact absurd HA.out (by simp [Yz.l0])
  | succ k1 =>
   have H := HA.out
   clear HA
   simp only [Yz.l0] at H
   by_cases c2 : aE < (a0.size : Int)
   rotate_left
   ·rw [if_neg c2] at H
    have eT : decide (aE < (a0.size : Int)) = false := decide_eq_false c2
    clear c2
    by_cases iJ : aE = 0
    ·rw [if_pos iJ] at H
     have lT : (aE == 0) = true := beq_iff_eq.mpr iJ
     have oS : (aE != 0) = false := bne_eq_false_iff_eq.mpr iJ
     clear iJ
     obtain rfl := Option.some.inj H
     go_wp2
     go_ret
     exact ⟨Zf, Zh⟩
    rw [if_neg iJ] at H
    have lT : (aE == 0) = false := beq_eq_false_iff_ne.mpr iJ
    have oS : (aE != 0) = true := bne_iff_ne.mpr iJ
    by_cases jM : aE = (a0.size : Int)
    rotate_left
    ·rw [if_neg jM] at H
     have oH : (aE == (a0.size : Int)) = false := beq_eq_false_iff_ne.mpr jM
     have oI : (aE != (a0.size : Int)) = true := bne_iff_ne.mpr jM
     by_cases kE : 0 ≤ aE
     rotate_left
     ·rw [if_neg kE] at H
      exact absurd H Zv
     rw [if_pos kE] at H
     exact absurd H Zv
    rw [if_pos jM] at H
    have oH : (aE == (a0.size : Int)) = true := beq_iff_eq.mpr jM
    have oI : (aE != (a0.size : Int)) = false := bne_eq_false_iff_eq.mpr jM
    clear jM
    obtain rfl := Option.some.inj H
    go_wp2
    go_ret
    exact ⟨Zf, Zh⟩
   rw [if_pos c2] at H
   have eT : decide (aE < (a0.size : Int)) = true := decide_eq_true c2
   clear c2
   by_cases c3 : 0 ≤ aE
   rotate_left
   ·rw [if_neg c3] at H
    exact absurd H Zv
   rw [if_pos c3] at H
   have cJ : decide (0 ≤ aE) = true := decide_eq_true c3
   clear c3
   replace H := Option.bind_eq_some_iff.mp H
   obtain ⟨aCl, tT, H⟩ := H
   try dsimp -simprocs only at H
   have A5 := Ya.mk tT
   clear tT
   by_cases c6 : aCl = true
   ·subst c6
    rw [if_pos rfl] at H
    have H' := Ya.mk H
    clear H
    have p4 : 0 ≤ (aE : Int) := of_decide_eq_true Zc
    have q4 : aE < (a0.size : Int) := of_decide_eq_true Zc
    have kN := Yab a0 aE
    replace p4 := eq_true p4
    replace q4 := eq_true q4
    go_wp2_with (first | (go_at_call 86; (with_reducible refine (Ysa.calls (bt a0 aE) true _ ?side1 A5.out).mono ?_); (case side1 => first | exact HE.out | exact EnvOk.heap HE.out rfl); rintro e w' ⟨rfl, ⟨nd, rfl⟩⟩))
    go_roundg k1
    case measure => have := dD.out; omega
    case rel => exact ⟨(wrap64 (aE + 1)), Zf, H', ⟨Zaa⟩, Zh⟩
   replace c6 := Bool.eq_false_iff.mpr c6
   subst c6
   rw [if_neg (show ¬ (false = true) by decide)] at H
   by_cases c7 : aE > 0
   rotate_left
   ·rw [if_neg c7] at H
    have dA : decide (0 < aE) = false := decide_eq_false c7
    clear c7
    by_cases eQ : aE = 0
    ·rw [if_pos eQ] at H
     have oG : (aE == 0) = true := beq_iff_eq.mpr eQ
     have qK : (aE != 0) = false := bne_eq_false_iff_eq.mpr eQ
     clear eQ
     obtain rfl := Option.some.inj H
     have p4 : 0 ≤ (aE : Int) := of_decide_eq_true Zc
     have q4 : aE < (a0.size : Int) := of_decide_eq_true Zc
     have kN := Yab a0 aE
     replace p4 := eq_true p4
     replace q4 := eq_true q4
     go_wp2_with (first | (go_at_call 86; (with_reducible refine (Ysa.calls (bt a0 aE) false _ ?side1 A5.out).mono ?_); (case side1 => first | exact HE.out | exact EnvOk.heap HE.out rfl); rintro e w' ⟨rfl, ⟨nd, rfl⟩⟩))
     go_ret
     exact ⟨Zf, Zh⟩
    rw [if_neg eQ] at H
    have oG : (aE == 0) = false := beq_eq_false_iff_ne.mpr eQ
    have qK : (aE != 0) = true := bne_iff_ne.mpr eQ
    by_cases iP : aE = (a0.size : Int)
    ·rw [if_pos iP] at H
     have kH : (aE == (a0.size : Int)) = true := beq_iff_eq.mpr iP
     have qG : (aE != (a0.size : Int)) = false := bne_eq_false_iff_eq.mpr iP
     clear iP
     obtain rfl := Option.some.inj H
     have p4 : 0 ≤ (aE : Int) := of_decide_eq_true Zc
     have q4 : aE < (a0.size : Int) := of_decide_eq_true Zc
     have kN := Yab a0 aE
     replace p4 := eq_true p4
     replace q4 := eq_true q4
     go_wp2_with (first | (go_at_call 86; (with_reducible refine (Ysa.calls (bt a0 aE) false _ ?side1 A5.out).mono ?_); (case side1 => first | exact HE.out | exact EnvOk.heap HE.out rfl); rintro e w' ⟨rfl, ⟨nd, rfl⟩⟩))
     go_ret
     exact ⟨Zf, Zh⟩
    rw [if_neg iP] at H
    have kH : (aE == (a0.size : Int)) = false := beq_eq_false_iff_ne.mpr iP
    have qG : (aE != (a0.size : Int)) = true := bne_iff_ne.mpr iP
    by_cases mQ : (bt a0 aE) = 58
    rotate_left
    ·rw [if_neg mQ] at H
     have aAh : ((bt a0 aE) == 58) = false := beq_eq_false_iff_ne.mpr mQ
     have aCm : ((bt a0 aE) != 58) = true := bne_iff_ne.mpr mQ
     obtain rfl := Option.some.inj H
     have p4 : 0 ≤ (aE : Int) := of_decide_eq_true Zc
     have q4 : aE < (a0.size : Int) := of_decide_eq_true Zc
     have kN := Yab a0 aE
     replace p4 := eq_true p4
     replace q4 := eq_true q4
     go_wp2_with (first | (go_at_call 86; (with_reducible refine (Ysa.calls (bt a0 aE) false _ ?side1 A5.out).mono ?_); (case side1 => first | exact HE.out | exact EnvOk.heap HE.out rfl); rintro e w' ⟨rfl, ⟨nd, rfl⟩⟩; have p20 : 0 ≤ (aE : Int) := of_decide_eq_true Zc; have q20 : aE < (a0.size : Int) := of_decide_eq_true Zc; have aWx := Yab a0 aE; replace p20 := eq_true p20; replace q20 := eq_true q20))
     go_ret
     exact ⟨Zf, Zh⟩
    rw [if_pos mQ] at H
    have aAh : ((bt a0 aE) == 58) = true := beq_iff_eq.mpr mQ
    have aCm : ((bt a0 aE) != 58) = false := bne_eq_false_iff_eq.mpr mQ
    clear mQ
    obtain rfl := Option.some.inj H
    have p4 : 0 ≤ (aE : Int) := of_decide_eq_true Zc
    have q4 : aE < (a0.size : Int) := of_decide_eq_true Zc
    have kN := Yab a0 aE
    replace p4 := eq_true p4
    replace q4 := eq_true q4
    go_wp2_with (first | (go_at_call 86; (with_reducible refine (Ysa.calls (bt a0 aE) false _ ?side1 A5.out).mono ?_); (case side1 => first | exact HE.out | exact EnvOk.heap HE.out rfl); rintro e w' ⟨rfl, ⟨nd, rfl⟩⟩; have p20 : 0 ≤ (aE : Int) := of_decide_eq_true Zc; have q20 : aE < (a0.size : Int) := of_decide_eq_true Zc; have aWx := Yab a0 aE; replace p20 := eq_true p20; replace q20 := eq_true q20))
    go_ret
    exact ⟨Zf, Zh⟩
   rw [if_pos c7] at H
   have dA : decide (0 < aE) = true := decide_eq_true c7
   clear c7
   replace H := Option.bind_eq_some_iff.mp H
   obtain ⟨pD, A90, H⟩ := H
   try dsimp -simprocs only at H
   have A9 := Ya.mk A90
   clear A90
   by_cases dR : pD = true
   ·subst dR
    rw [if_pos rfl] at H
    have H' := Ya.mk H
    clear H
    have p4 : 0 ≤ (aE : Int) := of_decide_eq_true Zc
    have q4 : aE < (a0.size : Int) := of_decide_eq_true Zc
    have kN := Yab a0 aE
    replace p4 := eq_true p4
    replace q4 := eq_true q4
    go_wp2_with (first | (go_at_call 86; (with_reducible refine (Ysa.calls (bt a0 aE) false _ ?side1 A5.out).mono ?_); (case side1 => first | exact HE.out | exact EnvOk.heap HE.out rfl); rintro e w' ⟨rfl, ⟨nd, rfl⟩⟩; have p8 : 0 ≤ (aE : Int) := of_decide_eq_true Zc; have q8 : aE < (a0.size : Int) := of_decide_eq_true Zc; have hx8 := Yab a0 aE; replace p8 := eq_true p8; replace q8 := eq_true q8) | (go_at_call 87; (with_reducible refine (Yy.calls (bt a0 aE) true _ ?side1 A9.out).mono ?_); (case side1 => first | exact HE.out | exact EnvOk.heap HE.out rfl); rintro e w' ⟨rfl, ⟨nd, rfl⟩⟩))
    go_roundg k1
    case measure => have := dD.out; omega
    case rel => exact ⟨(wrap64 (aE + 1)), Zf, H', ⟨Zaa⟩, Zh⟩
   replace dR := Bool.eq_false_iff.mpr dR
   subst dR
   rw [if_neg (show ¬ (false = true) by decide)] at H
   replace H := Option.bind_eq_some_iff.mp H
   obtain ⟨rZ, aCa, H⟩ := H
   try dsimp -simprocs only at H
   have A12 := Ya.mk aCa
   clear aCa
   by_cases eN : rZ = true
   ·subst eN
    rw [if_pos rfl] at H
    have H' := Ya.mk H
    clear H
    have p4 : 0 ≤ (aE : Int) := of_decide_eq_true Zc
    have q4 : aE < (a0.size : Int) := of_decide_eq_true Zc
    have kN := Yab a0 aE
    replace p4 := eq_true p4
    replace q4 := eq_true q4
    go_wp2_with (first | (go_at_call 86; (with_reducible refine (Ysa.calls (bt a0 aE) false _ ?side1 A5.out).mono ?_); (case side1 => first | exact HE.out | exact EnvOk.heap HE.out rfl); rintro e w' ⟨rfl, ⟨nd, rfl⟩⟩; have p8 : 0 ≤ (aE : Int) := of_decide_eq_true Zc; have q8 : aE < (a0.size : Int) := of_decide_eq_true Zc; have hx8 := Yab a0 aE; replace p8 := eq_true p8; replace q8 := eq_true q8) | (go_at_call 87; (with_reducible refine (Yy.calls (bt a0 aE) false _ ?side1 A9.out).mono ?_); (case side1 => first | exact HE.out | exact EnvOk.heap HE.out rfl); rintro e w' ⟨rfl, ⟨nd, rfl⟩⟩; have iS : 0 ≤ (aE : Int) := of_decide_eq_true Zc; have iT : aE < (a0.size : Int) := of_decide_eq_true Zc; have lK := Yab a0 aE; replace iS := eq_true iS; replace iT := eq_true iT) | (go_at_call 88; (with_reducible refine (Yha.calls k1 (bt a0 aE) (⟨#[43, 45, 46]⟩ : ByteArray) true _ ?side1 A12.out).mono ?_); (case side1 => first | exact HE.out | exact EnvOk.heap HE.out rfl); rintro e w' ⟨rfl, ⟨nd, rfl⟩⟩))
    go_roundg k1
    case measure => have := dD.out; omega
    case rel => exact ⟨(wrap64 (aE + 1)), Zf, H', ⟨Zaa⟩, Zh⟩
   replace eN := Bool.eq_false_iff.mpr eN
   subst eN
   rw [if_neg (show ¬ (false = true) by decide)] at H
   by_cases gS : aE = 0
   ·rw [if_pos gS] at H
    have iH : (aE == 0) = true := beq_iff_eq.mpr gS
    have aKC : (aE != 0) = false := bne_eq_false_iff_eq.mpr gS
    clear gS
    obtain rfl := Option.some.inj H
    have p4 : 0 ≤ (aE : Int) := of_decide_eq_true Zc
    have q4 : aE < (a0.size : Int) := of_decide_eq_true Zc
    have kN := Yab a0 aE
    replace p4 := eq_true p4
    replace q4 := eq_true q4
    go_wp2_with (first | (go_at_call 86; (with_reducible refine (Ysa.calls (bt a0 aE) false _ ?side1 A5.out).mono ?_); (case side1 => first | exact HE.out | exact EnvOk.heap HE.out rfl); rintro e w' ⟨rfl, ⟨nd, rfl⟩⟩; have p8 : 0 ≤ (aE : Int) := of_decide_eq_true Zc; have q8 : aE < (a0.size : Int) := of_decide_eq_true Zc; have hx8 := Yab a0 aE; replace p8 := eq_true p8; replace q8 := eq_true q8) | (go_at_call 87; (with_reducible refine (Yy.calls (bt a0 aE) false _ ?side1 A9.out).mono ?_); (case side1 => first | exact HE.out | exact EnvOk.heap HE.out rfl); rintro e w' ⟨rfl, ⟨nd, rfl⟩⟩; have iS : 0 ≤ (aE : Int) := of_decide_eq_true Zc; have iT : aE < (a0.size : Int) := of_decide_eq_true Zc; have lK := Yab a0 aE; replace iS := eq_true iS; replace iT := eq_true iT) | (go_at_call 88; (with_reducible refine (Yha.calls k1 (bt a0 aE) (⟨#[43, 45, 46]⟩ : ByteArray) false _ ?side1 A12.out).mono ?_); (case side1 => first | exact HE.out | exact EnvOk.heap HE.out rfl); rintro e w' ⟨rfl, ⟨nd, rfl⟩⟩))
    go_ret
    exact ⟨Zf, Zh⟩
   rw [if_neg gS] at H
   have iH : (aE == 0) = false := beq_eq_false_iff_ne.mpr gS
   have aKC : (aE != 0) = true := bne_iff_ne.mpr gS
   by_cases dJ : aE = (a0.size : Int)
   ·rw [if_pos dJ] at H
    have eU : (aE == (a0.size : Int)) = true := beq_iff_eq.mpr dJ
    have qJ : (aE != (a0.size : Int)) = false := bne_eq_false_iff_eq.mpr dJ
    clear dJ
    obtain rfl := Option.some.inj H
    have p4 : 0 ≤ (aE : Int) := of_decide_eq_true Zc
    have q4 : aE < (a0.size : Int) := of_decide_eq_true Zc
    have kN := Yab a0 aE
    replace p4 := eq_true p4
    replace q4 := eq_true q4
    go_wp2_with (first | (go_at_call 86; (with_reducible refine (Ysa.calls (bt a0 aE) false _ ?side1 A5.out).mono ?_); (case side1 => first | exact HE.out | exact EnvOk.heap HE.out rfl); rintro e w' ⟨rfl, ⟨nd, rfl⟩⟩; have p8 : 0 ≤ (aE : Int) := of_decide_eq_true Zc; have q8 : aE < (a0.size : Int) := of_decide_eq_true Zc; have hx8 := Yab a0 aE; replace p8 := eq_true p8; replace q8 := eq_true q8) | (go_at_call 87; (with_reducible refine (Yy.calls (bt a0 aE) false _ ?side1 A9.out).mono ?_); (case side1 => first | exact HE.out | exact EnvOk.heap HE.out rfl); rintro e w' ⟨rfl, ⟨nd, rfl⟩⟩; have iS : 0 ≤ (aE : Int) := of_decide_eq_true Zc; have iT : aE < (a0.size : Int) := of_decide_eq_true Zc; have lK := Yab a0 aE; replace iS := eq_true iS; replace iT := eq_true iT) | (go_at_call 88; (with_reducible refine (Yha.calls k1 (bt a0 aE) (⟨#[43, 45, 46]⟩ : ByteArray) false _ ?side1 A12.out).mono ?_); (case side1 => first | exact HE.out | exact EnvOk.heap HE.out rfl); rintro e w' ⟨rfl, ⟨nd, rfl⟩⟩))
    go_ret
    exact ⟨Zf, Zh⟩
   rw [if_neg dJ] at H
   have eU : (aE == (a0.size : Int)) = false := beq_eq_false_iff_ne.mpr dJ
   have qJ : (aE != (a0.size : Int)) = true := bne_iff_ne.mpr dJ
   by_cases eH : (bt a0 aE) = 58
   rotate_left
   ·rw [if_neg eH] at H
    have jQ : ((bt a0 aE) == 58) = false := beq_eq_false_iff_ne.mpr eH
    have lS : ((bt a0 aE) != 58) = true := bne_iff_ne.mpr eH
    obtain rfl := Option.some.inj H
    have p4 : 0 ≤ (aE : Int) := of_decide_eq_true Zc
    have q4 : aE < (a0.size : Int) := of_decide_eq_true Zc
    have kN := Yab a0 aE
    replace p4 := eq_true p4
    replace q4 := eq_true q4
    go_wp2_with (first | (go_at_call 86; (with_reducible refine (Ysa.calls (bt a0 aE) false _ ?side1 A5.out).mono ?_); (case side1 => first | exact HE.out | exact EnvOk.heap HE.out rfl); rintro e w' ⟨rfl, ⟨nd, rfl⟩⟩; have p8 : 0 ≤ (aE : Int) := of_decide_eq_true Zc; have q8 : aE < (a0.size : Int) := of_decide_eq_true Zc; have hx8 := Yab a0 aE; replace p8 := eq_true p8; replace q8 := eq_true q8) | (go_at_call 87; (with_reducible refine (Yy.calls (bt a0 aE) false _ ?side1 A9.out).mono ?_); (case side1 => first | exact HE.out | exact EnvOk.heap HE.out rfl); rintro e w' ⟨rfl, ⟨nd, rfl⟩⟩; have iS : 0 ≤ (aE : Int) := of_decide_eq_true Zc; have iT : aE < (a0.size : Int) := of_decide_eq_true Zc; have lK := Yab a0 aE; replace iS := eq_true iS; replace iT := eq_true iT) | (go_at_call 88; (with_reducible refine (Yha.calls k1 (bt a0 aE) (⟨#[43, 45, 46]⟩ : ByteArray) false _ ?side1 A12.out).mono ?_); (case side1 => first | exact HE.out | exact EnvOk.heap HE.out rfl); rintro e w' ⟨rfl, ⟨nd, rfl⟩⟩; have p16 : 0 ≤ (aE : Int) := of_decide_eq_true Zc; have q16 : aE < (a0.size : Int) := of_decide_eq_true Zc; have aGu := Yab a0 aE; replace p16 := eq_true p16; replace q16 := eq_true q16))
    go_ret
    exact ⟨Zf, Zh⟩
   rw [if_pos eH] at H
   have jQ : ((bt a0 aE) == 58) = true := beq_iff_eq.mpr eH
   have lS : ((bt a0 aE) != 58) = false := bne_eq_false_iff_eq.mpr eH
   clear eH
   obtain rfl := Option.some.inj H
   have p4 : 0 ≤ (aE : Int) := of_decide_eq_true Zc
   have q4 : aE < (a0.size : Int) := of_decide_eq_true Zc
   have kN := Yab a0 aE
   replace p4 := eq_true p4
   replace q4 := eq_true q4
   go_wp2_with (first | (go_at_call 86; (with_reducible refine (Ysa.calls (bt a0 aE) false _ ?side1 A5.out).mono ?_); (case side1 => first | exact HE.out | exact EnvOk.heap HE.out rfl); rintro e w' ⟨rfl, ⟨nd, rfl⟩⟩; have p8 : 0 ≤ (aE : Int) := of_decide_eq_true Zc; have q8 : aE < (a0.size : Int) := of_decide_eq_true Zc; have hx8 := Yab a0 aE; replace p8 := eq_true p8; replace q8 := eq_true q8) | (go_at_call 87; (with_reducible refine (Yy.calls (bt a0 aE) false _ ?side1 A9.out).mono ?_); (case side1 => first | exact HE.out | exact EnvOk.heap HE.out rfl); rintro e w' ⟨rfl, ⟨nd, rfl⟩⟩; have iS : 0 ≤ (aE : Int) := of_decide_eq_true Zc; have iT : aE < (a0.size : Int) := of_decide_eq_true Zc; have lK := Yab a0 aE; replace iS := eq_true iS; replace iT := eq_true iT) | (go_at_call 88; (with_reducible refine (Yha.calls k1 (bt a0 aE) (⟨#[43, 45, 46]⟩ : ByteArray) false _ ?side1 A12.out).mono ?_); (case side1 => first | exact HE.out | exact EnvOk.heap HE.out rfl); rintro e w' ⟨rfl, ⟨nd, rfl⟩⟩; have p16 : 0 ≤ (aE : Int) := of_decide_eq_true Zc; have q16 : aE < (a0.size : Int) := of_decide_eq_true Zc; have aGu := Yab a0 aE; replace p16 := eq_true p16; replace q16 := eq_true q16))
   go_ret
   exact ⟨Zf, Zh⟩
def Yoi.f (aC aH : ByteArray) (aJ : Int) (aG aI aK : ByteArray) (aQ aR : Bool) : Option (ByteArray × ByteArray × Int × ByteArray × ByteArray × ByteArray × Bool × Bool) := some (aC, aH, aJ, aG, aI, (⟨#[]⟩ : ByteArray), aQ, false)
theorem Yoi.calls (aC aH : ByteArray) (aJ : Int) (aG aI aK : ByteArray) (aQ aR : Bool) (r1 r2 : ByteArray) (r3 : Int) (r4 r5 r6 : ByteArray) (r7 r8 : Bool) (w : World) (hE : EnvOk w) (h : Yoi.f aC aH aJ aG aI aK aQ aR = some (r1, r2, r3, r4, r5, r6, r7, r8)) :
  Calls Tryz.prog 28 #[.agg #[.string aC, .string aH, .int .i64 aJ, .string aG, .string aI, .string aK, .bool aQ, .bool aR]] w fun e w' => e = .returned (.agg #[.string r1, .string r2, .int .i64 r3, .string r4, .string r5, .string r6, .bool r7, .bool r8]) ∧ Below w.heap.size w w' := by
 have cB := Tryz.underlying25
 have HE := Ya.mk hE
 clear hE
 have HB := Ya.mk (Below.refl w.heap.size w)
 have H : (some (aC, aH, aJ, aG, aI, (⟨#[]⟩ : ByteArray), aQ, false)) = some (r1, r2, r3, r4, r5, r6, r7, r8) := h
 clear h
 simp only [Option.some.injEq, Prod.mk.injEq] at H
 obtain ⟨rfl, rfl, rfl, rfl, rfl, rfl, rfl, rfl⟩ := H
 go_enter Tryz.func28, Tryz.ntmps28
 go_wp2_with (first | ((with_reducible refine Ywc (N := 1) rfl ?_); refine Yrc ?hg (N := 1) ?hd (cs := #[.string aC, .string aH, .int .i64 aJ, .string aG, .string aI, .string aK, .bool aQ, .bool aR]) (t := 25) ?hr ?_; (case hd => rfl); (case hg => rfl); (case hr => first | (go_simp; done) | (go_simp; rfl)); intro gW hg w2 hbox hb; have aM := Ya.mk (Ys Za hb); have aU := Ya.mk (hbox); have bI := Ya.mk ((by rw [hg]; exact (Yda Za) : w.heap.size ≤ gW)); have dE := Ya.mk ((by rw [hg]; exact (Yda Za) : w.heap.size ≤ gW)); clear HB; have HB := aM; have eS := aU; have aXH := bI; have aEP := dE; clear aM aU bI dE; clear hb hbox hg) | ((with_reducible refine Ywc (N := 2) rfl ?_); refine Yrc ?hg (N := 2) ?hd (cs := #[.string (⟨#[]⟩ : ByteArray), .string (⟨#[]⟩ : ByteArray), .int .i64 0, .string (⟨#[]⟩ : ByteArray), .string (⟨#[]⟩ : ByteArray), .string (⟨#[]⟩ : ByteArray), .bool false, .bool false]) (t := 25) ?hr ?_; (case hd => rfl); (case hg => rfl); (case hr => first | (go_simp; done) | (go_simp; rfl)); intro iN hg w3 hbox hb; have aM := Ya.mk (Ydb (g := gW) (o := .cells #[.string aC, .string aH, .int .i64 aJ, .string aG, .string aI, .string aK, .bool aQ, .bool aR] 25 (0, 0)) Zfb hb); have aU := Ya.mk (Ys Zva hb); have bI := Ya.mk (hbox); have dE := Ya.mk ((by rw [hg]; exact (Yda Zva) : w.heap.size ≤ iN)); have pE := Ya.mk ((by rw [hg]; exact (Yda Zva) : w.heap.size ≤ iN)); have pF := Ya.mk ((by rw [hg]; exact Nat.ne_of_lt (Yqf (g := gW) (o := .cells #[.string aC, .string aH, .int .i64 aJ, .string aG, .string aI, .string aK, .bool aQ, .bool aR] 25 (0, 0)) Zfb) : gW ≠ iN)); have pG := Ya.mk ((by rw [hg]; exact Nat.ne_of_gt (Yqf (g := gW) (o := .cells #[.string aC, .string aH, .int .i64 aJ, .string aG, .string aI, .string aK, .bool aQ, .bool aR] 25 (0, 0)) Zfb) : iN ≠ gW)); clear eS; clear HB; have eS := aM; have HB := aU; have gL := bI; have aXI := dE; have aKD := pE; have aAD := pF; have lM := pG; clear aM aU bI dE pE pF pG; clear hb hbox hg; have aYI := aAD.out; have aYJ := lM.out; have aCn : w3.cell? ⟨gW, 0, none⟩ = some (.string aC) := (Yf eS.out 0).trans rfl; have aCo : w3.cell? ⟨gW, 1, none⟩ = some (.string aH) := (Yf eS.out 1).trans rfl; have aCp : w3.cell? ⟨gW, 2, none⟩ = some (.int .i64 aJ) := (Yf eS.out 2).trans rfl; have aCq : w3.cell? ⟨gW, 3, none⟩ = some (.string aG) := (Yf eS.out 3).trans rfl; have aCr : w3.cell? ⟨gW, 4, none⟩ = some (.string aI) := (Yf eS.out 4).trans rfl; have aCs : w3.cell? ⟨gW, 5, none⟩ = some (.string aK) := (Yf eS.out 5).trans rfl; have aCt : w3.cell? ⟨gW, 6, none⟩ = some (.bool aQ) := (Yf eS.out 6).trans rfl; have aCu : w3.cell? ⟨gW, 7, none⟩ = some (.bool aR) := (Yf eS.out 7).trans rfl; have aCv := Ye eS.out 0; have aCw := Ye eS.out 1; have aCx := Ye eS.out 2; have aCy := Ye eS.out 3; have aCz := Ye eS.out 4; have aCA := Ye eS.out 5; have aCB := Ye eS.out 6; have aCC := Ye eS.out 7; have nO : w3.cell? ⟨iN, 0, none⟩ = some (.string (⟨#[]⟩ : ByteArray)) := (Yf gL.out 0).trans rfl; have nP : w3.cell? ⟨iN, 1, none⟩ = some (.string (⟨#[]⟩ : ByteArray)) := (Yf gL.out 1).trans rfl; have nQ : w3.cell? ⟨iN, 2, none⟩ = some (.int .i64 0) := (Yf gL.out 2).trans rfl; have nR : w3.cell? ⟨iN, 3, none⟩ = some (.string (⟨#[]⟩ : ByteArray)) := (Yf gL.out 3).trans rfl; have nS : w3.cell? ⟨iN, 4, none⟩ = some (.string (⟨#[]⟩ : ByteArray)) := (Yf gL.out 4).trans rfl; have nT : w3.cell? ⟨iN, 5, none⟩ = some (.string (⟨#[]⟩ : ByteArray)) := (Yf gL.out 5).trans rfl; have nU : w3.cell? ⟨iN, 6, none⟩ = some (.bool false) := (Yf gL.out 6).trans rfl; have nV : w3.cell? ⟨iN, 7, none⟩ = some (.bool false) := (Yf gL.out 7).trans rfl; have nW := Ye gL.out 0; have nX := Ye gL.out 1; have nY := Ye gL.out 2; have nZ := Ye gL.out 3; have oA := Ye gL.out 4; have oB := Ye gL.out 5; have oC := Ye gL.out 6; have oD := Ye gL.out 7))
 refine bodyPost_ret (results_cell_row rfl _ _ iN 25 #[.string aC, .string aH, .int .i64 aJ, .string aG, .string aI, .string (⟨#[]⟩ : ByteArray), .bool aQ, .bool false] (0, 0) _ rfl (by (with_reducible repeat (first | refine Ym ?_ _ | refine Yr ?_ | refine Yj ?_ _)); refine Yoa (cs := #[.string aC, .string aH, .int .i64 aJ, .string aG, .string aI, .string (⟨#[]⟩ : ByteArray), .bool aQ, .bool false]) ?_ 7 _ rfl; (with_reducible repeat (first | refine Ym ?_ _ | refine Yr ?_ | refine Yj ?_ _)); refine Yoa (cs := #[.string aC, .string aH, .int .i64 aJ, .string aG, .string aI, .string (⟨#[]⟩ : ByteArray), .bool false, .bool false]) ?_ 6 _ rfl; (with_reducible repeat (first | refine Ym ?_ _ | refine Yr ?_ | refine Yj ?_ _)); refine Yoa (cs := #[.string aC, .string aH, .int .i64 aJ, .string aG, .string aI, .string (⟨#[]⟩ : ByteArray), .bool false, .bool false]) ?_ 5 _ rfl; (with_reducible repeat (first | refine Ym ?_ _ | refine Yr ?_ | refine Yj ?_ _)); refine Yoa (cs := #[.string aC, .string aH, .int .i64 aJ, .string aG, .string (⟨#[]⟩ : ByteArray), .string (⟨#[]⟩ : ByteArray), .bool false, .bool false]) ?_ 4 _ rfl; (with_reducible repeat (first | refine Ym ?_ _ | refine Yr ?_ | refine Yj ?_ _)); refine Yoa (cs := #[.string aC, .string aH, .int .i64 aJ, .string (⟨#[]⟩ : ByteArray), .string (⟨#[]⟩ : ByteArray), .string (⟨#[]⟩ : ByteArray), .bool false, .bool false]) ?_ 3 _ rfl; (with_reducible repeat (first | refine Ym ?_ _ | refine Yr ?_ | refine Yj ?_ _)); refine Yoa (cs := #[.string aC, .string aH, .int .i64 0, .string (⟨#[]⟩ : ByteArray), .string (⟨#[]⟩ : ByteArray), .string (⟨#[]⟩ : ByteArray), .bool false, .bool false]) ?_ 2 _ rfl; (with_reducible repeat (first | refine Ym ?_ _ | refine Yr ?_ | refine Yj ?_ _)); refine Yoa (cs := #[.string aC, .string (⟨#[]⟩ : ByteArray), .int .i64 0, .string (⟨#[]⟩ : ByteArray), .string (⟨#[]⟩ : ByteArray), .string (⟨#[]⟩ : ByteArray), .bool false, .bool false]) ?_ 1 _ rfl; (with_reducible repeat (first | refine Ym ?_ _ | refine Yr ?_ | refine Yj ?_ _)); refine Yoa (cs := #[.string (⟨#[]⟩ : ByteArray), .string (⟨#[]⟩ : ByteArray), .int .i64 0, .string (⟨#[]⟩ : ByteArray), .string (⟨#[]⟩ : ByteArray), .string (⟨#[]⟩ : ByteArray), .bool false, .bool false]) ?_ 0 _ rfl; (with_reducible repeat (first | refine Ym ?_ _ | refine Yr ?_ | refine Yj ?_ _)); refine Yzb ?_ lM.out _; (with_reducible repeat (first | refine Ym ?_ _ | refine Yr ?_ | refine Yj ?_ _)); refine Yzb ?_ lM.out _; (with_reducible repeat (first | refine Ym ?_ _ | refine Yr ?_ | refine Yj ?_ _)); exact gL.out) Tryz.underlying25 rfl Zi) rfl ?_
 exact ⟨Zk, by repeat (first | (with_reducible first | exact HB.out | apply Yd | apply Yb | apply Yc | refine Yg ?_ aEP.out | refine Yg ?_ aKD.out) | exact HB.out)⟩
def Ylc.f (a0 : ByteArray) : Option (Bool) := some (decide ((a0.size : Int) > 2200))
theorem Ylc.calls (a0 : ByteArray) (r : Bool) (w : World) (hE : EnvOk w) (h : Ylc.f a0 = some r) :
  Calls Tryz.prog 31 #[.string a0] w fun e w' => e = .returned (.bool r) ∧ Drawn0 w w' := by
 have HE := Ya.mk hE
 clear hE
 have H : (some (decide ((a0.size : Int) > 2200))) = some r := h
 clear h
 obtain rfl := Option.some.inj H
 go_enter Tryz.func31, Tryz.ntmps31
 go_wp2
 go_ret
 exact ⟨Zf, Zh⟩
def Yra.f (k : Nat) (aC aH : ByteArray) (aJ : Int) (aG aI aK : ByteArray) (aQ aR : Bool) : Option (Bool) := (Ylc.f aC).bind fun aCD => (if aCD = true then (some true) else ((Yo.f k aC aH aJ aG aI aK aQ aR).bind fun aAE => ((Ylc.f aAE).bind fun aCE => (some aCE))))
theorem Yra.calls (k : Nat) (aC aH : ByteArray) (aJ : Int) (aG aI aK : ByteArray) (aQ aR r : Bool) (w : World) (hE : EnvOk w) (h : Yra.f k aC aH aJ aG aI aK aQ aR = some r) :
  Calls Tryz.prog 30 #[.agg #[.string aC, .string aH, .int .i64 aJ, .string aG, .string aI, .string aK, .bool aQ, .bool aR]] w fun e w' => e = .returned (.bool r) ∧ Below w.heap.size w w' := by
 have cB := Tryz.underlying25
 have HE := Ya.mk hE
 clear hE
 have HB := Ya.mk (Below.refl w.heap.size w)
 have H : ((Ylc.f aC).bind fun aCD => (if aCD = true then (some true) else ((Yo.f k aC aH aJ aG aI aK aQ aR).bind fun aAE => ((Ylc.f aAE).bind fun aCE => (some aCE))))) = some r := h
 clear h
 replace H := Option.bind_eq_some_iff.mp H
 obtain ⟨aCD, dU, H⟩ := H
 try dsimp -simprocs only at H
 have A2 := Ya.mk dU
 clear dU
 by_cases c3 : aCD = true
 ·subst c3
  rw [if_pos rfl] at H
  obtain rfl := Option.some.inj H
  go_enter Tryz.func30, Tryz.ntmps30
  go_wp2_with (first | ((with_reducible refine Ywc (N := 1) rfl ?_); refine Yrc ?hg (N := 1) ?hd (cs := #[.string aC, .string aH, .int .i64 aJ, .string aG, .string aI, .string aK, .bool aQ, .bool aR]) (t := 25) ?hr ?_; (case hd => rfl); (case hg => rfl); (case hr => first | (go_simp; done) | (go_simp; rfl)); intro eD hg w4 hbox hb; have aM := Ya.mk (Ys Za hb); have aU := Ya.mk (hbox); have bI := Ya.mk ((by rw [hg]; exact (Yda Za) : w.heap.size ≤ eD)); have dE := Ya.mk ((by rw [hg]; exact (Yda Za) : w.heap.size ≤ eD)); clear HB; have HB := aM; have cP := aU; have aKE := bI; have aEM := dE; clear aM aU bI dE; clear hb hbox hg; have aCn : w4.cell? ⟨eD, 0, none⟩ = some (.string aC) := (Yf cP.out 0).trans rfl; have aCo : w4.cell? ⟨eD, 1, none⟩ = some (.string aH) := (Yf cP.out 1).trans rfl; have aCp : w4.cell? ⟨eD, 2, none⟩ = some (.int .i64 aJ) := (Yf cP.out 2).trans rfl; have aCq : w4.cell? ⟨eD, 3, none⟩ = some (.string aG) := (Yf cP.out 3).trans rfl; have aCr : w4.cell? ⟨eD, 4, none⟩ = some (.string aI) := (Yf cP.out 4).trans rfl; have aCs : w4.cell? ⟨eD, 5, none⟩ = some (.string aK) := (Yf cP.out 5).trans rfl; have aCt : w4.cell? ⟨eD, 6, none⟩ = some (.bool aQ) := (Yf cP.out 6).trans rfl; have aCu : w4.cell? ⟨eD, 7, none⟩ = some (.bool aR) := (Yf cP.out 7).trans rfl; have aCv := Ye cP.out 0; have aCw := Ye cP.out 1; have aCx := Ye cP.out 2; have aCy := Ye cP.out 3; have aCz := Ye cP.out 4; have aCA := Ye cP.out 5; have aCB := Ye cP.out 6; have aCC := Ye cP.out 7) | ((with_reducible refine Yh (f := 31) rfl ?_); refine Yba (some 5) rfl rfl Tryz.func31 Zi rfl #[.string aC] rfl Zb ?_; (with_reducible refine (Ylc.calls aC true _ ?side1 A2.out).mono ?_); (case side1 => first | exact HE.out | exact EnvOk.below HE.out Zz); rintro e w' ⟨rfl, ⟨nd, rfl⟩⟩; refine ⟨_, rfl, ?_⟩))
  go_ret
  exact ⟨Zk, Zz⟩
 replace c3 := Bool.eq_false_iff.mpr c3
 subst c3
 rw [if_neg (show ¬ (false = true) by decide)] at H
 replace H := Option.bind_eq_some_iff.mp H
 obtain ⟨aAE, qI, H⟩ := H
 try dsimp -simprocs only at H
 have A6 := Ya.mk qI
 clear qI
 replace H := Option.bind_eq_some_iff.mp H
 obtain ⟨aCE, oE, H⟩ := H
 try dsimp -simprocs only at H
 have A7 := Ya.mk oE
 clear oE
 obtain rfl := Option.some.inj H
 go_enter Tryz.func30, Tryz.ntmps30
 go_wp2_with (first | ((with_reducible refine Ywc (N := 1) rfl ?_); refine Yrc ?hg (N := 1) ?hd (cs := #[.string aC, .string aH, .int .i64 aJ, .string aG, .string aI, .string aK, .bool aQ, .bool aR]) (t := 25) ?hr ?_; (case hd => rfl); (case hg => rfl); (case hr => first | (go_simp; done) | (go_simp; rfl)); intro eD hg w8 hbox hb; have aM := Ya.mk (Ys Za hb); have aU := Ya.mk (hbox); have bI := Ya.mk ((by rw [hg]; exact (Yda Za) : w.heap.size ≤ eD)); have dE := Ya.mk ((by rw [hg]; exact (Yda Za) : w.heap.size ≤ eD)); clear HB; have HB := aM; have cP := aU; have aKE := bI; have aEM := dE; clear aM aU bI dE; clear hb hbox hg; have sA : w8.cell? ⟨eD, 0, none⟩ = some (.string aC) := (Yf cP.out 0).trans rfl; have sB : w8.cell? ⟨eD, 1, none⟩ = some (.string aH) := (Yf cP.out 1).trans rfl; have sC : w8.cell? ⟨eD, 2, none⟩ = some (.int .i64 aJ) := (Yf cP.out 2).trans rfl; have sD : w8.cell? ⟨eD, 3, none⟩ = some (.string aG) := (Yf cP.out 3).trans rfl; have sE : w8.cell? ⟨eD, 4, none⟩ = some (.string aI) := (Yf cP.out 4).trans rfl; have sF : w8.cell? ⟨eD, 5, none⟩ = some (.string aK) := (Yf cP.out 5).trans rfl; have sG : w8.cell? ⟨eD, 6, none⟩ = some (.bool aQ) := (Yf cP.out 6).trans rfl; have sH : w8.cell? ⟨eD, 7, none⟩ = some (.bool aR) := (Yf cP.out 7).trans rfl; have sI := Ye cP.out 0; have sJ := Ye cP.out 1; have sK := Ye cP.out 2; have sL := Ye cP.out 3; have sM := Ye cP.out 4; have sN := Ye cP.out 5; have sO := Ye cP.out 6; have sP := Ye cP.out 7) | ((with_reducible refine Yh (f := 31) rfl ?_); refine Yba (some 5) rfl rfl Tryz.func31 Zi rfl #[.string aC] rfl Zb ?_; (with_reducible refine (Ylc.calls aC false _ ?side1 A2.out).mono ?_); (case side1 => first | exact HE.out | exact EnvOk.below HE.out Zz); rintro e w' ⟨rfl, ⟨nd, rfl⟩⟩; refine ⟨_, rfl, ?_⟩) | (go_at_call 25; (with_reducible refine (Yo.calls k aC aH aJ aG aI aK aQ aR aAE _ ?side1 A6.out).mono ?_); (case side1 => first | exact HE.out | exact EnvOk.below HE.out Zz); rintro e qE ⟨rfl, hb⟩; have aM := Ya.mk (Ydb (g := eD) (o := .cells #[.string aC, .string aH, .int .i64 aJ, .string aG, .string aI, .string aK, .bool aQ, .bool aR] 25 (0, 0)) (by (with_reducible repeat (first | refine Ym ?_ _ | refine Yr ?_ | refine Yj ?_ _)); exact cP.out) hb); have aU := Ya.mk (Ys Zz hb); clear cP; clear HB; have cP := aM; have HB := aU; clear aM aU; (try clear hb); (try clear cC); (try clear hk); (try clear hi)) | (go_at_call 31; (with_reducible refine (Ylc.calls aAE aCE _ ?side1 A7.out).mono ?_); (case side1 => first | exact HE.out | exact EnvOk.below HE.out Zz); rintro e w' ⟨rfl, ⟨nd, rfl⟩⟩))
 go_ret
 exact ⟨Zk, Zz⟩
end Go.Proofs.YtnmglnglbdpjjaaGreatDoor.X
