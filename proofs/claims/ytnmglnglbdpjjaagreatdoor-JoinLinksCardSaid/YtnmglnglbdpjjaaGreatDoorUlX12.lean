/- Printed by a program of ours: functions as plain Lean, and what a call of each does. -/
import Derived.Test.YtnmglnglbdpjjaaGreatDoorUlWords
import Derived.Test.YtnmglnglbdpjjaaGreatDoorUlX0
import Derived.Test.YtnmglnglbdpjjaaGreatDoorUlX5
import Derived.Test.YtnmglnglbdpjjaaGreatDoorUlX9
namespace Go.Proofs.YtnmglnglbdpjjaaGreatDoor.X
open Go.RowKit Go.Yw.PrintWords Go.Yw.PrintLast Go.Yw.PrintMore
attribute [local go_sem] Yxd Yae Yoe Yqe Yld Yjd Yyd Yzd
set_option linter.unusedVariables false
set_option linter.unusedSimpArgs false
set_option maxHeartbeats 8000000
set_option maxRecDepth 100000
def Yy.j0 : Nat → ByteArray → ByteArray → ByteArray → Int → ByteArray → ByteArray → ByteArray → Bool → Bool → Option (ByteArray)
 | 0, _, _, _, _, _, _, _, _, _ => none
 | k + 1, x3, aSr, aSs, aSt, hF, kN, jE, aDR, zB => if x3.size + hF.size ≤ 9223372036854775807 then (if aDR = true then (if 1 + kN.size ≤ 9223372036854775807 then (if (x3 ++ hF).size + ((⟨#[63]⟩ : ByteArray) ++ kN).size ≤ 9223372036854775807 then (if zB = true then (if 1 + jE.size ≤ 9223372036854775807 then (if ((x3 ++ hF) ++ ((⟨#[63]⟩ : ByteArray) ++ kN)).size + ((⟨#[35]⟩ : ByteArray) ++ jE).size ≤ 9223372036854775807 then (some (((x3 ++ hF) ++ ((⟨#[63]⟩ : ByteArray) ++ kN)) ++ ((⟨#[35]⟩ : ByteArray) ++ jE))) else (none)) else (none)) else (some ((x3 ++ hF) ++ ((⟨#[63]⟩ : ByteArray) ++ kN)))) else (none)) else (none)) else (if zB = true then (if 1 + jE.size ≤ 9223372036854775807 then (if (x3 ++ hF).size + ((⟨#[35]⟩ : ByteArray) ++ jE).size ≤ 9223372036854775807 then (some ((x3 ++ hF) ++ ((⟨#[35]⟩ : ByteArray) ++ jE))) else (none)) else (none)) else (some (x3 ++ hF)))) else (none)
def Yy.f (k : Nat) (aE aJ : ByteArray) (aN : Int) (aG aM aK : ByteArray) (aU aV : Bool) : Option (ByteArray) := if aE.size + 3 ≤ 9223372036854775807 then (if (aE ++ (⟨#[58, 47, 47]⟩ : ByteArray)).size + aJ.size ≤ 9223372036854775807 then (if aN = 0 then (Yy.j0 k ((aE ++ (⟨#[58, 47, 47]⟩ : ByteArray)) ++ aJ) aE aJ aN aG aM aK aU aV) else ((Yrc.f k aN).bind fun iG => (if 1 + iG.size ≤ 9223372036854775807 then (if ((aE ++ (⟨#[58, 47, 47]⟩ : ByteArray)) ++ aJ).size + ((⟨#[58]⟩ : ByteArray) ++ iG).size ≤ 9223372036854775807 then (Yy.j0 k (((aE ++ (⟨#[58, 47, 47]⟩ : ByteArray)) ++ aJ) ++ ((⟨#[58]⟩ : ByteArray) ++ iG)) aE aJ aN aG aM aK aU aV) else (none)) else (none)))) else (none)) else (none)
theorem Yy.calls (k : Nat) (aE aJ : ByteArray) (aN : Int) (aG aM aK : ByteArray) (aU aV : Bool) (r : ByteArray) (w : World) (hE : EnvOk w) (h : Yy.f k aE aJ aN aG aM aK aU aV = some r) :
  Calls Tryz.prog 25 #[.agg #[.string aE, .string aJ, .int .i64 aN, .string aG, .string aM, .string aK, .bool aU, .bool aV]] w fun e w' => e = .returned (.string r) ∧ Below w.heap.size w w' := by
 have bQ := Tryz.underlying25
 have HE := Ya.mk hE
 clear hE
 have HB := Ya.mk (Below.refl w.heap.size w)
 have H : (if aE.size + 3 ≤ 9223372036854775807 then (if (aE ++ (⟨#[58, 47, 47]⟩ : ByteArray)).size + aJ.size ≤ 9223372036854775807 then (if aN = 0 then (Yy.j0 k ((aE ++ (⟨#[58, 47, 47]⟩ : ByteArray)) ++ aJ) aE aJ aN aG aM aK aU aV) else ((Yrc.f k aN).bind fun iG => (if 1 + iG.size ≤ 9223372036854775807 then (if ((aE ++ (⟨#[58, 47, 47]⟩ : ByteArray)) ++ aJ).size + ((⟨#[58]⟩ : ByteArray) ++ iG).size ≤ 9223372036854775807 then (Yy.j0 k (((aE ++ (⟨#[58, 47, 47]⟩ : ByteArray)) ++ aJ) ++ ((⟨#[58]⟩ : ByteArray) ++ iG)) aE aJ aN aG aM aK aU aV) else (none)) else (none)))) else (none)) else (none)) = some r := h
 clear h
 by_cases c2 : aE.size + 3 ≤ 9223372036854775807
 rotate_left
 ·rw [if_neg c2] at H
  exact absurd H Zv
 rw [if_pos c2] at H
 have eR := eq_true c2
 have jY : decide (aE.size + 3 ≤ 9223372036854775807) = true := decide_eq_true c2
 try have aFs : (9223372036854775807 < aE.size + 3) = False := eq_false (Nat.not_lt.2 c2)
 by_cases c3 : (aE ++ (⟨#[58, 47, 47]⟩ : ByteArray)).size + aJ.size ≤ 9223372036854775807
 rotate_left
 ·rw [if_neg c3] at H
  exact absurd H Zv
 rw [if_pos c3] at H
 have cB := eq_true c3
 have fV : decide ((aE ++ (⟨#[58, 47, 47]⟩ : ByteArray)).size + aJ.size ≤ 9223372036854775807) = true := decide_eq_true c3
 try have aAx : (9223372036854775807 < (aE ++ (⟨#[58, 47, 47]⟩ : ByteArray)).size + aJ.size) = False := eq_false (Nat.not_lt.2 c3)
 have HC4 := Ya.mk H
 clear H
 go_enter Tryz.func25, Tryz.ntmps25
 go_upto_if 12 with (first | ((with_reducible refine Yad (N := 1) rfl ?_); refine Yzc ?hg (N := 1) ?hd (cs := #[.string aE, .string aJ, .int .i64 aN, .string aG, .string aM, .string aK, .bool aU, .bool aV]) (t := 25) ?hr ?_; (case hd => rfl); (case hg => rfl); (case hr => first | (go_simp; done) | (go_simp; rfl)); intro bR hg w5 hbox hb; have aH := Ya.mk (Yt Za hb); have aR := Ya.mk (hbox); have bK := Ya.mk ((by rw [hg]; exact (Yia Za) : w.heap.size ≤ bR)); have dM := Ya.mk ((by rw [hg]; exact (Yia Za) : w.heap.size ≤ bR)); clear HB; have HB := aH; have bB := aR; have aWW := bK; have aHc := dM; clear aH aR bK dM; clear hb hbox hg; have nC : w5.cell? ⟨bR, 0, none⟩ = some (.string aE) := (Yf bB.out 0).trans rfl; have nD : w5.cell? ⟨bR, 1, none⟩ = some (.string aJ) := (Yf bB.out 1).trans rfl; have nE : w5.cell? ⟨bR, 2, none⟩ = some (.int .i64 aN) := (Yf bB.out 2).trans rfl; have nF : w5.cell? ⟨bR, 3, none⟩ = some (.string aG) := (Yf bB.out 3).trans rfl; have nG : w5.cell? ⟨bR, 4, none⟩ = some (.string aM) := (Yf bB.out 4).trans rfl; have nH : w5.cell? ⟨bR, 5, none⟩ = some (.string aK) := (Yf bB.out 5).trans rfl; have nJ : w5.cell? ⟨bR, 6, none⟩ = some (.bool aU) := (Yf bB.out 6).trans rfl; have nK : w5.cell? ⟨bR, 7, none⟩ = some (.bool aV) := (Yf bB.out 7).trans rfl; have nM := Ye bB.out 0; have nN := Ye bB.out 1; have nO := Ye bB.out 2; have nP := Ye bB.out 3; have nQ := Ye bB.out 4; have nR := Ye bB.out 5; have nS := Ye bB.out 6; have nT := Ye bB.out 7))
 (try simp only [Act.put, List.setIfInBounds_toArray, List.set_cons_zero, List.set_cons_succ])
 go_cut [3] (fun v3 wc => ∃ (kq : Nat) (gN : ByteArray), v3 = .string gN ∧ Ya (Yy.j0 kq gN aE aJ aN aG aM aK aU aV = some r) ∧ Ya (kq ≤ k) ∧ Ya (wc.heap[bR]? = some (.cells #[.string aE, .string aJ, .int .i64 aN, .string aG, .string aM, .string aK, .bool aU, .bool aV] 25 (0, 0))) ∧ Ya (Below w.heap.size w wc))
 case first =>
  have H := HC4.out
  clear HC4
  by_cases c7 : aN = 0
  ·rw [if_pos c7] at H
   have cQ : (aN == 0) = true := beq_iff_eq.mpr c7
   have iB : (aN != 0) = false := bne_eq_false_iff_eq.mpr c7
   clear c7
   (first | rw [cQ] | (simp only [Yca, Yga]; rw [cQ]) | skip)
   have H' := Ya.mk H
   clear H
   go_wp2
   go_meet
   case rel => exact ⟨_, ((aE ++ (⟨#[58, 47, 47]⟩ : ByteArray)) ++ aJ), Zf, H', ⟨Zla⟩, ⟨Zza⟩, ⟨Zw⟩⟩
  rw [if_neg c7] at H
  have cQ : (aN == 0) = false := beq_eq_false_iff_ne.mpr c7
  have iB : (aN != 0) = true := bne_iff_ne.mpr c7
  (first | rw [cQ] | (simp only [Yca, Yga]; rw [cQ]) | skip)
  replace H := Option.bind_eq_some_iff.mp H
  obtain ⟨iG, vY, H⟩ := H
  try dsimp -simprocs only at H
  have A8 := Ya.mk vY
  clear vY
  by_cases c9 : 1 + iG.size ≤ 9223372036854775807
  rotate_left
  ·rw [if_neg c9] at H
   exact absurd H Zv
  rw [if_pos c9] at H
  have iA := eq_true c9
  have lN : decide (1 + iG.size ≤ 9223372036854775807) = true := decide_eq_true c9
  try have zH : (9223372036854775807 < 1 + iG.size) = False := eq_false (Nat.not_lt.2 c9)
  by_cases dP : ((aE ++ (⟨#[58, 47, 47]⟩ : ByteArray)) ++ aJ).size + ((⟨#[58]⟩ : ByteArray) ++ iG).size ≤ 9223372036854775807
  rotate_left
  ·rw [if_neg dP] at H
   exact absurd H Zv
  rw [if_pos dP] at H
  have gY := eq_true dP
  have aAJ : decide (((aE ++ (⟨#[58, 47, 47]⟩ : ByteArray)) ++ aJ).size + ((⟨#[58]⟩ : ByteArray) ++ iG).size ≤ 9223372036854775807) = true := decide_eq_true dP
  try have aJR : (9223372036854775807 < ((aE ++ (⟨#[58, 47, 47]⟩ : ByteArray)) ++ aJ).size + ((⟨#[58]⟩ : ByteArray) ++ iG).size) = False := eq_false (Nat.not_lt.2 dP)
  have H' := Ya.mk H
  clear H
  have lP : w5.cell? ⟨bR, 0, none⟩ = some (.string aE) := (Yf bB.out 0).trans rfl
  have lQ : w5.cell? ⟨bR, 1, none⟩ = some (.string aJ) := (Yf bB.out 1).trans rfl
  have lR : w5.cell? ⟨bR, 2, none⟩ = some (.int .i64 aN) := (Yf bB.out 2).trans rfl
  have lS : w5.cell? ⟨bR, 3, none⟩ = some (.string aG) := (Yf bB.out 3).trans rfl
  have lT : w5.cell? ⟨bR, 4, none⟩ = some (.string aM) := (Yf bB.out 4).trans rfl
  have lU : w5.cell? ⟨bR, 5, none⟩ = some (.string aK) := (Yf bB.out 5).trans rfl
  have lV : w5.cell? ⟨bR, 6, none⟩ = some (.bool aU) := (Yf bB.out 6).trans rfl
  have lW : w5.cell? ⟨bR, 7, none⟩ = some (.bool aV) := (Yf bB.out 7).trans rfl
  have lX := Ye bB.out 0
  have lY := Ye bB.out 1
  have lZ := Ye bB.out 2
  have mA := Ye bB.out 3
  have mB := Ye bB.out 4
  have mC := Ye bB.out 5
  have mD := Ye bB.out 6
  have mE := Ye bB.out 7
  go_wp2_with (first | ((with_reducible refine Yi (f := 67) rfl ?_); refine Yaa (some 16) rfl rfl Tryz.func67 Zi rfl #[.int .i64 aN] rfl Zb ?_; (with_reducible refine (Yrc.calls k aN iG _ ?side1 A8.out).mono ?_); (case side1 => first | exact HE.out | exact EnvOk.below HE.out Zw); rintro e uN ⟨rfl, hb⟩; refine ⟨_, rfl, ?_⟩; have aH := Ya.mk (Ykb (g := bR) (o := .cells #[.string aE, .string aJ, .int .i64 aN, .string aG, .string aM, .string aK, .bool aU, .bool aV] 25 (0, 0)) Zza hb); have aR := Ya.mk (Yt Zw hb); clear bB; clear HB; have bB := aH; have HB := aR; clear aH aR; (try clear hb); (try clear bU); (try clear hk); (try clear hi)))
  go_meet
  case rel => exact ⟨_, (((aE ++ (⟨#[58, 47, 47]⟩ : ByteArray)) ++ aJ) ++ ((⟨#[58]⟩ : ByteArray) ++ iG)), Zf, H', ⟨Zla⟩, ⟨Zza⟩, ⟨Zw⟩⟩
 case rest =>
  clear HC4
  try clear c1
  try clear c2
  try clear eR
  try clear jY
  try clear aFs
  try clear p2
  try clear c3
  try clear cB
  try clear fV
  try clear aAx
  try clear c6
  try clear c7
  try clear cQ
  try clear iB
  try clear c9
  try clear iA
  try clear lN
  try clear zH
  try clear dP
  try clear gY
  try clear aAJ
  try clear aJR
  try clear lP
  try clear lQ
  try clear lR
  try clear lS
  try clear lT
  try clear lU
  try clear lV
  try clear lW
  try clear nC
  try clear nD
  try clear nE
  try clear nF
  try clear nG
  try clear nH
  try clear nJ
  try clear nK
  try clear lX
  try clear lY
  try clear lZ
  try clear mA
  try clear mB
  try clear mC
  try clear mD
  try clear mE
  try clear nM
  try clear nN
  try clear nO
  try clear nP
  try clear nQ
  try clear nR
  try clear nS
  try clear nT
  obtain ⟨kq, gN, rfl, HA, HJ3, bB, HB⟩ := hcut
  cases kq with
  | zero => exact absurd HA.out (by simp [Yy.j0])
  | succ kj3 =>
   have H := HA.out
   clear HA
   simp only [Yy.j0] at H
   by_cases eL : gN.size + aG.size ≤ 9223372036854775807
   rotate_left
   ·rw [if_neg eL] at H
    exact absurd H Zv
   rw [if_pos eL] at H
   have hD := eq_true eL
   have aET : decide (gN.size + aG.size ≤ 9223372036854775807) = true := decide_eq_true eL
   try have aWX : (9223372036854775807 < gN.size + aG.size) = False := eq_false (Nat.not_lt.2 eL)
   by_cases gO : aU = true
   rotate_left
   ·replace gO := Bool.eq_false_iff.mpr gO
    subst gO
    rw [if_neg (show ¬ (false = true) by decide)] at H
    by_cases iD : aV = true
    rotate_left
    ·replace iD := Bool.eq_false_iff.mpr iD
     subst iD
     rw [if_neg (show ¬ (false = true) by decide)] at H
     obtain rfl := Option.some.inj H
     have aSu : wc.cell? ⟨bR, 0, none⟩ = some (.string aE) := (Yf bB.out 0).trans rfl
     have aSv : wc.cell? ⟨bR, 1, none⟩ = some (.string aJ) := (Yf bB.out 1).trans rfl
     have aSw : wc.cell? ⟨bR, 2, none⟩ = some (.int .i64 aN) := (Yf bB.out 2).trans rfl
     have aSx : wc.cell? ⟨bR, 3, none⟩ = some (.string aG) := (Yf bB.out 3).trans rfl
     have aSy : wc.cell? ⟨bR, 4, none⟩ = some (.string aM) := (Yf bB.out 4).trans rfl
     have aSz : wc.cell? ⟨bR, 5, none⟩ = some (.string aK) := (Yf bB.out 5).trans rfl
     have aSA : wc.cell? ⟨bR, 6, none⟩ = some (.bool false) := (Yf bB.out 6).trans rfl
     have aSB : wc.cell? ⟨bR, 7, none⟩ = some (.bool false) := (Yf bB.out 7).trans rfl
     have aSC := Ye bB.out 0
     have aSD := Ye bB.out 1
     have aSE := Ye bB.out 2
     have aSF := Ye bB.out 3
     have aSG := Ye bB.out 4
     have aSH := Ye bB.out 5
     have aSI := Ye bB.out 6
     have aSJ := Ye bB.out 7
     go_wp2
     go_ret
     exact ⟨Zl, Zw⟩
    subst iD
    rw [if_pos rfl] at H
    by_cases jG : 1 + aK.size ≤ 9223372036854775807
    rotate_left
    ·rw [if_neg jG] at H
     exact absurd H Zv
    rw [if_pos jG] at H
    have nW := eq_true jG
    have nX : decide (1 + aK.size ≤ 9223372036854775807) = true := decide_eq_true jG
    try have aHE : (9223372036854775807 < 1 + aK.size) = False := eq_false (Nat.not_lt.2 jG)
    by_cases jX : (gN ++ aG).size + ((⟨#[35]⟩ : ByteArray) ++ aK).size ≤ 9223372036854775807
    rotate_left
    ·rw [if_neg jX] at H
     exact absurd H Zv
    rw [if_pos jX] at H
    have pU := eq_true jX
    have pV : decide ((gN ++ aG).size + ((⟨#[35]⟩ : ByteArray) ++ aK).size ≤ 9223372036854775807) = true := decide_eq_true jX
    try have aWY : (9223372036854775807 < (gN ++ aG).size + ((⟨#[35]⟩ : ByteArray) ++ aK).size) = False := eq_false (Nat.not_lt.2 jX)
    obtain rfl := Option.some.inj H
    have qM : wc.cell? ⟨bR, 0, none⟩ = some (.string aE) := (Yf bB.out 0).trans rfl
    have qN : wc.cell? ⟨bR, 1, none⟩ = some (.string aJ) := (Yf bB.out 1).trans rfl
    have qO : wc.cell? ⟨bR, 2, none⟩ = some (.int .i64 aN) := (Yf bB.out 2).trans rfl
    have qP : wc.cell? ⟨bR, 3, none⟩ = some (.string aG) := (Yf bB.out 3).trans rfl
    have qQ : wc.cell? ⟨bR, 4, none⟩ = some (.string aM) := (Yf bB.out 4).trans rfl
    have qR : wc.cell? ⟨bR, 5, none⟩ = some (.string aK) := (Yf bB.out 5).trans rfl
    have qS : wc.cell? ⟨bR, 6, none⟩ = some (.bool false) := (Yf bB.out 6).trans rfl
    have qT : wc.cell? ⟨bR, 7, none⟩ = some (.bool true) := (Yf bB.out 7).trans rfl
    have qU := Ye bB.out 0
    have qV := Ye bB.out 1
    have qW := Ye bB.out 2
    have qX := Ye bB.out 3
    have qY := Ye bB.out 4
    have qZ := Ye bB.out 5
    have rA := Ye bB.out 6
    have rB := Ye bB.out 7
    go_wp2
    go_ret
    exact ⟨Zl, Zw⟩
   subst gO
   rw [if_pos rfl] at H
   by_cases dG : 1 + aM.size ≤ 9223372036854775807
   rotate_left
   ·rw [if_neg dG] at H
    exact absurd H Zv
   rw [if_pos dG] at H
   have eS := eq_true dG
   have pN : decide (1 + aM.size ≤ 9223372036854775807) = true := decide_eq_true dG
   try have aWZ : (9223372036854775807 < 1 + aM.size) = False := eq_false (Nat.not_lt.2 dG)
   by_cases eN : (gN ++ aG).size + ((⟨#[63]⟩ : ByteArray) ++ aM).size ≤ 9223372036854775807
   rotate_left
   ·rw [if_neg eN] at H
    exact absurd H Zv
   rw [if_pos eN] at H
   have gZ := eq_true eN
   have kC : decide ((gN ++ aG).size + ((⟨#[63]⟩ : ByteArray) ++ aM).size ≤ 9223372036854775807) = true := decide_eq_true eN
   try have aXa : (9223372036854775807 < (gN ++ aG).size + ((⟨#[63]⟩ : ByteArray) ++ aM).size) = False := eq_false (Nat.not_lt.2 eN)
   by_cases eF : aV = true
   rotate_left
   ·replace eF := Bool.eq_false_iff.mpr eF
    subst eF
    rw [if_neg (show ¬ (false = true) by decide)] at H
    obtain rfl := Option.some.inj H
    have aSK : wc.cell? ⟨bR, 0, none⟩ = some (.string aE) := (Yf bB.out 0).trans rfl
    have aSL : wc.cell? ⟨bR, 1, none⟩ = some (.string aJ) := (Yf bB.out 1).trans rfl
    have aSM : wc.cell? ⟨bR, 2, none⟩ = some (.int .i64 aN) := (Yf bB.out 2).trans rfl
    have aSN : wc.cell? ⟨bR, 3, none⟩ = some (.string aG) := (Yf bB.out 3).trans rfl
    have aSO : wc.cell? ⟨bR, 4, none⟩ = some (.string aM) := (Yf bB.out 4).trans rfl
    have aSP : wc.cell? ⟨bR, 5, none⟩ = some (.string aK) := (Yf bB.out 5).trans rfl
    have aSQ : wc.cell? ⟨bR, 6, none⟩ = some (.bool true) := (Yf bB.out 6).trans rfl
    have aSR : wc.cell? ⟨bR, 7, none⟩ = some (.bool false) := (Yf bB.out 7).trans rfl
    have aSS := Ye bB.out 0
    have aST := Ye bB.out 1
    have aSU := Ye bB.out 2
    have aSV := Ye bB.out 3
    have aSW := Ye bB.out 4
    have aSX := Ye bB.out 5
    have aSY := Ye bB.out 6
    have aSZ := Ye bB.out 7
    go_wp2
    go_ret
    exact ⟨Zl, Zw⟩
   subst eF
   rw [if_pos rfl] at H
   by_cases eO : 1 + aK.size ≤ 9223372036854775807
   rotate_left
   ·rw [if_neg eO] at H
    exact absurd H Zv
   rw [if_pos eO] at H
   have nV := eq_true eO
   have pO : decide (1 + aK.size ≤ 9223372036854775807) = true := decide_eq_true eO
   try have aEE : (9223372036854775807 < 1 + aK.size) = False := eq_false (Nat.not_lt.2 eO)
   by_cases iI : ((gN ++ aG) ++ ((⟨#[63]⟩ : ByteArray) ++ aM)).size + ((⟨#[35]⟩ : ByteArray) ++ aK).size ≤ 9223372036854775807
   rotate_left
   ·rw [if_neg iI] at H
    exact absurd H Zv
   rw [if_pos iI] at H
   have jZ := eq_true iI
   have pL : decide (((gN ++ aG) ++ ((⟨#[63]⟩ : ByteArray) ++ aM)).size + ((⟨#[35]⟩ : ByteArray) ++ aK).size ≤ 9223372036854775807) = true := decide_eq_true iI
   try have aHD : (9223372036854775807 < ((gN ++ aG) ++ ((⟨#[63]⟩ : ByteArray) ++ aM)).size + ((⟨#[35]⟩ : ByteArray) ++ aK).size) = False := eq_false (Nat.not_lt.2 iI)
   obtain rfl := Option.some.inj H
   have aDp : wc.cell? ⟨bR, 0, none⟩ = some (.string aE) := (Yf bB.out 0).trans rfl
   have aDq : wc.cell? ⟨bR, 1, none⟩ = some (.string aJ) := (Yf bB.out 1).trans rfl
   have aDr : wc.cell? ⟨bR, 2, none⟩ = some (.int .i64 aN) := (Yf bB.out 2).trans rfl
   have aDs : wc.cell? ⟨bR, 3, none⟩ = some (.string aG) := (Yf bB.out 3).trans rfl
   have aDt : wc.cell? ⟨bR, 4, none⟩ = some (.string aM) := (Yf bB.out 4).trans rfl
   have aDu : wc.cell? ⟨bR, 5, none⟩ = some (.string aK) := (Yf bB.out 5).trans rfl
   have aDv : wc.cell? ⟨bR, 6, none⟩ = some (.bool true) := (Yf bB.out 6).trans rfl
   have aDw : wc.cell? ⟨bR, 7, none⟩ = some (.bool true) := (Yf bB.out 7).trans rfl
   have aDx := Ye bB.out 0
   have aDy := Ye bB.out 1
   have aDz := Ye bB.out 2
   have aDA := Ye bB.out 3
   have aDB := Ye bB.out 4
   have aDC := Ye bB.out 5
   have aDD := Ye bB.out 6
   have aDE := Ye bB.out 7
   go_wp2
   go_ret
   exact ⟨Zl, Zw⟩
def Yr.l0 : Nat → ByteArray → Int → Option (Int)
 | 0, _, _ => none
 | k + 1, x0, x3 => if x3 < (x0.size : Int) then (if 0 ≤ x3 then ((Ysa.f (bt x0 x3)).bind fun aBO => (if aBO = true then (Yr.l0 k x0 (wrap64 (x3 + 1))) else (if x3 > 0 then ((Yw.f (bt x0 x3)).bind fun oR => (if oR = true then (Yr.l0 k x0 (wrap64 (x3 + 1))) else ((Yha.f k (bt x0 x3) (⟨#[43, 45, 46]⟩ : ByteArray)).bind fun rK => (if rK = true then (Yr.l0 k x0 (wrap64 (x3 + 1))) else (if x3 = 0 then (some 0) else (if x3 = (x0.size : Int) then (some 0) else (if (bt x0 x3) = 58 then (some (wrap64 (x3 + 1))) else (some 0)))))))) else (if x3 = 0 then (some 0) else (if x3 = (x0.size : Int) then (some 0) else (if (bt x0 x3) = 58 then (some (wrap64 (x3 + 1))) else (some 0))))))) else (none)) else (if x3 = 0 then (some 0) else (if x3 = (x0.size : Int) then (some 0) else (if 0 ≤ x3 then (none) else (none))))
def Yr.f (k : Nat) (a0 : ByteArray) : Option (Int) := Yr.l0 k a0 0
theorem Yr.calls (k : Nat) (a0 : ByteArray) (r : Int) (w : World) (hE : EnvOk w) (h : Yr.f k a0 = some r) :
  Calls Tryz.prog 46 #[.string a0] w fun e w' => e = .returned (.int .i64 r) ∧ Drawn0 w w' := by
 have HE := Ya.mk hE
 clear hE
 have H : (Yr.l0 k a0 0) = some r := h
 clear h
 have H' := Ya.mk H
 clear H
 go_enter Tryz.func46, Tryz.ntmps46
 go_wp2
 go_loopg [3] k (fun kq v3 w' => ∃ (aD : Int), v3 = .int .i64 aD ∧ Ya (Yr.l0 kq a0 aD = some r) ∧ Ya (kq ≤ k) ∧ Drawn0 w w')
 case atStart => exact ⟨(0), Zf, H', ⟨Nat.le_refl _⟩, Zh⟩
 case round =>
  clear H'
  obtain ⟨aD, rfl, HA, cU, ⟨m1, rfl⟩⟩ := hrel
  cases gk with
  | zero => exact absurd HA.out (by simp [Yr.l0])
  | succ k1 =>
   have H := HA.out
   clear HA
   simp only [Yr.l0] at H
   by_cases c2 : aD < (a0.size : Int)
   rotate_left
   ·rw [if_neg c2] at H
    have eR : decide (aD < (a0.size : Int)) = false := decide_eq_false c2
    clear c2
    by_cases iD : aD = 0
    ·rw [if_pos iD] at H
     have lJ : (aD == 0) = true := beq_iff_eq.mpr iD
     have oH : (aD != 0) = false := bne_eq_false_iff_eq.mpr iD
     clear iD
     obtain rfl := Option.some.inj H
     go_wp2
     go_ret
     exact ⟨Zf, Zh⟩
    rw [if_neg iD] at H
    have lJ : (aD == 0) = false := beq_eq_false_iff_ne.mpr iD
    have oH : (aD != 0) = true := bne_iff_ne.mpr iD
    by_cases jG : aD = (a0.size : Int)
    rotate_left
    ·rw [if_neg jG] at H
     have nW : (aD == (a0.size : Int)) = false := beq_eq_false_iff_ne.mpr jG
     have nX : (aD != (a0.size : Int)) = true := bne_iff_ne.mpr jG
     by_cases jX : 0 ≤ aD
     rotate_left
     ·rw [if_neg jX] at H
      exact absurd H Zv
     rw [if_pos jX] at H
     exact absurd H Zv
    rw [if_pos jG] at H
    have nW : (aD == (a0.size : Int)) = true := beq_iff_eq.mpr jG
    have nX : (aD != (a0.size : Int)) = false := bne_eq_false_iff_eq.mpr jG
    clear jG
    obtain rfl := Option.some.inj H
    go_wp2
    go_ret
    exact ⟨Zf, Zh⟩
   rw [if_pos c2] at H
   have eR : decide (aD < (a0.size : Int)) = true := decide_eq_true c2
   clear c2
   by_cases c3 : 0 ≤ aD
   rotate_left
   ·rw [if_neg c3] at H
    exact absurd H Zv
   rw [if_pos c3] at H
   have cB : decide (0 ≤ aD) = true := decide_eq_true c3
   clear c3
   replace H := Option.bind_eq_some_iff.mp H
   obtain ⟨aBO, tD, H⟩ := H
   try dsimp -simprocs only at H
   have A5 := Ya.mk tD
   clear tD
   by_cases c6 : aBO = true
   ·subst c6
    rw [if_pos rfl] at H
    have H' := Ya.mk H
    clear H
    have p4 : 0 ≤ (aD : Int) := of_decide_eq_true Zc
    have q4 : aD < (a0.size : Int) := of_decide_eq_true Zc
    have jB := Yza a0 aD
    replace p4 := eq_true p4
    replace q4 := eq_true q4
    go_wp2_with (first | (go_at_call 86; (with_reducible refine (Ysa.calls (bt a0 aD) true _ ?side1 A5.out).mono ?_); (case side1 => first | exact HE.out | exact EnvOk.heap HE.out rfl); rintro e w' ⟨rfl, ⟨nd, rfl⟩⟩))
    go_roundg k1
    case measure => have := cU.out; omega
    case rel => exact ⟨(wrap64 (aD + 1)), Zf, H', ⟨Zaa⟩, Zh⟩
   replace c6 := Bool.eq_false_iff.mpr c6
   subst c6
   rw [if_neg (show ¬ (false = true) by decide)] at H
   by_cases c7 : aD > 0
   rotate_left
   ·rw [if_neg c7] at H
    have cQ : decide (0 < aD) = false := decide_eq_false c7
    clear c7
    by_cases eO : aD = 0
    ·rw [if_pos eO] at H
     have nV : (aD == 0) = true := beq_iff_eq.mpr eO
     have pO : (aD != 0) = false := bne_eq_false_iff_eq.mpr eO
     clear eO
     obtain rfl := Option.some.inj H
     have p4 : 0 ≤ (aD : Int) := of_decide_eq_true Zc
     have q4 : aD < (a0.size : Int) := of_decide_eq_true Zc
     have jB := Yza a0 aD
     replace p4 := eq_true p4
     replace q4 := eq_true q4
     go_wp2_with (first | (go_at_call 86; (with_reducible refine (Ysa.calls (bt a0 aD) false _ ?side1 A5.out).mono ?_); (case side1 => first | exact HE.out | exact EnvOk.heap HE.out rfl); rintro e w' ⟨rfl, ⟨nd, rfl⟩⟩))
     go_ret
     exact ⟨Zf, Zh⟩
    rw [if_neg eO] at H
    have nV : (aD == 0) = false := beq_eq_false_iff_ne.mpr eO
    have pO : (aD != 0) = true := bne_iff_ne.mpr eO
    by_cases iI : aD = (a0.size : Int)
    ·rw [if_pos iI] at H
     have jZ : (aD == (a0.size : Int)) = true := beq_iff_eq.mpr iI
     have pL : (aD != (a0.size : Int)) = false := bne_eq_false_iff_eq.mpr iI
     clear iI
     obtain rfl := Option.some.inj H
     have p4 : 0 ≤ (aD : Int) := of_decide_eq_true Zc
     have q4 : aD < (a0.size : Int) := of_decide_eq_true Zc
     have jB := Yza a0 aD
     replace p4 := eq_true p4
     replace q4 := eq_true q4
     go_wp2_with (first | (go_at_call 86; (with_reducible refine (Ysa.calls (bt a0 aD) false _ ?side1 A5.out).mono ?_); (case side1 => first | exact HE.out | exact EnvOk.heap HE.out rfl); rintro e w' ⟨rfl, ⟨nd, rfl⟩⟩))
     go_ret
     exact ⟨Zf, Zh⟩
    rw [if_neg iI] at H
    have jZ : (aD == (a0.size : Int)) = false := beq_eq_false_iff_ne.mpr iI
    have pL : (aD != (a0.size : Int)) = true := bne_iff_ne.mpr iI
    by_cases mH : (bt a0 aD) = 58
    rotate_left
    ·rw [if_neg mH] at H
     have yW : ((bt a0 aD) == 58) = false := beq_eq_false_iff_ne.mpr mH
     have aBP : ((bt a0 aD) != 58) = true := bne_iff_ne.mpr mH
     obtain rfl := Option.some.inj H
     have p4 : 0 ≤ (aD : Int) := of_decide_eq_true Zc
     have q4 : aD < (a0.size : Int) := of_decide_eq_true Zc
     have jB := Yza a0 aD
     replace p4 := eq_true p4
     replace q4 := eq_true q4
     go_wp2_with (first | (go_at_call 86; (with_reducible refine (Ysa.calls (bt a0 aD) false _ ?side1 A5.out).mono ?_); (case side1 => first | exact HE.out | exact EnvOk.heap HE.out rfl); rintro e w' ⟨rfl, ⟨nd, rfl⟩⟩; have p20 : 0 ≤ (aD : Int) := of_decide_eq_true Zc; have q20 : aD < (a0.size : Int) := of_decide_eq_true Zc; have aVO := Yza a0 aD; replace p20 := eq_true p20; replace q20 := eq_true q20))
     go_ret
     exact ⟨Zf, Zh⟩
    rw [if_pos mH] at H
    have yW : ((bt a0 aD) == 58) = true := beq_iff_eq.mpr mH
    have aBP : ((bt a0 aD) != 58) = false := bne_eq_false_iff_eq.mpr mH
    clear mH
    obtain rfl := Option.some.inj H
    have p4 : 0 ≤ (aD : Int) := of_decide_eq_true Zc
    have q4 : aD < (a0.size : Int) := of_decide_eq_true Zc
    have jB := Yza a0 aD
    replace p4 := eq_true p4
    replace q4 := eq_true q4
    go_wp2_with (first | (go_at_call 86; (with_reducible refine (Ysa.calls (bt a0 aD) false _ ?side1 A5.out).mono ?_); (case side1 => first | exact HE.out | exact EnvOk.heap HE.out rfl); rintro e w' ⟨rfl, ⟨nd, rfl⟩⟩; have p20 : 0 ≤ (aD : Int) := of_decide_eq_true Zc; have q20 : aD < (a0.size : Int) := of_decide_eq_true Zc; have aVO := Yza a0 aD; replace p20 := eq_true p20; replace q20 := eq_true q20))
    go_ret
    exact ⟨Zf, Zh⟩
   rw [if_pos c7] at H
   have cQ : decide (0 < aD) = true := decide_eq_true c7
   clear c7
   replace H := Option.bind_eq_some_iff.mp H
   obtain ⟨oR, A90, H⟩ := H
   try dsimp -simprocs only at H
   have A9 := Ya.mk A90
   clear A90
   by_cases dP : oR = true
   ·subst dP
    rw [if_pos rfl] at H
    have H' := Ya.mk H
    clear H
    have p4 : 0 ≤ (aD : Int) := of_decide_eq_true Zc
    have q4 : aD < (a0.size : Int) := of_decide_eq_true Zc
    have jB := Yza a0 aD
    replace p4 := eq_true p4
    replace q4 := eq_true q4
    go_wp2_with (first | (go_at_call 86; (with_reducible refine (Ysa.calls (bt a0 aD) false _ ?side1 A5.out).mono ?_); (case side1 => first | exact HE.out | exact EnvOk.heap HE.out rfl); rintro e w' ⟨rfl, ⟨nd, rfl⟩⟩; have p8 : 0 ≤ (aD : Int) := of_decide_eq_true Zc; have q8 : aD < (a0.size : Int) := of_decide_eq_true Zc; have hx8 := Yza a0 aD; replace p8 := eq_true p8; replace q8 := eq_true q8) | (go_at_call 87; (with_reducible refine (Yw.calls (bt a0 aD) true _ ?side1 A9.out).mono ?_); (case side1 => first | exact HE.out | exact EnvOk.heap HE.out rfl); rintro e w' ⟨rfl, ⟨nd, rfl⟩⟩))
    go_roundg k1
    case measure => have := cU.out; omega
    case rel => exact ⟨(wrap64 (aD + 1)), Zf, H', ⟨Zaa⟩, Zh⟩
   replace dP := Bool.eq_false_iff.mpr dP
   subst dP
   rw [if_neg (show ¬ (false = true) by decide)] at H
   replace H := Option.bind_eq_some_iff.mp H
   obtain ⟨rK, aBD, H⟩ := H
   try dsimp -simprocs only at H
   have A12 := Ya.mk aBD
   clear aBD
   by_cases eL : rK = true
   ·subst eL
    rw [if_pos rfl] at H
    have H' := Ya.mk H
    clear H
    have p4 : 0 ≤ (aD : Int) := of_decide_eq_true Zc
    have q4 : aD < (a0.size : Int) := of_decide_eq_true Zc
    have jB := Yza a0 aD
    replace p4 := eq_true p4
    replace q4 := eq_true q4
    go_wp2_with (first | (go_at_call 86; (with_reducible refine (Ysa.calls (bt a0 aD) false _ ?side1 A5.out).mono ?_); (case side1 => first | exact HE.out | exact EnvOk.heap HE.out rfl); rintro e w' ⟨rfl, ⟨nd, rfl⟩⟩; have p8 : 0 ≤ (aD : Int) := of_decide_eq_true Zc; have q8 : aD < (a0.size : Int) := of_decide_eq_true Zc; have hx8 := Yza a0 aD; replace p8 := eq_true p8; replace q8 := eq_true q8) | (go_at_call 87; (with_reducible refine (Yw.calls (bt a0 aD) false _ ?side1 A9.out).mono ?_); (case side1 => first | exact HE.out | exact EnvOk.heap HE.out rfl); rintro e w' ⟨rfl, ⟨nd, rfl⟩⟩; have iL : 0 ≤ (aD : Int) := of_decide_eq_true Zc; have iM : aD < (a0.size : Int) := of_decide_eq_true Zc; have lA := Yza a0 aD; replace iL := eq_true iL; replace iM := eq_true iM) | (go_at_call 88; (with_reducible refine (Yha.calls k1 (bt a0 aD) (⟨#[43, 45, 46]⟩ : ByteArray) true _ ?side1 A12.out).mono ?_); (case side1 => first | exact HE.out | exact EnvOk.heap HE.out rfl); rintro e w' ⟨rfl, ⟨nd, rfl⟩⟩))
    go_roundg k1
    case measure => have := cU.out; omega
    case rel => exact ⟨(wrap64 (aD + 1)), Zf, H', ⟨Zaa⟩, Zh⟩
   replace eL := Bool.eq_false_iff.mpr eL
   subst eL
   rw [if_neg (show ¬ (false = true) by decide)] at H
   by_cases gO : aD = 0
   ·rw [if_pos gO] at H
    have iC : (aD == 0) = true := beq_iff_eq.mpr gO
    have aJU : (aD != 0) = false := bne_eq_false_iff_eq.mpr gO
    clear gO
    obtain rfl := Option.some.inj H
    have p4 : 0 ≤ (aD : Int) := of_decide_eq_true Zc
    have q4 : aD < (a0.size : Int) := of_decide_eq_true Zc
    have jB := Yza a0 aD
    replace p4 := eq_true p4
    replace q4 := eq_true q4
    go_wp2_with (first | (go_at_call 86; (with_reducible refine (Ysa.calls (bt a0 aD) false _ ?side1 A5.out).mono ?_); (case side1 => first | exact HE.out | exact EnvOk.heap HE.out rfl); rintro e w' ⟨rfl, ⟨nd, rfl⟩⟩; have p8 : 0 ≤ (aD : Int) := of_decide_eq_true Zc; have q8 : aD < (a0.size : Int) := of_decide_eq_true Zc; have hx8 := Yza a0 aD; replace p8 := eq_true p8; replace q8 := eq_true q8) | (go_at_call 87; (with_reducible refine (Yw.calls (bt a0 aD) false _ ?side1 A9.out).mono ?_); (case side1 => first | exact HE.out | exact EnvOk.heap HE.out rfl); rintro e w' ⟨rfl, ⟨nd, rfl⟩⟩; have iL : 0 ≤ (aD : Int) := of_decide_eq_true Zc; have iM : aD < (a0.size : Int) := of_decide_eq_true Zc; have lA := Yza a0 aD; replace iL := eq_true iL; replace iM := eq_true iM) | (go_at_call 88; (with_reducible refine (Yha.calls k1 (bt a0 aD) (⟨#[43, 45, 46]⟩ : ByteArray) false _ ?side1 A12.out).mono ?_); (case side1 => first | exact HE.out | exact EnvOk.heap HE.out rfl); rintro e w' ⟨rfl, ⟨nd, rfl⟩⟩))
    go_ret
    exact ⟨Zf, Zh⟩
   rw [if_neg gO] at H
   have iC : (aD == 0) = false := beq_eq_false_iff_ne.mpr gO
   have aJU : (aD != 0) = true := bne_iff_ne.mpr gO
   by_cases dG : aD = (a0.size : Int)
   ·rw [if_pos dG] at H
    have eS : (aD == (a0.size : Int)) = true := beq_iff_eq.mpr dG
    have pN : (aD != (a0.size : Int)) = false := bne_eq_false_iff_eq.mpr dG
    clear dG
    obtain rfl := Option.some.inj H
    have p4 : 0 ≤ (aD : Int) := of_decide_eq_true Zc
    have q4 : aD < (a0.size : Int) := of_decide_eq_true Zc
    have jB := Yza a0 aD
    replace p4 := eq_true p4
    replace q4 := eq_true q4
    go_wp2_with (first | (go_at_call 86; (with_reducible refine (Ysa.calls (bt a0 aD) false _ ?side1 A5.out).mono ?_); (case side1 => first | exact HE.out | exact EnvOk.heap HE.out rfl); rintro e w' ⟨rfl, ⟨nd, rfl⟩⟩; have p8 : 0 ≤ (aD : Int) := of_decide_eq_true Zc; have q8 : aD < (a0.size : Int) := of_decide_eq_true Zc; have hx8 := Yza a0 aD; replace p8 := eq_true p8; replace q8 := eq_true q8) | (go_at_call 87; (with_reducible refine (Yw.calls (bt a0 aD) false _ ?side1 A9.out).mono ?_); (case side1 => first | exact HE.out | exact EnvOk.heap HE.out rfl); rintro e w' ⟨rfl, ⟨nd, rfl⟩⟩; have iL : 0 ≤ (aD : Int) := of_decide_eq_true Zc; have iM : aD < (a0.size : Int) := of_decide_eq_true Zc; have lA := Yza a0 aD; replace iL := eq_true iL; replace iM := eq_true iM) | (go_at_call 88; (with_reducible refine (Yha.calls k1 (bt a0 aD) (⟨#[43, 45, 46]⟩ : ByteArray) false _ ?side1 A12.out).mono ?_); (case side1 => first | exact HE.out | exact EnvOk.heap HE.out rfl); rintro e w' ⟨rfl, ⟨nd, rfl⟩⟩))
    go_ret
    exact ⟨Zf, Zh⟩
   rw [if_neg dG] at H
   have eS : (aD == (a0.size : Int)) = false := beq_eq_false_iff_ne.mpr dG
   have pN : (aD != (a0.size : Int)) = true := bne_iff_ne.mpr dG
   by_cases eF : (bt a0 aD) = 58
   rotate_left
   ·rw [if_neg eF] at H
    have jK : ((bt a0 aD) == 58) = false := beq_eq_false_iff_ne.mpr eF
    have lI : ((bt a0 aD) != 58) = true := bne_iff_ne.mpr eF
    obtain rfl := Option.some.inj H
    have p4 : 0 ≤ (aD : Int) := of_decide_eq_true Zc
    have q4 : aD < (a0.size : Int) := of_decide_eq_true Zc
    have jB := Yza a0 aD
    replace p4 := eq_true p4
    replace q4 := eq_true q4
    go_wp2_with (first | (go_at_call 86; (with_reducible refine (Ysa.calls (bt a0 aD) false _ ?side1 A5.out).mono ?_); (case side1 => first | exact HE.out | exact EnvOk.heap HE.out rfl); rintro e w' ⟨rfl, ⟨nd, rfl⟩⟩; have p8 : 0 ≤ (aD : Int) := of_decide_eq_true Zc; have q8 : aD < (a0.size : Int) := of_decide_eq_true Zc; have hx8 := Yza a0 aD; replace p8 := eq_true p8; replace q8 := eq_true q8) | (go_at_call 87; (with_reducible refine (Yw.calls (bt a0 aD) false _ ?side1 A9.out).mono ?_); (case side1 => first | exact HE.out | exact EnvOk.heap HE.out rfl); rintro e w' ⟨rfl, ⟨nd, rfl⟩⟩; have iL : 0 ≤ (aD : Int) := of_decide_eq_true Zc; have iM : aD < (a0.size : Int) := of_decide_eq_true Zc; have lA := Yza a0 aD; replace iL := eq_true iL; replace iM := eq_true iM) | (go_at_call 88; (with_reducible refine (Yha.calls k1 (bt a0 aD) (⟨#[43, 45, 46]⟩ : ByteArray) false _ ?side1 A12.out).mono ?_); (case side1 => first | exact HE.out | exact EnvOk.heap HE.out rfl); rintro e w' ⟨rfl, ⟨nd, rfl⟩⟩; have p16 : 0 ≤ (aD : Int) := of_decide_eq_true Zc; have q16 : aD < (a0.size : Int) := of_decide_eq_true Zc; have aGa := Yza a0 aD; replace p16 := eq_true p16; replace q16 := eq_true q16))
    go_ret
    exact ⟨Zf, Zh⟩
   rw [if_pos eF] at H
   have jK : ((bt a0 aD) == 58) = true := beq_iff_eq.mpr eF
   have lI : ((bt a0 aD) != 58) = false := bne_eq_false_iff_eq.mpr eF
   clear eF
   obtain rfl := Option.some.inj H
   have p4 : 0 ≤ (aD : Int) := of_decide_eq_true Zc
   have q4 : aD < (a0.size : Int) := of_decide_eq_true Zc
   have jB := Yza a0 aD
   replace p4 := eq_true p4
   replace q4 := eq_true q4
   go_wp2_with (first | (go_at_call 86; (with_reducible refine (Ysa.calls (bt a0 aD) false _ ?side1 A5.out).mono ?_); (case side1 => first | exact HE.out | exact EnvOk.heap HE.out rfl); rintro e w' ⟨rfl, ⟨nd, rfl⟩⟩; have p8 : 0 ≤ (aD : Int) := of_decide_eq_true Zc; have q8 : aD < (a0.size : Int) := of_decide_eq_true Zc; have hx8 := Yza a0 aD; replace p8 := eq_true p8; replace q8 := eq_true q8) | (go_at_call 87; (with_reducible refine (Yw.calls (bt a0 aD) false _ ?side1 A9.out).mono ?_); (case side1 => first | exact HE.out | exact EnvOk.heap HE.out rfl); rintro e w' ⟨rfl, ⟨nd, rfl⟩⟩; have iL : 0 ≤ (aD : Int) := of_decide_eq_true Zc; have iM : aD < (a0.size : Int) := of_decide_eq_true Zc; have lA := Yza a0 aD; replace iL := eq_true iL; replace iM := eq_true iM) | (go_at_call 88; (with_reducible refine (Yha.calls k1 (bt a0 aD) (⟨#[43, 45, 46]⟩ : ByteArray) false _ ?side1 A12.out).mono ?_); (case side1 => first | exact HE.out | exact EnvOk.heap HE.out rfl); rintro e w' ⟨rfl, ⟨nd, rfl⟩⟩; have p16 : 0 ≤ (aD : Int) := of_decide_eq_true Zc; have q16 : aD < (a0.size : Int) := of_decide_eq_true Zc; have aGa := Yza a0 aD; replace p16 := eq_true p16; replace q16 := eq_true q16))
   go_ret
   exact ⟨Zf, Zh⟩
def Ycj.f (aE aJ : ByteArray) (aN : Int) (aG aM aK : ByteArray) (aU aV : Bool) : Option (ByteArray × ByteArray × Int × ByteArray × ByteArray × ByteArray × Bool × Bool) := some (aE, aJ, aN, aG, aM, (⟨#[]⟩ : ByteArray), aU, false)
theorem Ycj.calls (aE aJ : ByteArray) (aN : Int) (aG aM aK : ByteArray) (aU aV : Bool) (r1 r2 : ByteArray) (r3 : Int) (r4 r5 r6 : ByteArray) (r7 r8 : Bool) (w : World) (hE : EnvOk w) (h : Ycj.f aE aJ aN aG aM aK aU aV = some (r1, r2, r3, r4, r5, r6, r7, r8)) :
  Calls Tryz.prog 28 #[.agg #[.string aE, .string aJ, .int .i64 aN, .string aG, .string aM, .string aK, .bool aU, .bool aV]] w fun e w' => e = .returned (.agg #[.string r1, .string r2, .int .i64 r3, .string r4, .string r5, .string r6, .bool r7, .bool r8]) ∧ Below w.heap.size w w' := by
 have bQ := Tryz.underlying25
 have HE := Ya.mk hE
 clear hE
 have HB := Ya.mk (Below.refl w.heap.size w)
 have H : (some (aE, aJ, aN, aG, aM, (⟨#[]⟩ : ByteArray), aU, false)) = some (r1, r2, r3, r4, r5, r6, r7, r8) := h
 clear h
 simp only [Option.some.injEq, Prod.mk.injEq] at H
 obtain ⟨rfl, rfl, rfl, rfl, rfl, rfl, rfl, rfl⟩ := H
 go_enter Tryz.func28, Tryz.ntmps28
 go_wp2_with (first | ((with_reducible refine Yad (N := 1) rfl ?_); refine Yzc ?hg (N := 1) ?hd (cs := #[.string aE, .string aJ, .int .i64 aN, .string aG, .string aM, .string aK, .bool aU, .bool aV]) (t := 25) ?hr ?_; (case hd => rfl); (case hg => rfl); (case hr => first | (go_simp; done) | (go_simp; rfl)); intro gT hg w2 hbox hb; have aH := Ya.mk (Yt Za hb); have aR := Ya.mk (hbox); have bK := Ya.mk ((by rw [hg]; exact (Yia Za) : w.heap.size ≤ gT)); have dM := Ya.mk ((by rw [hg]; exact (Yia Za) : w.heap.size ≤ gT)); clear HB; have HB := aH; have eQ := aR; have aXb := bK; have aEx := dM; clear aH aR bK dM; clear hb hbox hg) | ((with_reducible refine Yad (N := 2) rfl ?_); refine Yzc ?hg (N := 2) ?hd (cs := #[.string (⟨#[]⟩ : ByteArray), .string (⟨#[]⟩ : ByteArray), .int .i64 0, .string (⟨#[]⟩ : ByteArray), .string (⟨#[]⟩ : ByteArray), .string (⟨#[]⟩ : ByteArray), .bool false, .bool false]) (t := 25) ?hr ?_; (case hd => rfl); (case hg => rfl); (case hr => first | (go_simp; done) | (go_simp; rfl)); intro iH hg w3 hbox hb; have aH := Ya.mk (Ykb (g := gT) (o := .cells #[.string aE, .string aJ, .int .i64 aN, .string aG, .string aM, .string aK, .bool aU, .bool aV] 25 (0, 0)) Zab hb); have aR := Ya.mk (Yt Zta hb); have bK := Ya.mk (hbox); have dM := Ya.mk ((by rw [hg]; exact (Yia Zta) : w.heap.size ≤ iH)); have pY := Ya.mk ((by rw [hg]; exact (Yia Zta) : w.heap.size ≤ iH)); have pZ := Ya.mk ((by rw [hg]; exact Nat.ne_of_lt (Yje (g := gT) (o := .cells #[.string aE, .string aJ, .int .i64 aN, .string aG, .string aM, .string aK, .bool aU, .bool aV] 25 (0, 0)) Zab) : gT ≠ iH)); have qA := Ya.mk ((by rw [hg]; exact Nat.ne_of_gt (Yje (g := gT) (o := .cells #[.string aE, .string aJ, .int .i64 aN, .string aG, .string aM, .string aK, .bool aU, .bool aV] 25 (0, 0)) Zab) : iH ≠ gT)); clear eQ; clear HB; have eQ := aH; have HB := aR; have gI := bK; have aXc := dM; have aJV := pY; have zU := pZ; have lC := qA; clear aH aR bK dM pY pZ qA; clear hb hbox hg; have aXZ := zU.out; have aYa := lC.out; have aBQ : w3.cell? ⟨gT, 0, none⟩ = some (.string aE) := (Yf eQ.out 0).trans rfl; have aBR : w3.cell? ⟨gT, 1, none⟩ = some (.string aJ) := (Yf eQ.out 1).trans rfl; have aBS : w3.cell? ⟨gT, 2, none⟩ = some (.int .i64 aN) := (Yf eQ.out 2).trans rfl; have aBT : w3.cell? ⟨gT, 3, none⟩ = some (.string aG) := (Yf eQ.out 3).trans rfl; have aBU : w3.cell? ⟨gT, 4, none⟩ = some (.string aM) := (Yf eQ.out 4).trans rfl; have aBV : w3.cell? ⟨gT, 5, none⟩ = some (.string aK) := (Yf eQ.out 5).trans rfl; have aBW : w3.cell? ⟨gT, 6, none⟩ = some (.bool aU) := (Yf eQ.out 6).trans rfl; have aBX : w3.cell? ⟨gT, 7, none⟩ = some (.bool aV) := (Yf eQ.out 7).trans rfl; have aBY := Ye eQ.out 0; have aBZ := Ye eQ.out 1; have aCa := Ye eQ.out 2; have aCb := Ye eQ.out 3; have aCc := Ye eQ.out 4; have aCd := Ye eQ.out 5; have aCe := Ye eQ.out 6; have aCf := Ye eQ.out 7; have nC : w3.cell? ⟨iH, 0, none⟩ = some (.string (⟨#[]⟩ : ByteArray)) := (Yf gI.out 0).trans rfl; have nD : w3.cell? ⟨iH, 1, none⟩ = some (.string (⟨#[]⟩ : ByteArray)) := (Yf gI.out 1).trans rfl; have nE : w3.cell? ⟨iH, 2, none⟩ = some (.int .i64 0) := (Yf gI.out 2).trans rfl; have nF : w3.cell? ⟨iH, 3, none⟩ = some (.string (⟨#[]⟩ : ByteArray)) := (Yf gI.out 3).trans rfl; have nG : w3.cell? ⟨iH, 4, none⟩ = some (.string (⟨#[]⟩ : ByteArray)) := (Yf gI.out 4).trans rfl; have nH : w3.cell? ⟨iH, 5, none⟩ = some (.string (⟨#[]⟩ : ByteArray)) := (Yf gI.out 5).trans rfl; have nJ : w3.cell? ⟨iH, 6, none⟩ = some (.bool false) := (Yf gI.out 6).trans rfl; have nK : w3.cell? ⟨iH, 7, none⟩ = some (.bool false) := (Yf gI.out 7).trans rfl; have nM := Ye gI.out 0; have nN := Ye gI.out 1; have nO := Ye gI.out 2; have nP := Ye gI.out 3; have nQ := Ye gI.out 4; have nR := Ye gI.out 5; have nS := Ye gI.out 6; have nT := Ye gI.out 7))
 refine bodyPost_ret (results_cell_row rfl _ _ iH 25 #[.string aE, .string aJ, .int .i64 aN, .string aG, .string aM, .string (⟨#[]⟩ : ByteArray), .bool aU, .bool false] (0, 0) _ rfl (by (with_reducible repeat (first | refine Yh ?_ _ | refine Yp ?_ | refine Yn ?_ _)); refine Yna (cs := #[.string aE, .string aJ, .int .i64 aN, .string aG, .string aM, .string (⟨#[]⟩ : ByteArray), .bool aU, .bool false]) ?_ 7 _ rfl; (with_reducible repeat (first | refine Yh ?_ _ | refine Yp ?_ | refine Yn ?_ _)); refine Yna (cs := #[.string aE, .string aJ, .int .i64 aN, .string aG, .string aM, .string (⟨#[]⟩ : ByteArray), .bool false, .bool false]) ?_ 6 _ rfl; (with_reducible repeat (first | refine Yh ?_ _ | refine Yp ?_ | refine Yn ?_ _)); refine Yna (cs := #[.string aE, .string aJ, .int .i64 aN, .string aG, .string aM, .string (⟨#[]⟩ : ByteArray), .bool false, .bool false]) ?_ 5 _ rfl; (with_reducible repeat (first | refine Yh ?_ _ | refine Yp ?_ | refine Yn ?_ _)); refine Yna (cs := #[.string aE, .string aJ, .int .i64 aN, .string aG, .string (⟨#[]⟩ : ByteArray), .string (⟨#[]⟩ : ByteArray), .bool false, .bool false]) ?_ 4 _ rfl; (with_reducible repeat (first | refine Yh ?_ _ | refine Yp ?_ | refine Yn ?_ _)); refine Yna (cs := #[.string aE, .string aJ, .int .i64 aN, .string (⟨#[]⟩ : ByteArray), .string (⟨#[]⟩ : ByteArray), .string (⟨#[]⟩ : ByteArray), .bool false, .bool false]) ?_ 3 _ rfl; (with_reducible repeat (first | refine Yh ?_ _ | refine Yp ?_ | refine Yn ?_ _)); refine Yna (cs := #[.string aE, .string aJ, .int .i64 0, .string (⟨#[]⟩ : ByteArray), .string (⟨#[]⟩ : ByteArray), .string (⟨#[]⟩ : ByteArray), .bool false, .bool false]) ?_ 2 _ rfl; (with_reducible repeat (first | refine Yh ?_ _ | refine Yp ?_ | refine Yn ?_ _)); refine Yna (cs := #[.string aE, .string (⟨#[]⟩ : ByteArray), .int .i64 0, .string (⟨#[]⟩ : ByteArray), .string (⟨#[]⟩ : ByteArray), .string (⟨#[]⟩ : ByteArray), .bool false, .bool false]) ?_ 1 _ rfl; (with_reducible repeat (first | refine Yh ?_ _ | refine Yp ?_ | refine Yn ?_ _)); refine Yna (cs := #[.string (⟨#[]⟩ : ByteArray), .string (⟨#[]⟩ : ByteArray), .int .i64 0, .string (⟨#[]⟩ : ByteArray), .string (⟨#[]⟩ : ByteArray), .string (⟨#[]⟩ : ByteArray), .bool false, .bool false]) ?_ 0 _ rfl; (with_reducible repeat (first | refine Yh ?_ _ | refine Yp ?_ | refine Yn ?_ _)); refine Yub ?_ lC.out _; (with_reducible repeat (first | refine Yh ?_ _ | refine Yp ?_ | refine Yn ?_ _)); refine Yub ?_ lC.out _; (with_reducible repeat (first | refine Yh ?_ _ | refine Yp ?_ | refine Yn ?_ _)); exact gI.out) Tryz.underlying25 rfl Zi) rfl ?_
 exact ⟨Zl, by repeat (first | (with_reducible first | exact HB.out | apply Yd | apply Yb | apply Yc | refine Yg ?_ aEx.out | refine Yg ?_ aJV.out) | exact HB.out)⟩
def Ytb.f (a0 : ByteArray) : Option (Bool) := some (decide ((a0.size : Int) > 2200))
theorem Ytb.calls (a0 : ByteArray) (r : Bool) (w : World) (hE : EnvOk w) (h : Ytb.f a0 = some r) :
  Calls Tryz.prog 31 #[.string a0] w fun e w' => e = .returned (.bool r) ∧ Drawn0 w w' := by
 have HE := Ya.mk hE
 clear hE
 have H : (some (decide ((a0.size : Int) > 2200))) = some r := h
 clear h
 obtain rfl := Option.some.inj H
 go_enter Tryz.func31, Tryz.ntmps31
 go_wp2
 go_ret
 exact ⟨Zf, Zh⟩
def Ykd.f (k : Nat) (aE aJ : ByteArray) (aN : Int) (aG aM aK : ByteArray) (aU aV : Bool) : Option (Bool) := (Ytb.f aE).bind fun aCg => (if aCg = true then (some true) else ((Yy.f k aE aJ aN aG aM aK aU aV).bind fun zV => ((Ytb.f zV).bind fun aCh => (some aCh))))
theorem Ykd.calls (k : Nat) (aE aJ : ByteArray) (aN : Int) (aG aM aK : ByteArray) (aU aV r : Bool) (w : World) (hE : EnvOk w) (h : Ykd.f k aE aJ aN aG aM aK aU aV = some r) :
  Calls Tryz.prog 30 #[.agg #[.string aE, .string aJ, .int .i64 aN, .string aG, .string aM, .string aK, .bool aU, .bool aV]] w fun e w' => e = .returned (.bool r) ∧ Below w.heap.size w w' := by
 have bQ := Tryz.underlying25
 have HE := Ya.mk hE
 clear hE
 have HB := Ya.mk (Below.refl w.heap.size w)
 have H : ((Ytb.f aE).bind fun aCg => (if aCg = true then (some true) else ((Yy.f k aE aJ aN aG aM aK aU aV).bind fun zV => ((Ytb.f zV).bind fun aCh => (some aCh))))) = some r := h
 clear h
 replace H := Option.bind_eq_some_iff.mp H
 obtain ⟨aCg, dV, H⟩ := H
 try dsimp -simprocs only at H
 have A2 := Ya.mk dV
 clear dV
 by_cases c3 : aCg = true
 ·subst c3
  rw [if_pos rfl] at H
  obtain rfl := Option.some.inj H
  go_enter Tryz.func30, Tryz.ntmps30
  go_wp2_with (first | ((with_reducible refine Yad (N := 1) rfl ?_); refine Yzc ?hg (N := 1) ?hd (cs := #[.string aE, .string aJ, .int .i64 aN, .string aG, .string aM, .string aK, .bool aU, .bool aV]) (t := 25) ?hr ?_; (case hd => rfl); (case hg => rfl); (case hr => first | (go_simp; done) | (go_simp; rfl)); intro eB hg w4 hbox hb; have aH := Ya.mk (Yt Za hb); have aR := Ya.mk (hbox); have bK := Ya.mk ((by rw [hg]; exact (Yia Za) : w.heap.size ≤ eB)); have dM := Ya.mk ((by rw [hg]; exact (Yia Za) : w.heap.size ≤ eB)); clear HB; have HB := aH; have cH := aR; have aJW := bK; have aEv := dM; clear aH aR bK dM; clear hb hbox hg; have aBQ : w4.cell? ⟨eB, 0, none⟩ = some (.string aE) := (Yf cH.out 0).trans rfl; have aBR : w4.cell? ⟨eB, 1, none⟩ = some (.string aJ) := (Yf cH.out 1).trans rfl; have aBS : w4.cell? ⟨eB, 2, none⟩ = some (.int .i64 aN) := (Yf cH.out 2).trans rfl; have aBT : w4.cell? ⟨eB, 3, none⟩ = some (.string aG) := (Yf cH.out 3).trans rfl; have aBU : w4.cell? ⟨eB, 4, none⟩ = some (.string aM) := (Yf cH.out 4).trans rfl; have aBV : w4.cell? ⟨eB, 5, none⟩ = some (.string aK) := (Yf cH.out 5).trans rfl; have aBW : w4.cell? ⟨eB, 6, none⟩ = some (.bool aU) := (Yf cH.out 6).trans rfl; have aBX : w4.cell? ⟨eB, 7, none⟩ = some (.bool aV) := (Yf cH.out 7).trans rfl; have aBY := Ye cH.out 0; have aBZ := Ye cH.out 1; have aCa := Ye cH.out 2; have aCb := Ye cH.out 3; have aCc := Ye cH.out 4; have aCd := Ye cH.out 5; have aCe := Ye cH.out 6; have aCf := Ye cH.out 7) | ((with_reducible refine Yi (f := 31) rfl ?_); refine Yaa (some 5) rfl rfl Tryz.func31 Zi rfl #[.string aE] rfl Zb ?_; (with_reducible refine (Ytb.calls aE true _ ?side1 A2.out).mono ?_); (case side1 => first | exact HE.out | exact EnvOk.below HE.out Zz); rintro e w' ⟨rfl, ⟨nd, rfl⟩⟩; refine ⟨_, rfl, ?_⟩))
  go_ret
  exact ⟨Zl, Zz⟩
 replace c3 := Bool.eq_false_iff.mpr c3
 subst c3
 rw [if_neg (show ¬ (false = true) by decide)] at H
 replace H := Option.bind_eq_some_iff.mp H
 obtain ⟨zV, pM, H⟩ := H
 try dsimp -simprocs only at H
 have A6 := Ya.mk pM
 clear pM
 replace H := Option.bind_eq_some_iff.mp H
 obtain ⟨aCh, nU, H⟩ := H
 try dsimp -simprocs only at H
 have A7 := Ya.mk nU
 clear nU
 obtain rfl := Option.some.inj H
 go_enter Tryz.func30, Tryz.ntmps30
 go_wp2_with (first | ((with_reducible refine Yad (N := 1) rfl ?_); refine Yzc ?hg (N := 1) ?hd (cs := #[.string aE, .string aJ, .int .i64 aN, .string aG, .string aM, .string aK, .bool aU, .bool aV]) (t := 25) ?hr ?_; (case hd => rfl); (case hg => rfl); (case hr => first | (go_simp; done) | (go_simp; rfl)); intro eB hg w8 hbox hb; have aH := Ya.mk (Yt Za hb); have aR := Ya.mk (hbox); have bK := Ya.mk ((by rw [hg]; exact (Yia Za) : w.heap.size ≤ eB)); have dM := Ya.mk ((by rw [hg]; exact (Yia Za) : w.heap.size ≤ eB)); clear HB; have HB := aH; have cH := aR; have aJW := bK; have aEv := dM; clear aH aR bK dM; clear hb hbox hg; have rL : w8.cell? ⟨eB, 0, none⟩ = some (.string aE) := (Yf cH.out 0).trans rfl; have rM : w8.cell? ⟨eB, 1, none⟩ = some (.string aJ) := (Yf cH.out 1).trans rfl; have rN : w8.cell? ⟨eB, 2, none⟩ = some (.int .i64 aN) := (Yf cH.out 2).trans rfl; have rO : w8.cell? ⟨eB, 3, none⟩ = some (.string aG) := (Yf cH.out 3).trans rfl; have rP : w8.cell? ⟨eB, 4, none⟩ = some (.string aM) := (Yf cH.out 4).trans rfl; have rQ : w8.cell? ⟨eB, 5, none⟩ = some (.string aK) := (Yf cH.out 5).trans rfl; have rR : w8.cell? ⟨eB, 6, none⟩ = some (.bool aU) := (Yf cH.out 6).trans rfl; have rS : w8.cell? ⟨eB, 7, none⟩ = some (.bool aV) := (Yf cH.out 7).trans rfl; have rT := Ye cH.out 0; have rU := Ye cH.out 1; have rV := Ye cH.out 2; have rW := Ye cH.out 3; have rX := Ye cH.out 4; have rY := Ye cH.out 5; have rZ := Ye cH.out 6; have sA := Ye cH.out 7) | ((with_reducible refine Yi (f := 31) rfl ?_); refine Yaa (some 5) rfl rfl Tryz.func31 Zi rfl #[.string aE] rfl Zb ?_; (with_reducible refine (Ytb.calls aE false _ ?side1 A2.out).mono ?_); (case side1 => first | exact HE.out | exact EnvOk.below HE.out Zz); rintro e w' ⟨rfl, ⟨nd, rfl⟩⟩; refine ⟨_, rfl, ?_⟩) | (go_at_call 25; (with_reducible refine (Yy.calls k aE aJ aN aG aM aK aU aV zV _ ?side1 A6.out).mono ?_); (case side1 => first | exact HE.out | exact EnvOk.below HE.out Zz); rintro e pJ ⟨rfl, hb⟩; have aH := Ya.mk (Ykb (g := eB) (o := .cells #[.string aE, .string aJ, .int .i64 aN, .string aG, .string aM, .string aK, .bool aU, .bool aV] 25 (0, 0)) (by (with_reducible repeat (first | refine Yh ?_ _ | refine Yp ?_ | refine Yn ?_ _)); exact cH.out) hb); have aR := Ya.mk (Yt Zz hb); clear cH; clear HB; have cH := aH; have HB := aR; clear aH aR; (try clear hb); (try clear bU); (try clear hk); (try clear hi)) | (go_at_call 31; (with_reducible refine (Ytb.calls zV aCh _ ?side1 A7.out).mono ?_); (case side1 => first | exact HE.out | exact EnvOk.below HE.out Zz); rintro e w' ⟨rfl, ⟨nd, rfl⟩⟩))
 go_ret
 exact ⟨Zl, Zz⟩
end Go.Proofs.YtnmglnglbdpjjaaGreatDoor.X
