/- Printed by a program of ours: functions as plain Lean, and what a call of each does. -/
import Derived.Test.YtnmglnglbdpjjaaGreatDoorUkWords
import Derived.Test.YtnmglnglbdpjjaaGreatDoorUkX0
import Derived.Test.YtnmglnglbdpjjaaGreatDoorUkX3
import Derived.Test.YtnmglnglbdpjjaaGreatDoorUkX4
import Derived.Test.YtnmglnglbdpjjaaGreatDoorUkQa
import Derived.Test.YtnmglnglbdpjjaaGreatDoorUkH1c
namespace Go.Proofs.YtnmglnglbdpjjaaGreatDoor.X
open Go.RowKit Go.Yw.PrintWords Go.Yw.PrintLast Go.Yw.PrintMore
attribute [local go_sem] Yde Yee Ywe Yve Ypd Yod Yce Ybe
set_option linter.unusedVariables false
set_option linter.unusedSimpArgs false
set_option maxHeartbeats 8000000
set_option maxRecDepth 100000
mutual
def Yw.j0 : Nat → ByteArray → ByteArray → Bool → ByteArray → ByteArray → ByteArray → Int → ByteArray → ByteArray → ByteArray → Bool → Bool → Option (Int × ByteArray × ByteArray × ByteArray × Int × ByteArray × ByteArray × ByteArray × Bool × Bool)
 | 0, _, _, _, _, _, _, _, _, _, _, _, _ => none
 | k + 1, x3, x4, x29, oQ, oR, jS, jT, jU, jV, jW, jX, jY => if x29 = true then (some (3, oQ, oR, jS, jT, jU, jV, jW, jX, jY)) else (Yw.l0 k x3 x4 (x3.size : Int) 0 oQ oR jS jT jU jV jW jX jY)
def Yw.l0 : Nat → ByteArray → ByteArray → Int → Int → ByteArray → ByteArray → ByteArray → Int → ByteArray → ByteArray → ByteArray → Bool → Bool → Option (Int × ByteArray × ByteArray × ByteArray × Int × ByteArray × ByteArray × ByteArray × Bool × Bool)
 | 0, _, _, _, _, _, _, _, _, _, _, _, _, _ => none
 | k + 1, x3, x4, x31, x32, oQ, oR, jS, jT, jU, jV, jW, jX, jY => if x32 < x31 then (if 0 ≤ x32 then (if x32 < (x3.size : Int) then ((Yva.f (bt x3 x32)).bind fun aFW => (if aFW = true then (Yw.l0 k x3 x4 x31 (wrap64 (x32 + 1)) oQ oR jS jT jU jV jW jX jY) else ((Yta.f (bt x3 x32)).bind fun aFX => (if aFX = true then (Yw.l0 k x3 x4 x31 (wrap64 (x32 + 1)) oQ oR jS jT jU jV jW jX jY) else ((strings_IndexByte.f (⟨#[43, 45, 46]⟩ : ByteArray) (bt x3 x32)).bind fun vP => (if vP < 0 then (some (3, oQ, oR, jS, jT, jU, jV, jW, jX, jY)) else (Yw.l0 k x3 x4 x31 (wrap64 (x32 + 1)) oQ oR jS jT jU jV jW jX jY))))))) else (none)) else (none)) else ((Yhb.f x3).bind fun iV => (if iV.toList = ([104, 116, 116, 112] : List UInt8) then (some (0, x4, iV, jS, jT, jU, jV, jW, jX, jY)) else (if iV.toList = ([104, 116, 116, 112, 115] : List UInt8) then (some (0, x4, iV, jS, jT, jU, jV, jW, jX, jY)) else (some (16, x4, iV, jS, jT, jU, jV, jW, jX, jY)))))
end
def Yw.f (k : Nat) (cR gB gC : ByteArray) (gD : Int) (gE gF gG : ByteArray) (gH gI : Bool) : Option (Int × ByteArray × ByteArray × ByteArray × Int × ByteArray × ByteArray × ByteArray × Bool × Bool) := (strings_Cut.f cR (⟨#[58]⟩ : ByteArray)).bind fun eI => (if eI.2.2 = true then (if eI.1.toList = ([] : List UInt8) then (Yw.j0 k eI.1 eI.2.1 true cR gB gC gD gE gF gG gH gI) else (if 0 < (eI.1.size : Int) then ((Yva.f (bt eI.1 0)).bind fun aAt => (Yw.j0 k eI.1 eI.2.1 (!aAt) cR gB gC gD gE gF gG gH gI)) else (none))) else (Yw.j0 k eI.1 eI.2.1 true cR gB gC gD gE gF gG gH gI))
theorem Yw.calls (k g : Nat) (cR gB gC : ByteArray) (gD : Int) (gE gF gG : ByteArray) (gH gI : Bool) (r1 : Int) (r2 r3 r4 : ByteArray) (r5 : Int) (r6 r7 r8 : ByteArray) (r9 vJ : Bool) (w0 w : World) (hE : EnvOk w0) (hI : IsS53 w0 w g cR gB gC gD gE gF gG gH gI) (hB : Below w0.heap.size w0 w) (h : Yw.f k cR gB gC gD gE gF gG gH gI = some (r1, r2, r3, r4, r5, r6, r7, r8, r9, vJ)) :
  Calls Tryz.prog 43 #[.pointer (some ⟨g, 0, none⟩)] w fun e w' => e = .returned (.int .i64 r1) ∧ IsS53 w0 w' g r2 r3 r4 r5 r6 r7 r8 r9 vJ ∧ Below w0.heap.size w0 w' ∧ KeepBut w w' g none := by
 have cH := Ya.mk hI
 have HK := Ya.mk (KeepBut.refl w g none)
 have HL := Ya.mk hB.size
 clear hI
 have HE := Ya.mk hE
 clear hE
 have HW0 := Ya.mk hB.size
 have HB := Ya.mk hB
 clear hB
 have H : ((strings_Cut.f cR (⟨#[58]⟩ : ByteArray)).bind fun eI => (if eI.2.2 = true then (if eI.1.toList = ([] : List UInt8) then (Yw.j0 k eI.1 eI.2.1 true cR gB gC gD gE gF gG gH gI) else (if 0 < (eI.1.size : Int) then ((Yva.f (bt eI.1 0)).bind fun aAt => (Yw.j0 k eI.1 eI.2.1 (!aAt) cR gB gC gD gE gF gG gH gI)) else (none))) else (Yw.j0 k eI.1 eI.2.1 true cR gB gC gD gE gF gG gH gI))) = some (r1, r2, r3, r4, r5, r6, r7, r8, r9, vJ) := h
 clear h
 replace H := Option.bind_eq_some_iff.mp H
 obtain ⟨⟨cS, aFY, aIx⟩, dU, H⟩ := H
 try dsimp -simprocs only at H
 have A2 := Ya.mk dU
 clear dU
 have qY := Ya.mk H
 clear H
 obtain ⟨iW, aVC⟩ := cH.out
 have vQ := Ywb iW
 have vR := Yjc iW
 have vS := Ygc iW
 have vT := Yfc iW
 have vU := Yac iW
 have vV := Ydc iW
 have vW := Yyb iW
 have vX := Ybc iW
 have aBC := Yxb iW
 have vY := Ye iW 0
 have vZ := Ye iW 1
 have wA := Ye iW 2
 have wB := Ye iW 3
 have wC := Ye iW 4
 have wD := Ye iW 5
 have wE := Ye iW 6
 have wF := Ye iW 7
 have aBD := Ye iW 8
 clear iW aVC
 go_enter Tryz.func43, Tryz.ntmps43
 go_upto_region 2 with (first | ((with_reducible refine Yh (f := 76) rfl ?_); refine Yba (some 14) rfl rfl Tryz.func76 Zi rfl #[.string cR, .string (⟨#[58]⟩ : ByteArray)] rfl Zb ?_; (with_reducible refine (strings_Cut.calls cR (⟨#[58]⟩ : ByteArray) cS aFY aIx _ ?side1 A2.out).mono ?_); (case side1 => first | exact HE.out | exact EnvOk.below HE.out Ze); rintro e w' ⟨rfl, ⟨nd, rfl⟩⟩; refine ⟨_, rfl, ?_⟩))
 (try simp only [Act.put, List.setIfInBounds_toArray, List.set_cons_zero, List.set_cons_succ])
 go_cut [29] (fun v29 wc => ∃ (kq : Nat) (xM : Bool), v29 = .bool xM ∧ Ya (Yw.j0 kq cS aFY xM cR gB gC gD gE gF gG gH gI = some (r1, r2, r3, r4, r5, r6, r7, r8, r9, vJ)) ∧ Ya (kq ≤ k) ∧ Ya (IsS53 w0 wc g cR gB gC gD gE gF gG gH gI) ∧ Ya (KeepBut w wc g none) ∧ Ya (Below w0.heap.size w0 wc))
 case first =>
  have H := qY.out
  clear qY
  by_cases c5 : aIx = true
  rotate_left
  ·replace c5 := Bool.eq_false_iff.mpr c5
   subst c5
   rw [if_neg (show ¬ (false = true) by decide)] at H
   have H' := Ya.mk H
   clear H
   go_wp2
   go_meet
   case rel => exact ⟨_, (true), Zf, H', ⟨Zna⟩, ⟨Zd⟩, ⟨Zg⟩, ⟨Ze⟩⟩
  subst c5
  rw [if_pos rfl] at H
  by_cases c6 : cS.toList = ([] : List UInt8)
  ·rw [if_pos c6] at H
   have dP : (cS.toList == ([] : List UInt8)) = true := beq_iff_eq.mpr c6
   have jF : (cS.toList != ([] : List UInt8)) = false := bne_eq_false_iff_eq.mpr c6
   clear c6
   (first | rw [dP] | (simp only [Yma, Yqa]; rw [dP]) | skip)
   have H' := Ya.mk H
   clear H
   go_wp2
   go_meet
   case rel => exact ⟨_, (true), Zf, H', ⟨Zna⟩, ⟨Zd⟩, ⟨Zg⟩, ⟨Ze⟩⟩
  rw [if_neg c6] at H
  have dP : (cS.toList == ([] : List UInt8)) = false := beq_eq_false_iff_ne.mpr c6
  have jF : (cS.toList != ([] : List UInt8)) = true := bne_iff_ne.mpr c6
  (first | rw [dP] | (simp only [Yma, Yqa]; rw [dP]) | skip)
  by_cases c7 : 0 < (cS.size : Int)
  rotate_left
  ·rw [if_neg c7] at H
   exact absurd H Zv
  rw [if_pos c7] at H
  have dA : decide (0 < (cS.size : Int)) = true := decide_eq_true c7
  have iF : decide (0 < cS.size) = true := decide_eq_true Zl
  clear c7
  replace H := Option.bind_eq_some_iff.mp H
  obtain ⟨aAt, A90, H⟩ := H
  try dsimp -simprocs only at H
  have A9 := Ya.mk A90
  clear A90
  have H' := Ya.mk H
  clear H
  have p8 : 0 ≤ (0 : Int) := Zl
  have q8 : 0 < cS.size := (by have : (0 : Int) < (cS.size : Int) := of_decide_eq_true Zc; omega)
  have hx8 : ∀ h : 0 < cS.size, ((cS[0]'h).toNat : Int) = bt cS 0 := Yab cS 0
  clear p8
  have qi8 : (0 < (cS.size : Int)) = True := eq_true (of_decide_eq_true Zc)
  replace q8 := eq_true q8
  go_wp2_with (first | (go_at_call 77; (with_reducible refine (Yva.calls (bt cS 0) aAt _ ?side1 A9.out).mono ?_); (case side1 => first | exact HE.out | exact EnvOk.below HE.out Ze); rintro e w' ⟨rfl, ⟨nd, rfl⟩⟩))
  go_meet
  case rel => exact ⟨_, (!aAt), Zf, H', ⟨Zna⟩, ⟨Zd⟩, ⟨Zg⟩, ⟨Ze⟩⟩
 case rest =>
  clear qY
  try clear p2
  try clear c4
  try clear c5
  try clear c6
  try clear dP
  try clear jF
  try clear c7
  try clear dA
  try clear iF
  try clear p8
  try clear q8
  try clear hx8
  try clear qi8
  try clear vQ
  try clear vR
  try clear vS
  try clear vT
  try clear vU
  try clear vV
  try clear vW
  try clear vX
  try clear aBC
  try clear vY
  try clear vZ
  try clear wA
  try clear wB
  try clear wC
  try clear wD
  try clear wE
  try clear wF
  try clear aBD
  try clear p8
  try clear q8
  obtain ⟨kq, xM, rfl, HA, qD, cH, HK, HB⟩ := hcut
  cases kq with
  | zero => exact absurd HA.out (by simp [Yw.j0])
  | succ nM =>
   have H := HA.out
   clear HA
   simp only [Yw.j0] at H
   by_cases dR : xM = true
   ·subst dR
    rw [if_pos rfl] at H
    simp only [Option.some.injEq, Prod.mk.injEq] at H
    obtain ⟨rfl, rfl, rfl, rfl, rfl, rfl, rfl, rfl, rfl, rfl⟩ := H
    go_wp2
    go_ret
    exact ⟨Zk, Zd, Ze, Zg⟩
   replace dR := Bool.eq_false_iff.mpr dR
   subst dR
   rw [if_neg (show ¬ (false = true) by decide)] at H
   have H' := Ya.mk H
   clear H
   go_wp2
   go_loopg [32] nM (fun kq v32 w' => ∃ (cL : Int), v32 = .int .i64 cL ∧ Ya (Yw.l0 kq cS aFY (cS.size : Int) cL cR gB gC gD gE gF gG gH gI = some (r1, r2, r3, r4, r5, r6, r7, r8, r9, vJ)) ∧ Ya (kq ≤ nM) ∧ Ya (IsS53 w0 w' g cR gB gC gD gE gF gG gH gI) ∧ Ya (KeepBut w w' g none) ∧ Ya (Below w0.heap.size w0 w'))
   case atStart => exact ⟨(0), Zf, H', ⟨Nat.le_refl _⟩, ⟨Zd⟩, ⟨Zg⟩, ⟨Ze⟩⟩
   case round =>
    clear H'
    try clear c1
    try clear p2
    try clear c4
    try clear c5
    try clear c6
    try clear dP
    try clear jF
    try clear c7
    try clear dA
    try clear iF
    try clear p8
    try clear q8
    try clear hx8
    try clear qi8
    try clear dR
    try clear vQ
    try clear vR
    try clear vS
    try clear vT
    try clear vU
    try clear vV
    try clear vW
    try clear vX
    try clear aBC
    try clear vY
    try clear vZ
    try clear wA
    try clear wB
    try clear wC
    try clear wD
    try clear wE
    try clear wF
    try clear aBD
    try clear p2
    try clear p8
    try clear q8
    obtain ⟨cL, rfl, HA, kB, cH, HK, HB⟩ := hrel
    cases gk with
    | zero => exact absurd HA.out (by simp [Yw.l0])
    | succ k2 =>
     have H := HA.out
     clear HA
     simp only [Yw.l0] at H
     by_cases c11 : cL < (cS.size : Int)
     rotate_left
     ·rw [if_neg c11] at H
      have gU : decide (cL < (cS.size : Int)) = false := decide_eq_false c11
      clear c11
      replace H := Option.bind_eq_some_iff.mp H
      obtain ⟨iV, aBE, H⟩ := H
      try dsimp -simprocs only at H
      have A21 := Ya.mk aBE
      clear aBE
      by_cases iJ : iV.toList = ([104, 116, 116, 112] : List UInt8)
      ·rw [if_pos iJ] at H
       have lT : (iV.toList == ([104, 116, 116, 112] : List UInt8)) = true := beq_iff_eq.mpr iJ
       have oS : (iV.toList != ([104, 116, 116, 112] : List UInt8)) = false := bne_eq_false_iff_eq.mpr iJ
       clear iJ
       simp only [Option.some.injEq, Prod.mk.injEq] at H
       obtain ⟨rfl, rfl, rfl, rfl, rfl, rfl, rfl, rfl, rfl, rfl⟩ := H
       go_wp2_with (first | ((with_reducible refine Yh (f := 52) rfl ?_); refine Yba (some 55) rfl rfl Tryz.func52 Zi rfl #[.string cS] rfl Zb ?_; (with_reducible refine (Yhb.calls cS iV _ ?side1 A21.out).mono ?_); (case side1 => first | exact HE.out | exact EnvOk.below HE.out Ze); rintro e pQ ⟨rfl, hb⟩; refine ⟨_, rfl, ?_⟩; have aM := Ya.mk (IsS53.below Zd hb); have aU := Ya.mk (KeepBut.trans Zg (KeepBut.of_below hb g none) (.inl rfl)); have bI := Ya.mk (Ys Ze hb); clear cH; clear HK; clear HB; have cH := aM; have HK := aU; have HB := bI; clear aM aU bI; (try clear hb); (try clear cC); (try clear hk); (try clear hi); obtain ⟨eV, aIz⟩ := cH.out; have aDo := Ywb eV; have aDp := Yjc eV; have aDq := Ygc eV; have aDr := Yfc eV; have aDs := Yac eV; have aDt := Ydc eV; have aDu := Yyb eV; have aDv := Ybc eV; have aMy := Yxb eV; have aDw := Ye eV 0; have aDx := Ye eV 1; have aDy := Ye eV 2; have aDz := Ye eV 3; have aDA := Ye eV 4; have aDB := Ye eV 5; have aDC := Ye eV 6; have aDD := Ye eV 7; have aMz := Ye eV 8; clear eV aIz))
       go_ret
       exact ⟨Zk, Zd, Ze, Zg⟩
      rw [if_neg iJ] at H
      have lT : (iV.toList == ([104, 116, 116, 112] : List UInt8)) = false := beq_eq_false_iff_ne.mpr iJ
      have oS : (iV.toList != ([104, 116, 116, 112] : List UInt8)) = true := bne_iff_ne.mpr iJ
      by_cases qN : iV.toList = ([104, 116, 116, 112, 115] : List UInt8)
      rotate_left
      ·rw [if_neg qN] at H
       have tR : (iV.toList == ([104, 116, 116, 112, 115] : List UInt8)) = false := beq_eq_false_iff_ne.mpr qN
       have xN : (iV.toList != ([104, 116, 116, 112, 115] : List UInt8)) = true := bne_iff_ne.mpr qN
       simp only [Option.some.injEq, Prod.mk.injEq] at H
       obtain ⟨rfl, rfl, rfl, rfl, rfl, rfl, rfl, rfl, rfl, rfl⟩ := H
       go_wp2_with (first | ((with_reducible refine Yh (f := 52) rfl ?_); refine Yba (some 55) rfl rfl Tryz.func52 Zi rfl #[.string cS] rfl Zb ?_; (with_reducible refine (Yhb.calls cS iV _ ?side1 A21.out).mono ?_); (case side1 => first | exact HE.out | exact EnvOk.below HE.out Ze); rintro e w28 ⟨rfl, hb⟩; refine ⟨_, rfl, ?_⟩; have aM := Ya.mk (IsS53.below Zd hb); have aU := Ya.mk (KeepBut.trans Zg (KeepBut.of_below hb g none) (.inl rfl)); have bI := Ya.mk (Ys Ze hb); clear cH; clear HK; clear HB; have cH := aM; have HK := aU; have HB := bI; clear aM aU bI; (try clear hb); (try clear cC); (try clear hk); (try clear hi); obtain ⟨eW, aIA⟩ := cH.out; have aMA := Ywb eW; have aMB := Yjc eW; have aMC := Ygc eW; have aMD := Yfc eW; have aME := Yac eW; have aMF := Ydc eW; have aMG := Yyb eW; have aMH := Ybc eW; have aMI := Yxb eW; have aMJ := Ye eW 0; have aMK := Ye eW 1; have aML := Ye eW 2; have aMM := Ye eW 3; have aMN := Ye eW 4; have aMO := Ye eW 5; have aMP := Ye eW 6; have aMQ := Ye eW 7; have aMR := Ye eW 8; clear eW aIA))
       go_ret
       exact ⟨Zk, Zd, Ze, Zg⟩
      rw [if_pos qN] at H
      have tR : (iV.toList == ([104, 116, 116, 112, 115] : List UInt8)) = true := beq_iff_eq.mpr qN
      have xN : (iV.toList != ([104, 116, 116, 112, 115] : List UInt8)) = false := bne_eq_false_iff_eq.mpr qN
      clear qN
      simp only [Option.some.injEq, Prod.mk.injEq] at H
      obtain ⟨rfl, rfl, rfl, rfl, rfl, rfl, rfl, rfl, rfl, rfl⟩ := H
      go_wp2_with (first | ((with_reducible refine Yh (f := 52) rfl ?_); refine Yba (some 55) rfl rfl Tryz.func52 Zi rfl #[.string cS] rfl Zb ?_; (with_reducible refine (Yhb.calls cS iV _ ?side1 A21.out).mono ?_); (case side1 => first | exact HE.out | exact EnvOk.below HE.out Ze); rintro e w26 ⟨rfl, hb⟩; refine ⟨_, rfl, ?_⟩; have aM := Ya.mk (IsS53.below Zd hb); have aU := Ya.mk (KeepBut.trans Zg (KeepBut.of_below hb g none) (.inl rfl)); have bI := Ya.mk (Ys Ze hb); clear cH; clear HK; clear HB; have cH := aM; have HK := aU; have HB := bI; clear aM aU bI; (try clear hb); (try clear cC); (try clear hk); (try clear hi); obtain ⟨eX, aIB⟩ := cH.out; have xO := Ywb eX; have xP := Yjc eX; have xQ := Ygc eX; have xR := Yfc eX; have xS := Yac eX; have xT := Ydc eX; have xU := Yyb eX; have xV := Ybc eX; have aMS := Yxb eX; have xW := Ye eX 0; have xX := Ye eX 1; have xY := Ye eX 2; have xZ := Ye eX 3; have yA := Ye eX 4; have yB := Ye eX 5; have yC := Ye eX 6; have yD := Ye eX 7; have aMT := Ye eX 8; clear eX aIB))
      go_ret
      exact ⟨Zk, Zd, Ze, Zg⟩
     rw [if_pos c11] at H
     have gU : decide (cL < (cS.size : Int)) = true := decide_eq_true c11
     clear c11
     by_cases dG : 0 ≤ cL
     rotate_left
     ·rw [if_neg dG] at H
      exact absurd H Zv
     rw [if_pos dG] at H
     have dV : decide (0 ≤ cL) = true := decide_eq_true dG
     clear dG
     by_cases eN : cL < (cS.size : Int)
     rotate_left
     ·rw [if_neg eN] at H
      exact absurd H Zv
     rw [if_pos eN] at H
     have hM : decide (cL < (cS.size : Int)) = true := decide_eq_true eN
     clear eN
     replace H := Option.bind_eq_some_iff.mp H
     obtain ⟨aFW, tS, H⟩ := H
     try dsimp -simprocs only at H
     have A15 := Ya.mk tS
     clear tS
     by_cases eP : aFW = true
     ·subst eP
      rw [if_pos rfl] at H
      have H' := Ya.mk H
      clear H
      have iQ : 0 ≤ (cL : Int) := of_decide_eq_true Zc
      have iR : cL < (cS.size : Int) := of_decide_eq_true Zc
      have lF := Yab cS cL
      replace iQ := eq_true iQ
      replace iR := eq_true iR
      go_wp2_with (first | ((with_reducible refine Yh (f := 77) rfl ?_); refine Yba (some 39) rfl rfl Tryz.func77 Zi rfl #[.int .u8 (bt cS cL)] rfl Zb ?_; (with_reducible refine (Yva.calls (bt cS cL) true _ ?side1 A15.out).mono ?_); (case side1 => first | exact HE.out | exact EnvOk.below HE.out Ze); rintro e w' ⟨rfl, ⟨nd, rfl⟩⟩; refine ⟨_, rfl, ?_⟩))
      go_roundg k2
      case measure => have := qD.out; have := kB.out; omega
      case rel => exact ⟨(wrap64 (cL + 1)), Zf, H', ⟨Zza⟩, ⟨Zd⟩, ⟨Zg⟩, ⟨Ze⟩⟩
     replace eP := Bool.eq_false_iff.mpr eP
     subst eP
     rw [if_neg (show ¬ (false = true) by decide)] at H
     replace H := Option.bind_eq_some_iff.mp H
     obtain ⟨aFX, oT, H⟩ := H
     try dsimp -simprocs only at H
     have A17 := Ya.mk oT
     clear oT
     by_cases eQ : aFX = true
     ·subst eQ
      rw [if_pos rfl] at H
      have H' := Ya.mk H
      clear H
      have iQ : 0 ≤ (cL : Int) := of_decide_eq_true Zc
      have iR : cL < (cS.size : Int) := of_decide_eq_true Zc
      have lF := Yab cS cL
      replace iQ := eq_true iQ
      replace iR := eq_true iR
      go_wp2_with (first | ((with_reducible refine Yh (f := 77) rfl ?_); refine Yba (some 39) rfl rfl Tryz.func77 Zi rfl #[.int .u8 (bt cS cL)] rfl Zb ?_; (with_reducible refine (Yva.calls (bt cS cL) false _ ?side1 A15.out).mono ?_); (case side1 => first | exact HE.out | exact EnvOk.below HE.out Ze); rintro e w' ⟨rfl, ⟨nd, rfl⟩⟩; refine ⟨_, rfl, ?_⟩) | (go_at_call 78; (with_reducible refine (Yta.calls (bt cS cL) true _ ?side1 A17.out).mono ?_); (case side1 => first | exact HE.out | exact EnvOk.below HE.out Ze); rintro e w' ⟨rfl, ⟨nd, rfl⟩⟩))
      go_roundg k2
      case measure => have := qD.out; have := kB.out; omega
      case rel => exact ⟨(wrap64 (cL + 1)), Zf, H', ⟨Zza⟩, ⟨Zd⟩, ⟨Zg⟩, ⟨Ze⟩⟩
     replace eQ := Bool.eq_false_iff.mpr eQ
     subst eQ
     rw [if_neg (show ¬ (false = true) by decide)] at H
     replace H := Option.bind_eq_some_iff.mp H
     obtain ⟨vP, aIC, H⟩ := H
     try dsimp -simprocs only at H
     have A19 := Ya.mk aIC
     clear aIC
     by_cases hD : vP < 0
     ·rw [if_pos hD] at H
      have kJ : decide (vP < 0) = true := decide_eq_true hD
      clear hD
      simp only [Option.some.injEq, Prod.mk.injEq] at H
      obtain ⟨rfl, rfl, rfl, rfl, rfl, rfl, rfl, rfl, rfl, rfl⟩ := H
      have iQ : 0 ≤ (cL : Int) := of_decide_eq_true Zc
      have iR : cL < (cS.size : Int) := of_decide_eq_true Zc
      have lF := Yab cS cL
      replace iQ := eq_true iQ
      replace iR := eq_true iR
      go_wp2_with (first | ((with_reducible refine Yh (f := 77) rfl ?_); refine Yba (some 39) rfl rfl Tryz.func77 Zi rfl #[.int .u8 (bt cS cL)] rfl Zb ?_; (with_reducible refine (Yva.calls (bt cS cL) false _ ?side1 A15.out).mono ?_); (case side1 => first | exact HE.out | exact EnvOk.below HE.out Ze); rintro e w' ⟨rfl, ⟨nd, rfl⟩⟩; refine ⟨_, rfl, ?_⟩) | (go_at_call 78; (with_reducible refine (Yta.calls (bt cS cL) false _ ?side1 A17.out).mono ?_); (case side1 => first | exact HE.out | exact EnvOk.below HE.out Ze); rintro e w' ⟨rfl, ⟨nd, rfl⟩⟩) | (go_at_call 79; (with_reducible refine (strings_IndexByte.calls (⟨#[43, 45, 46]⟩ : ByteArray) (bt cS cL) vP _ ?side1 A19.out).mono ?_); (case side1 => first | exact HE.out | exact EnvOk.below HE.out Ze); rintro e w' ⟨rfl, ⟨nd, rfl⟩⟩))
      go_ret
      exact ⟨Zk, Zd, Ze, Zg⟩
     rw [if_neg hD] at H
     have kJ : decide (vP < 0) = false := decide_eq_false hD
     clear hD
     have H' := Ya.mk H
     clear H
     have iQ : 0 ≤ (cL : Int) := of_decide_eq_true Zc
     have iR : cL < (cS.size : Int) := of_decide_eq_true Zc
     have lF := Yab cS cL
     replace iQ := eq_true iQ
     replace iR := eq_true iR
     go_wp2_with (first | ((with_reducible refine Yh (f := 77) rfl ?_); refine Yba (some 39) rfl rfl Tryz.func77 Zi rfl #[.int .u8 (bt cS cL)] rfl Zb ?_; (with_reducible refine (Yva.calls (bt cS cL) false _ ?side1 A15.out).mono ?_); (case side1 => first | exact HE.out | exact EnvOk.below HE.out Ze); rintro e w' ⟨rfl, ⟨nd, rfl⟩⟩; refine ⟨_, rfl, ?_⟩) | (go_at_call 78; (with_reducible refine (Yta.calls (bt cS cL) false _ ?side1 A17.out).mono ?_); (case side1 => first | exact HE.out | exact EnvOk.below HE.out Ze); rintro e w' ⟨rfl, ⟨nd, rfl⟩⟩) | (go_at_call 79; (with_reducible refine (strings_IndexByte.calls (⟨#[43, 45, 46]⟩ : ByteArray) (bt cS cL) vP _ ?side1 A19.out).mono ?_); (case side1 => first | exact HE.out | exact EnvOk.below HE.out Ze); rintro e w' ⟨rfl, ⟨nd, rfl⟩⟩))
     go_roundg k2
     case measure => have := qD.out; have := kB.out; omega
     case rel => exact ⟨(wrap64 (cL + 1)), Zf, H', ⟨Zza⟩, ⟨Zd⟩, ⟨Zg⟩, ⟨Ze⟩⟩
def Yze.f (k : Nat) (a0 : ByteArray) : Option (ByteArray × Int) := (Yae.f a0).bind fun lG => ((Yhb.f lG).bind fun iK => (if iK.toList = ([] : List UInt8) then (some ((⟨#[]⟩ : ByteArray), 4)) else ((Ylb.f k iK).bind fun aBF => (if aBF = true then (some (iK, 0)) else (some ((⟨#[]⟩ : ByteArray), 17))))))
theorem Yze.calls (k : Nat) (a0 r1 : ByteArray) (r2 : Int) (w : World) (hE : EnvOk w) (h : Yze.f k a0 = some (r1, r2)) :
  Calls Tryz.prog 19 #[.string a0] w fun e w' => e = .returned (.tuple #[.string r1, .int .i64 r2]) ∧ Below w.heap.size w w' := by
 have HE := Ya.mk hE
 clear hE
 have HB := Ya.mk (Below.refl w.heap.size w)
 have H : ((Yae.f a0).bind fun lG => ((Yhb.f lG).bind fun iK => (if iK.toList = ([] : List UInt8) then (some ((⟨#[]⟩ : ByteArray), 4)) else ((Ylb.f k iK).bind fun aBF => (if aBF = true then (some (iK, 0)) else (some ((⟨#[]⟩ : ByteArray), 17))))))) = some (r1, r2) := h
 clear h
 replace H := Option.bind_eq_some_iff.mp H
 obtain ⟨lG, dU, H⟩ := H
 try dsimp -simprocs only at H
 have A2 := Ya.mk dU
 clear dU
 replace H := Option.bind_eq_some_iff.mp H
 obtain ⟨iK, jB, H⟩ := H
 try dsimp -simprocs only at H
 have A3 := Ya.mk jB
 clear jB
 by_cases c4 : iK.toList = ([] : List UInt8)
 ·rw [if_pos c4] at H
  have cF : (iK.toList == ([] : List UInt8)) = true := beq_iff_eq.mpr c4
  have jL : (iK.toList != ([] : List UInt8)) = false := bne_eq_false_iff_eq.mpr c4
  clear c4
  simp only [Option.some.injEq, Prod.mk.injEq] at H
  obtain ⟨rfl, rfl⟩ := H
  go_enter Tryz.func19, Tryz.ntmps19
  go_wp2_with (first | ((with_reducible refine Yh (f := 53) rfl ?_); refine Yba (some 5) rfl rfl Tryz.func53 Zi rfl #[.string a0] rfl Zb ?_; (with_reducible refine (Yae.calls a0 lG _ ?side1 A2.out).mono ?_); (case side1 => first | exact HE.out | exact EnvOk.below HE.out Za); rintro e w5 ⟨rfl, hb⟩; refine ⟨_, rfl, ?_⟩; have aM := Ya.mk (Ys Za hb); clear HB; have HB := aM; clear aM; (try clear hb); (try clear cC); (try clear hk); (try clear hi)) | ((with_reducible refine Yh (f := 52) rfl ?_); refine Yba (some 6) rfl rfl Tryz.func52 Zi rfl #[.string lG] rfl Zb ?_; (with_reducible refine (Yhb.calls lG iK _ ?side1 A3.out).mono ?_); (case side1 => first | exact HE.out | exact EnvOk.below HE.out Za); rintro e w6 ⟨rfl, hb⟩; refine ⟨_, rfl, ?_⟩; have aM := Ya.mk (Ys Za hb); clear HB; have HB := aM; clear aM; (try clear hb); (try clear cC); (try clear hk); (try clear hi)))
  go_ret2
  exact ⟨Zk, Za⟩
 rw [if_neg c4] at H
 have cF : (iK.toList == ([] : List UInt8)) = false := beq_eq_false_iff_ne.mpr c4
 have jL : (iK.toList != ([] : List UInt8)) = true := bne_iff_ne.mpr c4
 replace H := Option.bind_eq_some_iff.mp H
 obtain ⟨aBF, oE, H⟩ := H
 try dsimp -simprocs only at H
 have A7 := Ya.mk oE
 clear oE
 by_cases c8 : aBF = true
 ·subst c8
  rw [if_pos rfl] at H
  simp only [Option.some.injEq, Prod.mk.injEq] at H
  obtain ⟨rfl, rfl⟩ := H
  go_enter Tryz.func19, Tryz.ntmps19
  go_wp2_with (first | ((with_reducible refine Yh (f := 53) rfl ?_); refine Yba (some 5) rfl rfl Tryz.func53 Zi rfl #[.string a0] rfl Zb ?_; (with_reducible refine (Yae.calls a0 lG _ ?side1 A2.out).mono ?_); (case side1 => first | exact HE.out | exact EnvOk.below HE.out Za); rintro e w9 ⟨rfl, hb⟩; refine ⟨_, rfl, ?_⟩; have aM := Ya.mk (Ys Za hb); clear HB; have HB := aM; clear aM; (try clear hb); (try clear cC); (try clear hk); (try clear hi)) | ((with_reducible refine Yh (f := 52) rfl ?_); refine Yba (some 6) rfl rfl Tryz.func52 Zi rfl #[.string lG] rfl Zb ?_; (with_reducible refine (Yhb.calls lG iK _ ?side1 A3.out).mono ?_); (case side1 => first | exact HE.out | exact EnvOk.below HE.out Za); rintro e qE ⟨rfl, hb⟩; refine ⟨_, rfl, ?_⟩; have aM := Ya.mk (Ys Za hb); clear HB; have HB := aM; clear aM; (try clear hb); (try clear cC); (try clear hk); (try clear hi)) | ((with_reducible refine Yh (f := 54) rfl ?_); refine Yba (some 12) rfl rfl Tryz.func54 Zi rfl #[.string iK] rfl Zb ?_; (with_reducible refine (Ylb.calls k iK true _ ?side1 A7.out).mono ?_); (case side1 => first | exact HE.out | exact EnvOk.below HE.out Za); rintro e w11 ⟨rfl, hb⟩; refine ⟨_, rfl, ?_⟩; have aM := Ya.mk (Ys Za hb); clear HB; have HB := aM; clear aM; (try clear hb); (try clear cC); (try clear hk); (try clear hi)))
  go_ret2
  exact ⟨Zk, Za⟩
 replace c8 := Bool.eq_false_iff.mpr c8
 subst c8
 rw [if_neg (show ¬ (false = true) by decide)] at H
 simp only [Option.some.injEq, Prod.mk.injEq] at H
 obtain ⟨rfl, rfl⟩ := H
 go_enter Tryz.func19, Tryz.ntmps19
 go_wp2_with (first | ((with_reducible refine Yh (f := 53) rfl ?_); refine Yba (some 5) rfl rfl Tryz.func53 Zi rfl #[.string a0] rfl Zb ?_; (with_reducible refine (Yae.calls a0 lG _ ?side1 A2.out).mono ?_); (case side1 => first | exact HE.out | exact EnvOk.below HE.out Za); rintro e vG ⟨rfl, hb⟩; refine ⟨_, rfl, ?_⟩; have aM := Ya.mk (Ys Za hb); clear HB; have HB := aM; clear aM; (try clear hb); (try clear cC); (try clear hk); (try clear hi)) | ((with_reducible refine Yh (f := 52) rfl ?_); refine Yba (some 6) rfl rfl Tryz.func52 Zi rfl #[.string lG] rfl Zb ?_; (with_reducible refine (Yhb.calls lG iK _ ?side1 A3.out).mono ?_); (case side1 => first | exact HE.out | exact EnvOk.below HE.out Za); rintro e nN ⟨rfl, hb⟩; refine ⟨_, rfl, ?_⟩; have aM := Ya.mk (Ys Za hb); clear HB; have HB := aM; clear aM; (try clear hb); (try clear cC); (try clear hk); (try clear hi)) | ((with_reducible refine Yh (f := 54) rfl ?_); refine Yba (some 12) rfl rfl Tryz.func54 Zi rfl #[.string iK] rfl Zb ?_; (with_reducible refine (Ylb.calls k iK false _ ?side1 A7.out).mono ?_); (case side1 => first | exact HE.out | exact EnvOk.below HE.out Za); rintro e w14 ⟨rfl, hb⟩; refine ⟨_, rfl, ?_⟩; have aM := Ya.mk (Ys Za hb); clear HB; have HB := aM; clear aM; (try clear hb); (try clear cC); (try clear hk); (try clear hi)))
 go_ret2
 exact ⟨Zk, Za⟩
def Ymf.f (k : Nat) (cR gB gC : ByteArray) (gD : Int) (gE gF gG : ByteArray) (gH gI : Bool) : Option (Int × ByteArray × ByteArray × ByteArray × Int × ByteArray × ByteArray × ByteArray × Bool × Bool) := (strings_IndexAny.f cR (⟨#[47, 92]⟩ : ByteArray)).bind fun jN => (if jN = 0 then ((Ync.f cR (⟨#[47, 92]⟩ : ByteArray)).bind fun jO => ((Yvb.f jO gB gC gD gE gF gG gH gI (⟨#[47, 92, 63, 35]⟩ : ByteArray)).bind fun aZ => ((strings_IndexByte.f aZ.1 64).bind fun lH => (if lH ≥ 0 then (some (3, aZ.2.1, aZ.2.2.1, aZ.2.2.2.1, aZ.2.2.2.2.1, aZ.2.2.2.2.2.1, aZ.2.2.2.2.2.2.1, aZ.2.2.2.2.2.2.2.1, aZ.2.2.2.2.2.2.2.2.1, aZ.2.2.2.2.2.2.2.2.2)) else ((strings_Cut.f aZ.1 (⟨#[58]⟩ : ByteArray)).bind fun oU => ((Yze.f k oU.1).bind fun iL => (if iL.2 = 0 then (if oU.2.1.toList = ([] : List UInt8) then (some (0, aZ.2.1, aZ.2.2.1, iL.1, aZ.2.2.2.2.1, aZ.2.2.2.2.2.1, aZ.2.2.2.2.2.2.1, aZ.2.2.2.2.2.2.2.1, aZ.2.2.2.2.2.2.2.2.1, aZ.2.2.2.2.2.2.2.2.2)) else ((Yia.f k oU.2.1 65535).bind fun oV => (if oV.2 = 0 then ((Ygg.f aZ.2.2.1).bind fun oW => (if oV.1 = oW then (some (0, aZ.2.1, aZ.2.2.1, iL.1, aZ.2.2.2.2.1, aZ.2.2.2.2.2.1, aZ.2.2.2.2.2.2.1, aZ.2.2.2.2.2.2.2.1, aZ.2.2.2.2.2.2.2.2.1, aZ.2.2.2.2.2.2.2.2.2)) else (some (0, aZ.2.1, aZ.2.2.1, iL.1, oV.1, aZ.2.2.2.2.2.1, aZ.2.2.2.2.2.2.1, aZ.2.2.2.2.2.2.2.1, aZ.2.2.2.2.2.2.2.2.1, aZ.2.2.2.2.2.2.2.2.2)))) else (some (3, aZ.2.1, aZ.2.2.1, iL.1, aZ.2.2.2.2.1, aZ.2.2.2.2.2.1, aZ.2.2.2.2.2.2.1, aZ.2.2.2.2.2.2.2.1, aZ.2.2.2.2.2.2.2.2.1, aZ.2.2.2.2.2.2.2.2.2))))) else (some (iL.2, aZ.2.1, aZ.2.2.1, aZ.2.2.2.1, aZ.2.2.2.2.1, aZ.2.2.2.2.2.1, aZ.2.2.2.2.2.2.1, aZ.2.2.2.2.2.2.2.1, aZ.2.2.2.2.2.2.2.2.1, aZ.2.2.2.2.2.2.2.2.2))))))))) else (some (3, cR, gB, gC, gD, gE, gF, gG, gH, gI)))
theorem Ymf.calls (k g : Nat) (cR gB gC : ByteArray) (gD : Int) (gE gF gG : ByteArray) (gH gI : Bool) (r1 : Int) (r2 r3 r4 : ByteArray) (r5 : Int) (r6 r7 r8 : ByteArray) (r9 vJ : Bool) (w0 w : World) (hE : EnvOk w0) (hI : IsS53 w0 w g cR gB gC gD gE gF gG gH gI) (hB : Below w0.heap.size w0 w) (h : Ymf.f k cR gB gC gD gE gF gG gH gI = some (r1, r2, r3, r4, r5, r6, r7, r8, r9, vJ)) :
  Calls Tryz.prog 44 #[.pointer (some ⟨g, 0, none⟩)] w fun e w' => e = .returned (.int .i64 r1) ∧ IsS53 w0 w' g r2 r3 r4 r5 r6 r7 r8 r9 vJ ∧ Below w0.heap.size w0 w' ∧ KeepBut w w' g none := by
 have cH := Ya.mk hI
 have HK := Ya.mk (KeepBut.refl w g none)
 have HL := Ya.mk hB.size
 clear hI
 have HE := Ya.mk hE
 clear hE
 have HW0 := Ya.mk hB.size
 have HB := Ya.mk hB
 clear hB
 have H : ((strings_IndexAny.f cR (⟨#[47, 92]⟩ : ByteArray)).bind fun jN => (if jN = 0 then ((Ync.f cR (⟨#[47, 92]⟩ : ByteArray)).bind fun jO => ((Yvb.f jO gB gC gD gE gF gG gH gI (⟨#[47, 92, 63, 35]⟩ : ByteArray)).bind fun aZ => ((strings_IndexByte.f aZ.1 64).bind fun lH => (if lH ≥ 0 then (some (3, aZ.2.1, aZ.2.2.1, aZ.2.2.2.1, aZ.2.2.2.2.1, aZ.2.2.2.2.2.1, aZ.2.2.2.2.2.2.1, aZ.2.2.2.2.2.2.2.1, aZ.2.2.2.2.2.2.2.2.1, aZ.2.2.2.2.2.2.2.2.2)) else ((strings_Cut.f aZ.1 (⟨#[58]⟩ : ByteArray)).bind fun oU => ((Yze.f k oU.1).bind fun iL => (if iL.2 = 0 then (if oU.2.1.toList = ([] : List UInt8) then (some (0, aZ.2.1, aZ.2.2.1, iL.1, aZ.2.2.2.2.1, aZ.2.2.2.2.2.1, aZ.2.2.2.2.2.2.1, aZ.2.2.2.2.2.2.2.1, aZ.2.2.2.2.2.2.2.2.1, aZ.2.2.2.2.2.2.2.2.2)) else ((Yia.f k oU.2.1 65535).bind fun oV => (if oV.2 = 0 then ((Ygg.f aZ.2.2.1).bind fun oW => (if oV.1 = oW then (some (0, aZ.2.1, aZ.2.2.1, iL.1, aZ.2.2.2.2.1, aZ.2.2.2.2.2.1, aZ.2.2.2.2.2.2.1, aZ.2.2.2.2.2.2.2.1, aZ.2.2.2.2.2.2.2.2.1, aZ.2.2.2.2.2.2.2.2.2)) else (some (0, aZ.2.1, aZ.2.2.1, iL.1, oV.1, aZ.2.2.2.2.2.1, aZ.2.2.2.2.2.2.1, aZ.2.2.2.2.2.2.2.1, aZ.2.2.2.2.2.2.2.2.1, aZ.2.2.2.2.2.2.2.2.2)))) else (some (3, aZ.2.1, aZ.2.2.1, iL.1, aZ.2.2.2.2.1, aZ.2.2.2.2.2.1, aZ.2.2.2.2.2.2.1, aZ.2.2.2.2.2.2.2.1, aZ.2.2.2.2.2.2.2.2.1, aZ.2.2.2.2.2.2.2.2.2))))) else (some (iL.2, aZ.2.1, aZ.2.2.1, aZ.2.2.2.1, aZ.2.2.2.2.1, aZ.2.2.2.2.2.1, aZ.2.2.2.2.2.2.1, aZ.2.2.2.2.2.2.2.1, aZ.2.2.2.2.2.2.2.2.1, aZ.2.2.2.2.2.2.2.2.2))))))))) else (some (3, cR, gB, gC, gD, gE, gF, gG, gH, gI)))) = some (r1, r2, r3, r4, r5, r6, r7, r8, r9, vJ) := h
 clear h
 replace H := Option.bind_eq_some_iff.mp H
 obtain ⟨jN, dU, H⟩ := H
 try dsimp -simprocs only at H
 have A2 := Ya.mk dU
 clear dU
 by_cases c3 : jN = 0
 rotate_left
 ·rw [if_neg c3] at H
  have cJ : (jN == 0) = false := beq_eq_false_iff_ne.mpr c3
  have fY : (jN != 0) = true := bne_iff_ne.mpr c3
  simp only [Option.some.injEq, Prod.mk.injEq] at H
  obtain ⟨rfl, rfl, rfl, rfl, rfl, rfl, rfl, rfl, rfl, rfl⟩ := H
  obtain ⟨eY, aID⟩ := cH.out
  have aMU := Ywb eY
  have aMV := Yjc eY
  have aMW := Ygc eY
  have aMX := Yfc eY
  have aMY := Yac eY
  have aMZ := Ydc eY
  have aNa := Yyb eY
  have aNb := Ybc eY
  have aNc := Yxb eY
  have aNd := Ye eY 0
  have aNe := Ye eY 1
  have aNf := Ye eY 2
  have aNg := Ye eY 3
  have aNh := Ye eY 4
  have aNi := Ye eY 5
  have aNj := Ye eY 6
  have aNk := Ye eY 7
  have aNl := Ye eY 8
  clear eY aID
  go_enter Tryz.func44, Tryz.ntmps44
  go_wp2_with (first | ((with_reducible refine Yh (f := 80) rfl ?_); refine Yba (some 15) rfl rfl Tryz.func80 Zi rfl #[.string cR, .string (⟨#[47, 92]⟩ : ByteArray)] rfl Zb ?_; (with_reducible refine (strings_IndexAny.calls cR (⟨#[47, 92]⟩ : ByteArray) jN _ ?side1 A2.out).mono ?_); (case side1 => first | exact HE.out | exact EnvOk.below HE.out Ze); rintro e w62 ⟨rfl, hb⟩; refine ⟨_, rfl, ?_⟩; have aM := Ya.mk (IsS53.below Zd hb); have aU := Ya.mk (KeepBut.trans Zg (KeepBut.of_below hb g none) (.inl rfl)); have bI := Ya.mk (Ys Ze hb); clear cH; clear HK; clear HB; have cH := aM; have HK := aU; have HB := bI; clear aM aU bI; (try clear hb); (try clear cC); (try clear hk); (try clear hi)))
  go_ret
  exact ⟨Zk, Zd, Ze, Zg⟩
 rw [if_pos c3] at H
 have cJ : (jN == 0) = true := beq_iff_eq.mpr c3
 have fY : (jN != 0) = false := bne_eq_false_iff_eq.mpr c3
 clear c3
 replace H := Option.bind_eq_some_iff.mp H
 obtain ⟨jO, qH, H⟩ := H
 try dsimp -simprocs only at H
 have A4 := Ya.mk qH
 clear qH
 replace H := Option.bind_eq_some_iff.mp H
 obtain ⟨⟨fZ, kO, jD, kP, kQ, kR, kT, kU, kV, kW⟩, tT, H⟩ := H
 try dsimp -simprocs only at H
 have A5 := Ya.mk tT
 clear tT
 replace H := Option.bind_eq_some_iff.mp H
 obtain ⟨lH, qI, H⟩ := H
 try dsimp -simprocs only at H
 have A6 := Ya.mk qI
 clear qI
 by_cases c7 : lH ≥ 0
 ·rw [if_pos c7] at H
  have dA : decide (0 ≤ lH) = true := decide_eq_true c7
  clear c7
  simp only [Option.some.injEq, Prod.mk.injEq] at H
  obtain ⟨rfl, rfl, rfl, rfl, rfl, rfl, rfl, rfl, rfl, rfl⟩ := H
  obtain ⟨iX, aVD⟩ := cH.out
  have aVE := Ywb iX
  have aVF := Yjc iX
  have aVG := Ygc iX
  have aVH := Yfc iX
  have aVI := Yac iX
  have aVJ := Ydc iX
  have aVK := Yyb iX
  have aVL := Ybc iX
  have aVM := Yxb iX
  have aVN := Ye iX 0
  have aVO := Ye iX 1
  have aVP := Ye iX 2
  have aVQ := Ye iX 3
  have aVR := Ye iX 4
  have aVS := Ye iX 5
  have aVT := Ye iX 6
  have aVU := Ye iX 7
  have aVV := Ye iX 8
  clear iX aVD
  go_enter Tryz.func44, Tryz.ntmps44
  go_wp2_with (first | ((with_reducible refine Yh (f := 80) rfl ?_); refine Yba (some 15) rfl rfl Tryz.func80 Zi rfl #[.string cR, .string (⟨#[47, 92]⟩ : ByteArray)] rfl Zb ?_; (with_reducible refine (strings_IndexAny.calls cR (⟨#[47, 92]⟩ : ByteArray) jN _ ?side1 A2.out).mono ?_); (case side1 => first | exact HE.out | exact EnvOk.below HE.out Ze); rintro e w9 ⟨rfl, hb⟩; refine ⟨_, rfl, ?_⟩; have aM := Ya.mk (IsS53.below Zd hb); have aU := Ya.mk (KeepBut.trans Zg (KeepBut.of_below hb g none) (.inl rfl)); have bI := Ya.mk (Ys Ze hb); clear cH; clear HK; clear HB; have cH := aM; have HK := aU; have HB := bI; clear aM aU bI; (try clear hb); (try clear cC); (try clear hk); (try clear hi); obtain ⟨eZ, aIE⟩ := cH.out; have aNm := Ywb eZ; have aNn := Yjc eZ; have aNo := Ygc eZ; have aNp := Yfc eZ; have aNq := Yac eZ; have aNr := Ydc eZ; have aNs := Yyb eZ; have aNt := Ybc eZ; have aNu := Yxb eZ; have aNv := Ye eZ 0; have aNw := Ye eZ 1; have aNx := Ye eZ 2; have aNy := Ye eZ 3; have aNz := Ye eZ 4; have aNA := Ye eZ 5; have aNB := Ye eZ 6; have aNC := Ye eZ 7; have aND := Ye eZ 8; clear eZ aIE) | ((with_reducible refine Yh (f := 81) rfl ?_); refine Yba (some 23) rfl rfl Tryz.func81 Zi rfl #[.string cR, .string (⟨#[47, 92]⟩ : ByteArray)] rfl Zb ?_; (with_reducible refine (Ync.calls cR (⟨#[47, 92]⟩ : ByteArray) jO _ ?side1 A4.out).mono ?_); (case side1 => first | exact HE.out | exact EnvOk.below HE.out Ze); rintro e w11 ⟨rfl, hb⟩; refine ⟨_, rfl, ?_⟩; have aM := Ya.mk (IsS53.below Zd hb); have aU := Ya.mk (KeepBut.trans Zg (KeepBut.of_below hb g none) (.inl rfl)); have bI := Ya.mk (Ys Ze hb); clear cH; clear HK; clear HB; have cH := aM; have HK := aU; have HB := bI; clear aM aU bI; (try clear hb); (try clear cC); (try clear hk); (try clear hi); obtain ⟨fA, aIF⟩ := cH.out; have yE := Ywb fA; have yF := Yjc fA; have yG := Ygc fA; have yH := Yfc fA; have yI := Yac fA; have yJ := Ydc fA; have yK := Yyb fA; have yL := Ybc fA; have aNE := Yxb fA; have yM := Ye fA 0; have yN := Ye fA 1; have yO := Ye fA 2; have yP := Ye fA 3; have yQ := Ye fA 4; have yR := Ye fA 5; have yS := Ye fA 6; have yT := Ye fA 7; have aNF := Ye fA 8; clear fA aIF) | ((with_reducible refine Yh (f := 82) rfl ?_); refine Yba (some 30) rfl rfl Tryz.func82 Zi rfl #[.pointer (some ⟨g, 0, none⟩), .string (⟨#[47, 92, 63, 35]⟩ : ByteArray)] rfl Zb ?_; (with_reducible refine (Yvb.calls g jO gB gC gD gE gF gG gH gI (⟨#[47, 92, 63, 35]⟩ : ByteArray) fZ kO jD kP kQ kR kT kU kV kW w0 _ ?side1 ?side2 ?side3 A5.out).mono ?_); (case side1 => exact HE.out); (case side2 => repeat (first | (with_reducible first | exact cH.out | apply IsS53.alloc | apply IsS53.drewN | apply IsS53.drew | apply IsS53.set_0 | apply IsS53.set_1 | apply IsS53.set_2 | apply IsS53.set_3 | apply IsS53.set_4 | apply IsS53.set_5 | apply IsS53.set_6 | apply IsS53.set_7 | apply IsS53.set_8) | exact cH.out)); (case side3 => repeat (first | (with_reducible first | exact HB.out | apply Yd | apply Yb | apply Yc | refine Yg ?_ (IsS53.ge cH.out)) | exact HB.out)); rintro e nN ⟨rfl, hi, hb, hk⟩; refine ⟨_, rfl, ?_⟩; have aM := Ya.mk (KeepBut.trans Zg hk (.inl rfl)); have aU := Ya.mk (hb); have bI := Ya.mk (hi); clear HK; clear HB; clear cH; have HK := aM; have HB := aU; have cH := bI; clear aM aU bI; (try clear hb); (try clear cC); (try clear hk); (try clear hi)) | ((with_reducible refine Yh (f := 79) rfl ?_); refine Yba (some 32) rfl rfl Tryz.func79 Zi rfl #[.string fZ, .int .u8 64] rfl Zb ?_; (with_reducible refine (strings_IndexByte.calls fZ 64 lH _ ?side1 A6.out).mono ?_); (case side1 => first | exact HE.out | exact EnvOk.below HE.out Ze); rintro e w' ⟨rfl, ⟨nd, rfl⟩⟩; refine ⟨_, rfl, ?_⟩))
  go_ret
  exact ⟨Zk, Zd, Ze, Zg⟩
 rw [if_neg c7] at H
 have dA : decide (0 ≤ lH) = false := decide_eq_false c7
 clear c7
 replace H := Option.bind_eq_some_iff.mp H
 obtain ⟨⟨kD, jP, aBG⟩, aBH, H⟩ := H
 try dsimp -simprocs only at H
 have A14 := Ya.mk aBH
 clear aBH
 replace H := Option.bind_eq_some_iff.mp H
 obtain ⟨⟨aBI, pU⟩, tS, H⟩ := H
 try dsimp -simprocs only at H
 have A15 := Ya.mk tS
 clear tS
 by_cases eP : pU = 0
 rotate_left
 ·rw [if_neg eP] at H
  have hJ : (pU == 0) = false := beq_eq_false_iff_ne.mpr eP
  have kM : (pU != 0) = true := bne_iff_ne.mpr eP
  simp only [Option.some.injEq, Prod.mk.injEq] at H
  obtain ⟨rfl, rfl, rfl, rfl, rfl, rfl, rfl, rfl, rfl, rfl⟩ := H
  obtain ⟨fB, aIG⟩ := cH.out
  have aNG := Ywb fB
  have aNH := Yjc fB
  have aNI := Ygc fB
  have aNJ := Yfc fB
  have aNK := Yac fB
  have aNL := Ydc fB
  have aNM := Yyb fB
  have aNN := Ybc fB
  have aNO := Yxb fB
  have aNP := Ye fB 0
  have aNQ := Ye fB 1
  have aNR := Ye fB 2
  have aNS := Ye fB 3
  have aNT := Ye fB 4
  have aNU := Ye fB 5
  have aNV := Ye fB 6
  have aNW := Ye fB 7
  have aNX := Ye fB 8
  clear fB aIG
  go_enter Tryz.func44, Tryz.ntmps44
  go_wp2_with (first | ((with_reducible refine Yh (f := 80) rfl ?_); refine Yba (some 15) rfl rfl Tryz.func80 Zi rfl #[.string cR, .string (⟨#[47, 92]⟩ : ByteArray)] rfl Zb ?_; (with_reducible refine (strings_IndexAny.calls cR (⟨#[47, 92]⟩ : ByteArray) jN _ ?side1 A2.out).mono ?_); (case side1 => first | exact HE.out | exact EnvOk.below HE.out Ze); rintro e w55 ⟨rfl, hb⟩; refine ⟨_, rfl, ?_⟩; have aM := Ya.mk (IsS53.below Zd hb); have aU := Ya.mk (KeepBut.trans Zg (KeepBut.of_below hb g none) (.inl rfl)); have bI := Ya.mk (Ys Ze hb); clear cH; clear HK; clear HB; have cH := aM; have HK := aU; have HB := bI; clear aM aU bI; (try clear hb); (try clear cC); (try clear hk); (try clear hi); obtain ⟨fC, aIH⟩ := cH.out; have aNY := Ywb fC; have aNZ := Yjc fC; have aOa := Ygc fC; have aOb := Yfc fC; have aOc := Yac fC; have aOd := Ydc fC; have aOe := Yyb fC; have aOf := Ybc fC; have aOg := Yxb fC; have aOh := Ye fC 0; have aOi := Ye fC 1; have aOj := Ye fC 2; have aOk := Ye fC 3; have aOl := Ye fC 4; have aOm := Ye fC 5; have aOn := Ye fC 6; have aOo := Ye fC 7; have aOp := Ye fC 8; clear fC aIH) | ((with_reducible refine Yh (f := 81) rfl ?_); refine Yba (some 23) rfl rfl Tryz.func81 Zi rfl #[.string cR, .string (⟨#[47, 92]⟩ : ByteArray)] rfl Zb ?_; (with_reducible refine (Ync.calls cR (⟨#[47, 92]⟩ : ByteArray) jO _ ?side1 A4.out).mono ?_); (case side1 => first | exact HE.out | exact EnvOk.below HE.out Ze); rintro e w57 ⟨rfl, hb⟩; refine ⟨_, rfl, ?_⟩; have aM := Ya.mk (IsS53.below Zd hb); have aU := Ya.mk (KeepBut.trans Zg (KeepBut.of_below hb g none) (.inl rfl)); have bI := Ya.mk (Ys Ze hb); clear cH; clear HK; clear HB; have cH := aM; have HK := aU; have HB := bI; clear aM aU bI; (try clear hb); (try clear cC); (try clear hk); (try clear hi); obtain ⟨fD, aII⟩ := cH.out; have aOq := Ywb fD; have aOr := Yjc fD; have aOs := Ygc fD; have aOt := Yfc fD; have aOu := Yac fD; have aOv := Ydc fD; have aOw := Yyb fD; have aOx := Ybc fD; have aOy := Yxb fD; have aOz := Ye fD 0; have aOA := Ye fD 1; have aOB := Ye fD 2; have aOC := Ye fD 3; have aOD := Ye fD 4; have aOE := Ye fD 5; have aOF := Ye fD 6; have aOG := Ye fD 7; have aOH := Ye fD 8; clear fD aII) | ((with_reducible refine Yh (f := 82) rfl ?_); refine Yba (some 30) rfl rfl Tryz.func82 Zi rfl #[.pointer (some ⟨g, 0, none⟩), .string (⟨#[47, 92, 63, 35]⟩ : ByteArray)] rfl Zb ?_; (with_reducible refine (Yvb.calls g jO gB gC gD gE gF gG gH gI (⟨#[47, 92, 63, 35]⟩ : ByteArray) fZ kO jD kP kQ kR kT kU kV kW w0 _ ?side1 ?side2 ?side3 A5.out).mono ?_); (case side1 => exact HE.out); (case side2 => repeat (first | (with_reducible first | exact cH.out | apply IsS53.alloc | apply IsS53.drewN | apply IsS53.drew | apply IsS53.set_0 | apply IsS53.set_1 | apply IsS53.set_2 | apply IsS53.set_3 | apply IsS53.set_4 | apply IsS53.set_5 | apply IsS53.set_6 | apply IsS53.set_7 | apply IsS53.set_8) | exact cH.out)); (case side3 => repeat (first | (with_reducible first | exact HB.out | apply Yd | apply Yb | apply Yc | refine Yg ?_ (IsS53.ge cH.out)) | exact HB.out)); rintro e w59 ⟨rfl, hi, hb, hk⟩; refine ⟨_, rfl, ?_⟩; have aM := Ya.mk (KeepBut.trans Zg hk (.inl rfl)); have aU := Ya.mk (hb); have bI := Ya.mk (hi); clear HK; clear HB; clear cH; have HK := aM; have HB := aU; have cH := bI; clear aM aU bI; (try clear hb); (try clear cC); (try clear hk); (try clear hi)) | ((with_reducible refine Yh (f := 79) rfl ?_); refine Yba (some 32) rfl rfl Tryz.func79 Zi rfl #[.string fZ, .int .u8 64] rfl Zb ?_; (with_reducible refine (strings_IndexByte.calls fZ 64 lH _ ?side1 A6.out).mono ?_); (case side1 => first | exact HE.out | exact EnvOk.below HE.out Ze); rintro e w' ⟨rfl, ⟨nd, rfl⟩⟩; refine ⟨_, rfl, ?_⟩) | ((with_reducible refine Yh (f := 76) rfl ?_); refine Yba (some 36) rfl rfl Tryz.func76 Zi rfl #[.string fZ, .string (⟨#[58]⟩ : ByteArray)] rfl Zb ?_; (with_reducible refine (strings_Cut.calls fZ (⟨#[58]⟩ : ByteArray) kD jP aBG _ ?side1 A14.out).mono ?_); (case side1 => first | exact HE.out | exact EnvOk.below HE.out Ze); rintro e w' ⟨rfl, ⟨nd, rfl⟩⟩; refine ⟨_, rfl, ?_⟩) | ((with_reducible refine Yh (f := 19) rfl ?_); refine Yba (some 42) rfl rfl Tryz.func19 Zi rfl #[.string kD] rfl Zb ?_; (with_reducible refine (Yze.calls k kD aBI pU _ ?side1 A15.out).mono ?_); (case side1 => first | exact HE.out | exact EnvOk.below HE.out Ze); rintro e w60 ⟨rfl, hb⟩; refine ⟨_, rfl, ?_⟩; have aM := Ya.mk (IsS53.below Zd hb); have aU := Ya.mk (KeepBut.trans Zg (KeepBut.of_below hb g none) (.inl rfl)); have bI := Ya.mk (Ys Ze hb); clear cH; clear HK; clear HB; have cH := aM; have HK := aU; have HB := bI; clear aM aU bI; (try clear hb); (try clear cC); (try clear hk); (try clear hi)))
  go_ret
  exact ⟨Zk, Zd, Ze, Zg⟩
 rw [if_pos eP] at H
 have hJ : (pU == 0) = true := beq_iff_eq.mpr eP
 have kM : (pU != 0) = false := bne_eq_false_iff_eq.mpr eP
 clear eP
 by_cases eH : jP.toList = ([] : List UInt8)
 ·rw [if_pos eH] at H
  have jQ : (jP.toList == ([] : List UInt8)) = true := beq_iff_eq.mpr eH
  have lS : (jP.toList != ([] : List UInt8)) = false := bne_eq_false_iff_eq.mpr eH
  clear eH
  simp only [Option.some.injEq, Prod.mk.injEq] at H
  obtain ⟨rfl, rfl, rfl, rfl, rfl, rfl, rfl, rfl, rfl, rfl⟩ := H
  obtain ⟨fE, aIJ⟩ := cH.out
  have aOI := Ywb fE
  have aOJ := Yjc fE
  have aOK := Ygc fE
  have aOL := Yfc fE
  have aOM := Yac fE
  have aON := Ydc fE
  have aOO := Yyb fE
  have aOP := Ybc fE
  have aOQ := Yxb fE
  have aOR := Ye fE 0
  have aOS := Ye fE 1
  have aOT := Ye fE 2
  have aOU := Ye fE 3
  have aOV := Ye fE 4
  have aOW := Ye fE 5
  have aOX := Ye fE 6
  have aOY := Ye fE 7
  have aOZ := Ye fE 8
  clear fE aIJ
  go_enter Tryz.func44, Tryz.ntmps44
  go_wp2_with (first | ((with_reducible refine Yh (f := 80) rfl ?_); refine Yba (some 15) rfl rfl Tryz.func80 Zi rfl #[.string cR, .string (⟨#[47, 92]⟩ : ByteArray)] rfl Zb ?_; (with_reducible refine (strings_IndexAny.calls cR (⟨#[47, 92]⟩ : ByteArray) jN _ ?side1 A2.out).mono ?_); (case side1 => first | exact HE.out | exact EnvOk.below HE.out Ze); rintro e w19 ⟨rfl, hb⟩; refine ⟨_, rfl, ?_⟩; have aM := Ya.mk (IsS53.below Zd hb); have aU := Ya.mk (KeepBut.trans Zg (KeepBut.of_below hb g none) (.inl rfl)); have bI := Ya.mk (Ys Ze hb); clear cH; clear HK; clear HB; have cH := aM; have HK := aU; have HB := bI; clear aM aU bI; (try clear hb); (try clear cC); (try clear hk); (try clear hi); obtain ⟨fF, aIK⟩ := cH.out; have aDJ := Ywb fF; have aDK := Yjc fF; have aDL := Ygc fF; have aDM := Yfc fF; have aDN := Yac fF; have aDO := Ydc fF; have aDP := Yyb fF; have aDQ := Ybc fF; have aPa := Yxb fF; have aDR := Ye fF 0; have aDS := Ye fF 1; have aDT := Ye fF 2; have aDU := Ye fF 3; have aDV := Ye fF 4; have aDW := Ye fF 5; have aDX := Ye fF 6; have aDY := Ye fF 7; have aPb := Ye fF 8; clear fF aIK) | ((with_reducible refine Yh (f := 81) rfl ?_); refine Yba (some 23) rfl rfl Tryz.func81 Zi rfl #[.string cR, .string (⟨#[47, 92]⟩ : ByteArray)] rfl Zb ?_; (with_reducible refine (Ync.calls cR (⟨#[47, 92]⟩ : ByteArray) jO _ ?side1 A4.out).mono ?_); (case side1 => first | exact HE.out | exact EnvOk.below HE.out Ze); rintro e w21 ⟨rfl, hb⟩; refine ⟨_, rfl, ?_⟩; have aM := Ya.mk (IsS53.below Zd hb); have aU := Ya.mk (KeepBut.trans Zg (KeepBut.of_below hb g none) (.inl rfl)); have bI := Ya.mk (Ys Ze hb); clear cH; clear HK; clear HB; have cH := aM; have HK := aU; have HB := bI; clear aM aU bI; (try clear hb); (try clear cC); (try clear hk); (try clear hi); obtain ⟨fG, aIL⟩ := cH.out; have aPc := Ywb fG; have aPd := Yjc fG; have aPe := Ygc fG; have aPf := Yfc fG; have aPg := Yac fG; have aPh := Ydc fG; have aPi := Yyb fG; have aPj := Ybc fG; have aPk := Yxb fG; have aPl := Ye fG 0; have aPm := Ye fG 1; have aPn := Ye fG 2; have aPo := Ye fG 3; have aPp := Ye fG 4; have aPq := Ye fG 5; have aPr := Ye fG 6; have aPs := Ye fG 7; have aPt := Ye fG 8; clear fG aIL) | ((with_reducible refine Yh (f := 82) rfl ?_); refine Yba (some 30) rfl rfl Tryz.func82 Zi rfl #[.pointer (some ⟨g, 0, none⟩), .string (⟨#[47, 92, 63, 35]⟩ : ByteArray)] rfl Zb ?_; (with_reducible refine (Yvb.calls g jO gB gC gD gE gF gG gH gI (⟨#[47, 92, 63, 35]⟩ : ByteArray) fZ kO jD kP kQ kR kT kU kV kW w0 _ ?side1 ?side2 ?side3 A5.out).mono ?_); (case side1 => exact HE.out); (case side2 => repeat (first | (with_reducible first | exact cH.out | apply IsS53.alloc | apply IsS53.drewN | apply IsS53.drew | apply IsS53.set_0 | apply IsS53.set_1 | apply IsS53.set_2 | apply IsS53.set_3 | apply IsS53.set_4 | apply IsS53.set_5 | apply IsS53.set_6 | apply IsS53.set_7 | apply IsS53.set_8) | exact cH.out)); (case side3 => repeat (first | (with_reducible first | exact HB.out | apply Yd | apply Yb | apply Yc | refine Yg ?_ (IsS53.ge cH.out)) | exact HB.out)); rintro e pQ ⟨rfl, hi, hb, hk⟩; refine ⟨_, rfl, ?_⟩; have aM := Ya.mk (KeepBut.trans Zg hk (.inl rfl)); have aU := Ya.mk (hb); have bI := Ya.mk (hi); clear HK; clear HB; clear cH; have HK := aM; have HB := aU; have cH := bI; clear aM aU bI; (try clear hb); (try clear cC); (try clear hk); (try clear hi)) | ((with_reducible refine Yh (f := 79) rfl ?_); refine Yba (some 32) rfl rfl Tryz.func79 Zi rfl #[.string fZ, .int .u8 64] rfl Zb ?_; (with_reducible refine (strings_IndexByte.calls fZ 64 lH _ ?side1 A6.out).mono ?_); (case side1 => first | exact HE.out | exact EnvOk.below HE.out Ze); rintro e w' ⟨rfl, ⟨nd, rfl⟩⟩; refine ⟨_, rfl, ?_⟩; (try (rw [Ydg pQ]; generalize hq_ : World.drewN pQ _ = pQ; have aM : Ya (IsS53 w0 pQ g kO jD kP kQ kR kT kU kV kW) := ⟨Zn⟩; have aU : Ya (KeepBut w pQ g none) := ⟨Zt⟩; have bI : Ya (Below w0.heap.size w0 pQ) := ⟨Zu⟩; clear cH HK HB hq_; have cH := aM; have HK := aU; have HB := bI; clear aM aU bI))) | ((with_reducible refine Yh (f := 76) rfl ?_); refine Yba (some 36) rfl rfl Tryz.func76 Zi rfl #[.string fZ, .string (⟨#[58]⟩ : ByteArray)] rfl Zb ?_; (with_reducible refine (strings_Cut.calls fZ (⟨#[58]⟩ : ByteArray) kD jP aBG _ ?side1 A14.out).mono ?_); (case side1 => first | exact HE.out | exact EnvOk.below HE.out Ze); rintro e w' ⟨rfl, ⟨nd, rfl⟩⟩; refine ⟨_, rfl, ?_⟩; (try (rw [Ydg pQ]; generalize hq_ : World.drewN pQ _ = pQ; have aM : Ya (IsS53 w0 pQ g kO jD kP kQ kR kT kU kV kW) := ⟨Zn⟩; have aU : Ya (KeepBut w pQ g none) := ⟨Zt⟩; have bI : Ya (Below w0.heap.size w0 pQ) := ⟨Zu⟩; clear cH HK HB hq_; have cH := aM; have HK := aU; have HB := bI; clear aM aU bI))) | ((with_reducible refine Yh (f := 19) rfl ?_); refine Yba (some 42) rfl rfl Tryz.func19 Zi rfl #[.string kD] rfl Zb ?_; (with_reducible refine (Yze.calls k kD aBI pU _ ?side1 A15.out).mono ?_); (case side1 => first | exact HE.out | exact EnvOk.below HE.out Ze); rintro e w24 ⟨rfl, hb⟩; refine ⟨_, rfl, ?_⟩; have aM := Ya.mk (IsS53.below Zd hb); have aU := Ya.mk (KeepBut.trans Zg (KeepBut.of_below hb g none) (.inl rfl)); have bI := Ya.mk (Ys Ze hb); clear cH; clear HK; clear HB; have cH := aM; have HK := aU; have HB := bI; clear aM aU bI; (try clear hb); (try clear cC); (try clear hk); (try clear hi); obtain ⟨fH, aIM⟩ := cH.out; have rC := Ywb fH; have rD := Yjc fH; have rE := Ygc fH; have rF := Yfc fH; have rG := Yac fH; have rH := Ydc fH; have rI := Yyb fH; have rJ := Ybc fH; have aPu := Yxb fH; have rK := Ye fH 0; have rL := Ye fH 1; have rM := Ye fH 2; have rN := Ye fH 3; have rO := Ye fH 4; have rP := Ye fH 5; have rQ := Ye fH 6; have rR := Ye fH 7; have aPv := Ye fH 8; clear fH aIM))
  go_ret
  exact ⟨Zk, Zd, Ze, Zg⟩
 rw [if_neg eH] at H
 have jQ : (jP.toList == ([] : List UInt8)) = false := beq_eq_false_iff_ne.mpr eH
 have lS : (jP.toList != ([] : List UInt8)) = true := bne_iff_ne.mpr eH
 replace H := Option.bind_eq_some_iff.mp H
 obtain ⟨⟨tU, tV⟩, aIN, H⟩ := H
 try dsimp -simprocs only at H
 have A26 := Ya.mk aIN
 clear aIN
 by_cases c27 : tV = 0
 rotate_left
 ·rw [if_neg c27] at H
  have aIO : (tV == 0) = false := beq_eq_false_iff_ne.mpr c27
  have aIP : (tV != 0) = true := bne_iff_ne.mpr c27
  simp only [Option.some.injEq, Prod.mk.injEq] at H
  obtain ⟨rfl, rfl, rfl, rfl, rfl, rfl, rfl, rfl, rfl, rfl⟩ := H
  obtain ⟨fI, aIQ⟩ := cH.out
  have aPw := Ywb fI
  have aPx := Yjc fI
  have aPy := Ygc fI
  have aPz := Yfc fI
  have aPA := Yac fI
  have aPB := Ydc fI
  have aPC := Yyb fI
  have aPD := Ybc fI
  have aPE := Yxb fI
  have aPF := Ye fI 0
  have aPG := Ye fI 1
  have aPH := Ye fI 2
  have aPI := Ye fI 3
  have aPJ := Ye fI 4
  have aPK := Ye fI 5
  have aPL := Ye fI 6
  have aPM := Ye fI 7
  have aPN := Ye fI 8
  clear fI aIQ
  go_enter Tryz.func44, Tryz.ntmps44
  go_wp2_with (first | ((with_reducible refine Yh (f := 80) rfl ?_); refine Yba (some 15) rfl rfl Tryz.func80 Zi rfl #[.string cR, .string (⟨#[47, 92]⟩ : ByteArray)] rfl Zb ?_; (with_reducible refine (strings_IndexAny.calls cR (⟨#[47, 92]⟩ : ByteArray) jN _ ?side1 A2.out).mono ?_); (case side1 => first | exact HE.out | exact EnvOk.below HE.out Ze); rintro e w47 ⟨rfl, hb⟩; refine ⟨_, rfl, ?_⟩; have aM := Ya.mk (IsS53.below Zd hb); have aU := Ya.mk (KeepBut.trans Zg (KeepBut.of_below hb g none) (.inl rfl)); have bI := Ya.mk (Ys Ze hb); clear cH; clear HK; clear HB; have cH := aM; have HK := aU; have HB := bI; clear aM aU bI; (try clear hb); (try clear cC); (try clear hk); (try clear hi); obtain ⟨fJ, aIR⟩ := cH.out; have aPO := Ywb fJ; have aPP := Yjc fJ; have aPQ := Ygc fJ; have aPR := Yfc fJ; have aPS := Yac fJ; have aPT := Ydc fJ; have aPU := Yyb fJ; have aPV := Ybc fJ; have aPW := Yxb fJ; have aPX := Ye fJ 0; have aPY := Ye fJ 1; have aPZ := Ye fJ 2; have aQa := Ye fJ 3; have aQb := Ye fJ 4; have aQc := Ye fJ 5; have aQd := Ye fJ 6; have aQe := Ye fJ 7; have aQf := Ye fJ 8; clear fJ aIR) | ((with_reducible refine Yh (f := 81) rfl ?_); refine Yba (some 23) rfl rfl Tryz.func81 Zi rfl #[.string cR, .string (⟨#[47, 92]⟩ : ByteArray)] rfl Zb ?_; (with_reducible refine (Ync.calls cR (⟨#[47, 92]⟩ : ByteArray) jO _ ?side1 A4.out).mono ?_); (case side1 => first | exact HE.out | exact EnvOk.below HE.out Ze); rintro e w49 ⟨rfl, hb⟩; refine ⟨_, rfl, ?_⟩; have aM := Ya.mk (IsS53.below Zd hb); have aU := Ya.mk (KeepBut.trans Zg (KeepBut.of_below hb g none) (.inl rfl)); have bI := Ya.mk (Ys Ze hb); clear cH; clear HK; clear HB; have cH := aM; have HK := aU; have HB := bI; clear aM aU bI; (try clear hb); (try clear cC); (try clear hk); (try clear hi); obtain ⟨fK, aIS⟩ := cH.out; have aQg := Ywb fK; have aQh := Yjc fK; have aQi := Ygc fK; have aQj := Yfc fK; have aQk := Yac fK; have aQl := Ydc fK; have aQm := Yyb fK; have aQn := Ybc fK; have aQo := Yxb fK; have aQp := Ye fK 0; have aQq := Ye fK 1; have aQr := Ye fK 2; have aQs := Ye fK 3; have aQt := Ye fK 4; have aQu := Ye fK 5; have aQv := Ye fK 6; have aQw := Ye fK 7; have aQx := Ye fK 8; clear fK aIS) | ((with_reducible refine Yh (f := 82) rfl ?_); refine Yba (some 30) rfl rfl Tryz.func82 Zi rfl #[.pointer (some ⟨g, 0, none⟩), .string (⟨#[47, 92, 63, 35]⟩ : ByteArray)] rfl Zb ?_; (with_reducible refine (Yvb.calls g jO gB gC gD gE gF gG gH gI (⟨#[47, 92, 63, 35]⟩ : ByteArray) fZ kO jD kP kQ kR kT kU kV kW w0 _ ?side1 ?side2 ?side3 A5.out).mono ?_); (case side1 => exact HE.out); (case side2 => repeat (first | (with_reducible first | exact cH.out | apply IsS53.alloc | apply IsS53.drewN | apply IsS53.drew | apply IsS53.set_0 | apply IsS53.set_1 | apply IsS53.set_2 | apply IsS53.set_3 | apply IsS53.set_4 | apply IsS53.set_5 | apply IsS53.set_6 | apply IsS53.set_7 | apply IsS53.set_8) | exact cH.out)); (case side3 => repeat (first | (with_reducible first | exact HB.out | apply Yd | apply Yb | apply Yc | refine Yg ?_ (IsS53.ge cH.out)) | exact HB.out)); rintro e w51 ⟨rfl, hi, hb, hk⟩; refine ⟨_, rfl, ?_⟩; have aM := Ya.mk (KeepBut.trans Zg hk (.inl rfl)); have aU := Ya.mk (hb); have bI := Ya.mk (hi); clear HK; clear HB; clear cH; have HK := aM; have HB := aU; have cH := bI; clear aM aU bI; (try clear hb); (try clear cC); (try clear hk); (try clear hi)) | ((with_reducible refine Yh (f := 79) rfl ?_); refine Yba (some 32) rfl rfl Tryz.func79 Zi rfl #[.string fZ, .int .u8 64] rfl Zb ?_; (with_reducible refine (strings_IndexByte.calls fZ 64 lH _ ?side1 A6.out).mono ?_); (case side1 => first | exact HE.out | exact EnvOk.below HE.out Ze); rintro e w' ⟨rfl, ⟨nd, rfl⟩⟩; refine ⟨_, rfl, ?_⟩; (try (rw [Ydg w51]; generalize hq_ : World.drewN w51 _ = w51; have aM : Ya (IsS53 w0 w51 g kO jD kP kQ kR kT kU kV kW) := ⟨Zn⟩; have aU : Ya (KeepBut w w51 g none) := ⟨Zt⟩; have bI : Ya (Below w0.heap.size w0 w51) := ⟨Zu⟩; clear cH HK HB hq_; have cH := aM; have HK := aU; have HB := bI; clear aM aU bI))) | ((with_reducible refine Yh (f := 76) rfl ?_); refine Yba (some 36) rfl rfl Tryz.func76 Zi rfl #[.string fZ, .string (⟨#[58]⟩ : ByteArray)] rfl Zb ?_; (with_reducible refine (strings_Cut.calls fZ (⟨#[58]⟩ : ByteArray) kD jP aBG _ ?side1 A14.out).mono ?_); (case side1 => first | exact HE.out | exact EnvOk.below HE.out Ze); rintro e w' ⟨rfl, ⟨nd, rfl⟩⟩; refine ⟨_, rfl, ?_⟩; (try (rw [Ydg w51]; generalize hq_ : World.drewN w51 _ = w51; have aM : Ya (IsS53 w0 w51 g kO jD kP kQ kR kT kU kV kW) := ⟨Zn⟩; have aU : Ya (KeepBut w w51 g none) := ⟨Zt⟩; have bI : Ya (Below w0.heap.size w0 w51) := ⟨Zu⟩; clear cH HK HB hq_; have cH := aM; have HK := aU; have HB := bI; clear aM aU bI))) | ((with_reducible refine Yh (f := 19) rfl ?_); refine Yba (some 42) rfl rfl Tryz.func19 Zi rfl #[.string kD] rfl Zb ?_; (with_reducible refine (Yze.calls k kD aBI pU _ ?side1 A15.out).mono ?_); (case side1 => first | exact HE.out | exact EnvOk.below HE.out Ze); rintro e w52 ⟨rfl, hb⟩; refine ⟨_, rfl, ?_⟩; have aM := Ya.mk (IsS53.below Zd hb); have aU := Ya.mk (KeepBut.trans Zg (KeepBut.of_below hb g none) (.inl rfl)); have bI := Ya.mk (Ys Ze hb); clear cH; clear HK; clear HB; have cH := aM; have HK := aU; have HB := bI; clear aM aU bI; (try clear hb); (try clear cC); (try clear hk); (try clear hi); obtain ⟨fL, aIT⟩ := cH.out; have aQy := Ywb fL; have aQz := Yjc fL; have aQA := Ygc fL; have aQB := Yfc fL; have aQC := Yac fL; have aQD := Ydc fL; have aQE := Yyb fL; have aQF := Ybc fL; have aQG := Yxb fL; have aQH := Ye fL 0; have aQI := Ye fL 1; have aQJ := Ye fL 2; have aQK := Ye fL 3; have aQL := Ye fL 4; have aQM := Ye fL 5; have aQN := Ye fL 6; have aQO := Ye fL 7; have aQP := Ye fL 8; clear fL aIT) | ((with_reducible refine Yh (f := 83) rfl ?_); refine Yba (some 57) rfl rfl Tryz.func83 Zi rfl #[.string jP, .int .i64 65535] rfl Zb ?_; (with_reducible refine (Yia.calls k jP 65535 tU tV _ ?side1 A26.out).mono ?_); (case side1 => first | exact HE.out | exact EnvOk.below HE.out Ze); rintro e w' ⟨rfl, ⟨nd, rfl⟩⟩; refine ⟨_, rfl, ?_⟩))
  go_ret
  exact ⟨Zk, Zd, Ze, Zg⟩
 rw [if_pos c27] at H
 have aIO : (tV == 0) = true := beq_iff_eq.mpr c27
 have aIP : (tV != 0) = false := bne_eq_false_iff_eq.mpr c27
 clear c27
 replace H := Option.bind_eq_some_iff.mp H
 obtain ⟨oW, tW, H⟩ := H
 try dsimp -simprocs only at H
 have A28 := Ya.mk tW
 clear tW
 by_cases oX : tU = oW
 rotate_left
 ·rw [if_neg oX] at H
  have aBJ : (tU == oW) = false := beq_eq_false_iff_ne.mpr oX
  have aIU : (tU != oW) = true := bne_iff_ne.mpr oX
  simp only [Option.some.injEq, Prod.mk.injEq] at H
  obtain ⟨rfl, rfl, rfl, rfl, rfl, rfl, rfl, rfl, rfl, rfl⟩ := H
  obtain ⟨fM, aIV⟩ := cH.out
  have yU := Ywb fM
  have yV := Yjc fM
  have yW := Ygc fM
  have yX := Yfc fM
  have yY := Yac fM
  have yZ := Ydc fM
  have zA := Yyb fM
  have zB := Ybc fM
  have aQQ := Yxb fM
  have zC := Ye fM 0
  have zD := Ye fM 1
  have zE := Ye fM 2
  have zF := Ye fM 3
  have zG := Ye fM 4
  have zH := Ye fM 5
  have zI := Ye fM 6
  have zJ := Ye fM 7
  have aQR := Ye fM 8
  clear fM aIV
  go_enter Tryz.func44, Tryz.ntmps44
  go_wp2_with (first | ((with_reducible refine Yh (f := 80) rfl ?_); refine Yba (some 15) rfl rfl Tryz.func80 Zi rfl #[.string cR, .string (⟨#[47, 92]⟩ : ByteArray)] rfl Zb ?_; (with_reducible refine (strings_IndexAny.calls cR (⟨#[47, 92]⟩ : ByteArray) jN _ ?side1 A2.out).mono ?_); (case side1 => first | exact HE.out | exact EnvOk.below HE.out Ze); rintro e w39 ⟨rfl, hb⟩; refine ⟨_, rfl, ?_⟩; have aM := Ya.mk (IsS53.below Zd hb); have aU := Ya.mk (KeepBut.trans Zg (KeepBut.of_below hb g none) (.inl rfl)); have bI := Ya.mk (Ys Ze hb); clear cH; clear HK; clear HB; have cH := aM; have HK := aU; have HB := bI; clear aM aU bI; (try clear hb); (try clear cC); (try clear hk); (try clear hi); obtain ⟨fN, aIW⟩ := cH.out; have aQS := Ywb fN; have aQT := Yjc fN; have aQU := Ygc fN; have aQV := Yfc fN; have aQW := Yac fN; have aQX := Ydc fN; have aQY := Yyb fN; have aQZ := Ybc fN; have aRa := Yxb fN; have aRb := Ye fN 0; have aRc := Ye fN 1; have aRd := Ye fN 2; have aRe := Ye fN 3; have aRf := Ye fN 4; have aRg := Ye fN 5; have aRh := Ye fN 6; have aRi := Ye fN 7; have aRj := Ye fN 8; clear fN aIW) | ((with_reducible refine Yh (f := 81) rfl ?_); refine Yba (some 23) rfl rfl Tryz.func81 Zi rfl #[.string cR, .string (⟨#[47, 92]⟩ : ByteArray)] rfl Zb ?_; (with_reducible refine (Ync.calls cR (⟨#[47, 92]⟩ : ByteArray) jO _ ?side1 A4.out).mono ?_); (case side1 => first | exact HE.out | exact EnvOk.below HE.out Ze); rintro e w41 ⟨rfl, hb⟩; refine ⟨_, rfl, ?_⟩; have aM := Ya.mk (IsS53.below Zd hb); have aU := Ya.mk (KeepBut.trans Zg (KeepBut.of_below hb g none) (.inl rfl)); have bI := Ya.mk (Ys Ze hb); clear cH; clear HK; clear HB; have cH := aM; have HK := aU; have HB := bI; clear aM aU bI; (try clear hb); (try clear cC); (try clear hk); (try clear hi); obtain ⟨fO, aIX⟩ := cH.out; have aRk := Ywb fO; have aRl := Yjc fO; have aRm := Ygc fO; have aRn := Yfc fO; have aRo := Yac fO; have aRp := Ydc fO; have aRq := Yyb fO; have aRr := Ybc fO; have aRs := Yxb fO; have aRt := Ye fO 0; have aRu := Ye fO 1; have aRv := Ye fO 2; have aRw := Ye fO 3; have aRx := Ye fO 4; have aRy := Ye fO 5; have aRz := Ye fO 6; have aRA := Ye fO 7; have aRB := Ye fO 8; clear fO aIX) | ((with_reducible refine Yh (f := 82) rfl ?_); refine Yba (some 30) rfl rfl Tryz.func82 Zi rfl #[.pointer (some ⟨g, 0, none⟩), .string (⟨#[47, 92, 63, 35]⟩ : ByteArray)] rfl Zb ?_; (with_reducible refine (Yvb.calls g jO gB gC gD gE gF gG gH gI (⟨#[47, 92, 63, 35]⟩ : ByteArray) fZ kO jD kP kQ kR kT kU kV kW w0 _ ?side1 ?side2 ?side3 A5.out).mono ?_); (case side1 => exact HE.out); (case side2 => repeat (first | (with_reducible first | exact cH.out | apply IsS53.alloc | apply IsS53.drewN | apply IsS53.drew | apply IsS53.set_0 | apply IsS53.set_1 | apply IsS53.set_2 | apply IsS53.set_3 | apply IsS53.set_4 | apply IsS53.set_5 | apply IsS53.set_6 | apply IsS53.set_7 | apply IsS53.set_8) | exact cH.out)); (case side3 => repeat (first | (with_reducible first | exact HB.out | apply Yd | apply Yb | apply Yc | refine Yg ?_ (IsS53.ge cH.out)) | exact HB.out)); rintro e w43 ⟨rfl, hi, hb, hk⟩; refine ⟨_, rfl, ?_⟩; have aM := Ya.mk (KeepBut.trans Zg hk (.inl rfl)); have aU := Ya.mk (hb); have bI := Ya.mk (hi); clear HK; clear HB; clear cH; have HK := aM; have HB := aU; have cH := bI; clear aM aU bI; (try clear hb); (try clear cC); (try clear hk); (try clear hi)) | ((with_reducible refine Yh (f := 79) rfl ?_); refine Yba (some 32) rfl rfl Tryz.func79 Zi rfl #[.string fZ, .int .u8 64] rfl Zb ?_; (with_reducible refine (strings_IndexByte.calls fZ 64 lH _ ?side1 A6.out).mono ?_); (case side1 => first | exact HE.out | exact EnvOk.below HE.out Ze); rintro e w' ⟨rfl, ⟨nd, rfl⟩⟩; refine ⟨_, rfl, ?_⟩; (try (rw [Ydg w43]; generalize hq_ : World.drewN w43 _ = w43; have aM : Ya (IsS53 w0 w43 g kO jD kP kQ kR kT kU kV kW) := ⟨Zn⟩; have aU : Ya (KeepBut w w43 g none) := ⟨Zt⟩; have bI : Ya (Below w0.heap.size w0 w43) := ⟨Zu⟩; clear cH HK HB hq_; have cH := aM; have HK := aU; have HB := bI; clear aM aU bI))) | ((with_reducible refine Yh (f := 76) rfl ?_); refine Yba (some 36) rfl rfl Tryz.func76 Zi rfl #[.string fZ, .string (⟨#[58]⟩ : ByteArray)] rfl Zb ?_; (with_reducible refine (strings_Cut.calls fZ (⟨#[58]⟩ : ByteArray) kD jP aBG _ ?side1 A14.out).mono ?_); (case side1 => first | exact HE.out | exact EnvOk.below HE.out Ze); rintro e w' ⟨rfl, ⟨nd, rfl⟩⟩; refine ⟨_, rfl, ?_⟩; (try (rw [Ydg w43]; generalize hq_ : World.drewN w43 _ = w43; have aM : Ya (IsS53 w0 w43 g kO jD kP kQ kR kT kU kV kW) := ⟨Zn⟩; have aU : Ya (KeepBut w w43 g none) := ⟨Zt⟩; have bI : Ya (Below w0.heap.size w0 w43) := ⟨Zu⟩; clear cH HK HB hq_; have cH := aM; have HK := aU; have HB := bI; clear aM aU bI))) | ((with_reducible refine Yh (f := 19) rfl ?_); refine Yba (some 42) rfl rfl Tryz.func19 Zi rfl #[.string kD] rfl Zb ?_; (with_reducible refine (Yze.calls k kD aBI pU _ ?side1 A15.out).mono ?_); (case side1 => first | exact HE.out | exact EnvOk.below HE.out Ze); rintro e w44 ⟨rfl, hb⟩; refine ⟨_, rfl, ?_⟩; have aM := Ya.mk (IsS53.below Zd hb); have aU := Ya.mk (KeepBut.trans Zg (KeepBut.of_below hb g none) (.inl rfl)); have bI := Ya.mk (Ys Ze hb); clear cH; clear HK; clear HB; have cH := aM; have HK := aU; have HB := bI; clear aM aU bI; (try clear hb); (try clear cC); (try clear hk); (try clear hi); obtain ⟨fP, aIY⟩ := cH.out; have aRC := Ywb fP; have aRD := Yjc fP; have aRE := Ygc fP; have aRF := Yfc fP; have aRG := Yac fP; have aRH := Ydc fP; have aRI := Yyb fP; have aRJ := Ybc fP; have aRK := Yxb fP; have aRL := Ye fP 0; have aRM := Ye fP 1; have aRN := Ye fP 2; have aRO := Ye fP 3; have aRP := Ye fP 4; have aRQ := Ye fP 5; have aRR := Ye fP 6; have aRS := Ye fP 7; have aRT := Ye fP 8; clear fP aIY) | ((with_reducible refine Yh (f := 83) rfl ?_); refine Yba (some 57) rfl rfl Tryz.func83 Zi rfl #[.string jP, .int .i64 65535] rfl Zb ?_; (with_reducible refine (Yia.calls k jP 65535 tU tV _ ?side1 A26.out).mono ?_); (case side1 => first | exact HE.out | exact EnvOk.below HE.out Ze); rintro e w' ⟨rfl, ⟨nd, rfl⟩⟩; refine ⟨_, rfl, ?_⟩) | ((with_reducible refine Yh (f := 84) rfl ?_); refine Yba (some 68) rfl rfl Tryz.func84 Zi rfl #[.string jD] rfl Zb ?_; (with_reducible refine (Ygg.calls jD oW _ ?side1 A28.out).mono ?_); (case side1 => first | exact HE.out | exact EnvOk.below HE.out Ze); rintro e w' ⟨rfl, ⟨nd, rfl⟩⟩; refine ⟨_, rfl, ?_⟩))
  go_ret
  exact ⟨Zk, Zd, Ze, Zg⟩
 rw [if_pos oX] at H
 have aBJ : (tU == oW) = true := beq_iff_eq.mpr oX
 have aIU : (tU != oW) = false := bne_eq_false_iff_eq.mpr oX
 clear oX
 simp only [Option.some.injEq, Prod.mk.injEq] at H
 obtain ⟨rfl, rfl, rfl, rfl, rfl, rfl, rfl, rfl, rfl, rfl⟩ := H
 obtain ⟨fQ, aIZ⟩ := cH.out
 have aRU := Ywb fQ
 have aRV := Yjc fQ
 have aRW := Ygc fQ
 have aRX := Yfc fQ
 have aRY := Yac fQ
 have aRZ := Ydc fQ
 have aSa := Yyb fQ
 have aSb := Ybc fQ
 have aSc := Yxb fQ
 have aSd := Ye fQ 0
 have aSe := Ye fQ 1
 have aSf := Ye fQ 2
 have aSg := Ye fQ 3
 have aSh := Ye fQ 4
 have aSi := Ye fQ 5
 have aSj := Ye fQ 6
 have aSk := Ye fQ 7
 have aSl := Ye fQ 8
 clear fQ aIZ
 go_enter Tryz.func44, Tryz.ntmps44
 go_wp2_with (first | ((with_reducible refine Yh (f := 80) rfl ?_); refine Yba (some 15) rfl rfl Tryz.func80 Zi rfl #[.string cR, .string (⟨#[47, 92]⟩ : ByteArray)] rfl Zb ?_; (with_reducible refine (strings_IndexAny.calls cR (⟨#[47, 92]⟩ : ByteArray) jN _ ?side1 A2.out).mono ?_); (case side1 => first | exact HE.out | exact EnvOk.below HE.out Ze); rintro e w31 ⟨rfl, hb⟩; refine ⟨_, rfl, ?_⟩; have aM := Ya.mk (IsS53.below Zd hb); have aU := Ya.mk (KeepBut.trans Zg (KeepBut.of_below hb g none) (.inl rfl)); have bI := Ya.mk (Ys Ze hb); clear cH; clear HK; clear HB; have cH := aM; have HK := aU; have HB := bI; clear aM aU bI; (try clear hb); (try clear cC); (try clear hk); (try clear hi); obtain ⟨fR, aJa⟩ := cH.out; have aSm := Ywb fR; have aSn := Yjc fR; have aSo := Ygc fR; have aSp := Yfc fR; have aSq := Yac fR; have aSr := Ydc fR; have aSs := Yyb fR; have aSt := Ybc fR; have aSu := Yxb fR; have aSv := Ye fR 0; have aSw := Ye fR 1; have aSx := Ye fR 2; have aSy := Ye fR 3; have aSz := Ye fR 4; have aSA := Ye fR 5; have aSB := Ye fR 6; have aSC := Ye fR 7; have aSD := Ye fR 8; clear fR aJa) | ((with_reducible refine Yh (f := 81) rfl ?_); refine Yba (some 23) rfl rfl Tryz.func81 Zi rfl #[.string cR, .string (⟨#[47, 92]⟩ : ByteArray)] rfl Zb ?_; (with_reducible refine (Ync.calls cR (⟨#[47, 92]⟩ : ByteArray) jO _ ?side1 A4.out).mono ?_); (case side1 => first | exact HE.out | exact EnvOk.below HE.out Ze); rintro e w33 ⟨rfl, hb⟩; refine ⟨_, rfl, ?_⟩; have aM := Ya.mk (IsS53.below Zd hb); have aU := Ya.mk (KeepBut.trans Zg (KeepBut.of_below hb g none) (.inl rfl)); have bI := Ya.mk (Ys Ze hb); clear cH; clear HK; clear HB; have cH := aM; have HK := aU; have HB := bI; clear aM aU bI; (try clear hb); (try clear cC); (try clear hk); (try clear hi); obtain ⟨fS, aJb⟩ := cH.out; have zK := Ywb fS; have zL := Yjc fS; have zM := Ygc fS; have zN := Yfc fS; have zO := Yac fS; have zP := Ydc fS; have zQ := Yyb fS; have zR := Ybc fS; have aSE := Yxb fS; have zS := Ye fS 0; have zT := Ye fS 1; have zU := Ye fS 2; have zV := Ye fS 3; have zW := Ye fS 4; have zX := Ye fS 5; have zY := Ye fS 6; have zZ := Ye fS 7; have aSF := Ye fS 8; clear fS aJb) | ((with_reducible refine Yh (f := 82) rfl ?_); refine Yba (some 30) rfl rfl Tryz.func82 Zi rfl #[.pointer (some ⟨g, 0, none⟩), .string (⟨#[47, 92, 63, 35]⟩ : ByteArray)] rfl Zb ?_; (with_reducible refine (Yvb.calls g jO gB gC gD gE gF gG gH gI (⟨#[47, 92, 63, 35]⟩ : ByteArray) fZ kO jD kP kQ kR kT kU kV kW w0 _ ?side1 ?side2 ?side3 A5.out).mono ?_); (case side1 => exact HE.out); (case side2 => repeat (first | (with_reducible first | exact cH.out | apply IsS53.alloc | apply IsS53.drewN | apply IsS53.drew | apply IsS53.set_0 | apply IsS53.set_1 | apply IsS53.set_2 | apply IsS53.set_3 | apply IsS53.set_4 | apply IsS53.set_5 | apply IsS53.set_6 | apply IsS53.set_7 | apply IsS53.set_8) | exact cH.out)); (case side3 => repeat (first | (with_reducible first | exact HB.out | apply Yd | apply Yb | apply Yc | refine Yg ?_ (IsS53.ge cH.out)) | exact HB.out)); rintro e w35 ⟨rfl, hi, hb, hk⟩; refine ⟨_, rfl, ?_⟩; have aM := Ya.mk (KeepBut.trans Zg hk (.inl rfl)); have aU := Ya.mk (hb); have bI := Ya.mk (hi); clear HK; clear HB; clear cH; have HK := aM; have HB := aU; have cH := bI; clear aM aU bI; (try clear hb); (try clear cC); (try clear hk); (try clear hi)) | ((with_reducible refine Yh (f := 79) rfl ?_); refine Yba (some 32) rfl rfl Tryz.func79 Zi rfl #[.string fZ, .int .u8 64] rfl Zb ?_; (with_reducible refine (strings_IndexByte.calls fZ 64 lH _ ?side1 A6.out).mono ?_); (case side1 => first | exact HE.out | exact EnvOk.below HE.out Ze); rintro e w' ⟨rfl, ⟨nd, rfl⟩⟩; refine ⟨_, rfl, ?_⟩; (try (rw [Ydg w35]; generalize hq_ : World.drewN w35 _ = w35; have aM : Ya (IsS53 w0 w35 g kO jD kP kQ kR kT kU kV kW) := ⟨Zn⟩; have aU : Ya (KeepBut w w35 g none) := ⟨Zt⟩; have bI : Ya (Below w0.heap.size w0 w35) := ⟨Zu⟩; clear cH HK HB hq_; have cH := aM; have HK := aU; have HB := bI; clear aM aU bI))) | ((with_reducible refine Yh (f := 76) rfl ?_); refine Yba (some 36) rfl rfl Tryz.func76 Zi rfl #[.string fZ, .string (⟨#[58]⟩ : ByteArray)] rfl Zb ?_; (with_reducible refine (strings_Cut.calls fZ (⟨#[58]⟩ : ByteArray) kD jP aBG _ ?side1 A14.out).mono ?_); (case side1 => first | exact HE.out | exact EnvOk.below HE.out Ze); rintro e w' ⟨rfl, ⟨nd, rfl⟩⟩; refine ⟨_, rfl, ?_⟩; (try (rw [Ydg w35]; generalize hq_ : World.drewN w35 _ = w35; have aM : Ya (IsS53 w0 w35 g kO jD kP kQ kR kT kU kV kW) := ⟨Zn⟩; have aU : Ya (KeepBut w w35 g none) := ⟨Zt⟩; have bI : Ya (Below w0.heap.size w0 w35) := ⟨Zu⟩; clear cH HK HB hq_; have cH := aM; have HK := aU; have HB := bI; clear aM aU bI))) | ((with_reducible refine Yh (f := 19) rfl ?_); refine Yba (some 42) rfl rfl Tryz.func19 Zi rfl #[.string kD] rfl Zb ?_; (with_reducible refine (Yze.calls k kD aBI pU _ ?side1 A15.out).mono ?_); (case side1 => first | exact HE.out | exact EnvOk.below HE.out Ze); rintro e w36 ⟨rfl, hb⟩; refine ⟨_, rfl, ?_⟩; have aM := Ya.mk (IsS53.below Zd hb); have aU := Ya.mk (KeepBut.trans Zg (KeepBut.of_below hb g none) (.inl rfl)); have bI := Ya.mk (Ys Ze hb); clear cH; clear HK; clear HB; have cH := aM; have HK := aU; have HB := bI; clear aM aU bI; (try clear hb); (try clear cC); (try clear hk); (try clear hi); obtain ⟨fT, aJc⟩ := cH.out; have aSG := Ywb fT; have aSH := Yjc fT; have aSI := Ygc fT; have aSJ := Yfc fT; have aSK := Yac fT; have aSL := Ydc fT; have aSM := Yyb fT; have aSN := Ybc fT; have aSO := Yxb fT; have aSP := Ye fT 0; have aSQ := Ye fT 1; have aSR := Ye fT 2; have aSS := Ye fT 3; have aST := Ye fT 4; have aSU := Ye fT 5; have aSV := Ye fT 6; have aSW := Ye fT 7; have aSX := Ye fT 8; clear fT aJc) | ((with_reducible refine Yh (f := 83) rfl ?_); refine Yba (some 57) rfl rfl Tryz.func83 Zi rfl #[.string jP, .int .i64 65535] rfl Zb ?_; (with_reducible refine (Yia.calls k jP 65535 tU tV _ ?side1 A26.out).mono ?_); (case side1 => first | exact HE.out | exact EnvOk.below HE.out Ze); rintro e w' ⟨rfl, ⟨nd, rfl⟩⟩; refine ⟨_, rfl, ?_⟩) | ((with_reducible refine Yh (f := 84) rfl ?_); refine Yba (some 68) rfl rfl Tryz.func84 Zi rfl #[.string jD] rfl Zb ?_; (with_reducible refine (Ygg.calls jD oW _ ?side1 A28.out).mono ?_); (case side1 => first | exact HE.out | exact EnvOk.below HE.out Ze); rintro e w' ⟨rfl, ⟨nd, rfl⟩⟩; refine ⟨_, rfl, ?_⟩))
 go_ret
 exact ⟨Zk, Zd, Ze, Zg⟩
def Yfj.f (a0 : ByteArray) : Option (Int) := (Yhb.f a0).bind fun lI => ((strings_ReplaceAll.f lI (⟨#[37, 50, 101]⟩ : ByteArray) (⟨#[46]⟩ : ByteArray)).bind fun iY => (if iY.toList = ([46] : List UInt8) then (some 1) else (if iY.toList = ([46, 46] : List UInt8) then (some 2) else (some 0))))
theorem Yfj.calls (a0 : ByteArray) (r : Int) (w : World) (hE : EnvOk w) (h : Yfj.f a0 = some r) :
  Calls Tryz.prog 62 #[.string a0] w fun e w' => e = .returned (.int .i64 r) ∧ Below w.heap.size w w' := by
 have HE := Ya.mk hE
 clear hE
 have HB := Ya.mk (Below.refl w.heap.size w)
 have H : ((Yhb.f a0).bind fun lI => ((strings_ReplaceAll.f lI (⟨#[37, 50, 101]⟩ : ByteArray) (⟨#[46]⟩ : ByteArray)).bind fun iY => (if iY.toList = ([46] : List UInt8) then (some 1) else (if iY.toList = ([46, 46] : List UInt8) then (some 2) else (some 0))))) = some r := h
 clear h
 replace H := Option.bind_eq_some_iff.mp H
 obtain ⟨lI, dU, H⟩ := H
 try dsimp -simprocs only at H
 have A2 := Ya.mk dU
 clear dU
 replace H := Option.bind_eq_some_iff.mp H
 obtain ⟨iY, jB, H⟩ := H
 try dsimp -simprocs only at H
 have A3 := Ya.mk jB
 clear jB
 by_cases c4 : iY.toList = ([46] : List UInt8)
 ·rw [if_pos c4] at H
  have cF : (iY.toList == ([46] : List UInt8)) = true := beq_iff_eq.mpr c4
  have jL : (iY.toList != ([46] : List UInt8)) = false := bne_eq_false_iff_eq.mpr c4
  clear c4
  obtain rfl := Option.some.inj H
  go_enter Tryz.func62, Tryz.ntmps62
  go_wp2_with (first | ((with_reducible refine Yh (f := 52) rfl ?_); refine Yba (some 4) rfl rfl Tryz.func52 Zi rfl #[.string a0] rfl Zb ?_; (with_reducible refine (Yhb.calls a0 lI _ ?side1 A2.out).mono ?_); (case side1 => first | exact HE.out | exact EnvOk.below HE.out Za); rintro e w5 ⟨rfl, hb⟩; refine ⟨_, rfl, ?_⟩; have aM := Ya.mk (Ys Za hb); clear HB; have HB := aM; clear aM; (try clear hb); (try clear cC); (try clear hk); (try clear hi)) | ((with_reducible refine Yh (f := 59) rfl ?_); refine Yba (some 5) rfl rfl Tryz.func59 Zi rfl #[.string lI, .string (⟨#[37, 50, 101]⟩ : ByteArray), .string (⟨#[46]⟩ : ByteArray)] rfl Zb ?_; (with_reducible refine (strings_ReplaceAll.calls lI (⟨#[37, 50, 101]⟩ : ByteArray) (⟨#[46]⟩ : ByteArray) iY _ ?side1 A3.out).mono ?_); (case side1 => first | exact HE.out | exact EnvOk.below HE.out Za); rintro e w6 ⟨rfl, hb⟩; refine ⟨_, rfl, ?_⟩; have aM := Ya.mk (Ys Za hb); clear HB; have HB := aM; clear aM; (try clear hb); (try clear cC); (try clear hk); (try clear hi)))
  go_ret
  exact ⟨Zk, Za⟩
 rw [if_neg c4] at H
 have cF : (iY.toList == ([46] : List UInt8)) = false := beq_eq_false_iff_ne.mpr c4
 have jL : (iY.toList != ([46] : List UInt8)) = true := bne_iff_ne.mpr c4
 by_cases c7 : iY.toList = ([46, 46] : List UInt8)
 rotate_left
 ·rw [if_neg c7] at H
  have dA : (iY.toList == ([46, 46] : List UInt8)) = false := beq_eq_false_iff_ne.mpr c7
  have iF : (iY.toList != ([46, 46] : List UInt8)) = true := bne_iff_ne.mpr c7
  obtain rfl := Option.some.inj H
  go_enter Tryz.func62, Tryz.ntmps62
  go_wp2_with (first | ((with_reducible refine Yh (f := 52) rfl ?_); refine Yba (some 4) rfl rfl Tryz.func52 Zi rfl #[.string a0] rfl Zb ?_; (with_reducible refine (Yhb.calls a0 lI _ ?side1 A2.out).mono ?_); (case side1 => first | exact HE.out | exact EnvOk.below HE.out Za); rintro e qE ⟨rfl, hb⟩; refine ⟨_, rfl, ?_⟩; have aM := Ya.mk (Ys Za hb); clear HB; have HB := aM; clear aM; (try clear hb); (try clear cC); (try clear hk); (try clear hi)) | ((with_reducible refine Yh (f := 59) rfl ?_); refine Yba (some 5) rfl rfl Tryz.func59 Zi rfl #[.string lI, .string (⟨#[37, 50, 101]⟩ : ByteArray), .string (⟨#[46]⟩ : ByteArray)] rfl Zb ?_; (with_reducible refine (strings_ReplaceAll.calls lI (⟨#[37, 50, 101]⟩ : ByteArray) (⟨#[46]⟩ : ByteArray) iY _ ?side1 A3.out).mono ?_); (case side1 => first | exact HE.out | exact EnvOk.below HE.out Za); rintro e w11 ⟨rfl, hb⟩; refine ⟨_, rfl, ?_⟩; have aM := Ya.mk (Ys Za hb); clear HB; have HB := aM; clear aM; (try clear hb); (try clear cC); (try clear hk); (try clear hi)))
  go_ret
  exact ⟨Zk, Za⟩
 rw [if_pos c7] at H
 have dA : (iY.toList == ([46, 46] : List UInt8)) = true := beq_iff_eq.mpr c7
 have iF : (iY.toList != ([46, 46] : List UInt8)) = false := bne_eq_false_iff_eq.mpr c7
 clear c7
 obtain rfl := Option.some.inj H
 go_enter Tryz.func62, Tryz.ntmps62
 go_wp2_with (first | ((with_reducible refine Yh (f := 52) rfl ?_); refine Yba (some 4) rfl rfl Tryz.func52 Zi rfl #[.string a0] rfl Zb ?_; (with_reducible refine (Yhb.calls a0 lI _ ?side1 A2.out).mono ?_); (case side1 => first | exact HE.out | exact EnvOk.below HE.out Za); rintro e w8 ⟨rfl, hb⟩; refine ⟨_, rfl, ?_⟩; have aM := Ya.mk (Ys Za hb); clear HB; have HB := aM; clear aM; (try clear hb); (try clear cC); (try clear hk); (try clear hi)) | ((with_reducible refine Yh (f := 59) rfl ?_); refine Yba (some 5) rfl rfl Tryz.func59 Zi rfl #[.string lI, .string (⟨#[37, 50, 101]⟩ : ByteArray), .string (⟨#[46]⟩ : ByteArray)] rfl Zb ?_; (with_reducible refine (strings_ReplaceAll.calls lI (⟨#[37, 50, 101]⟩ : ByteArray) (⟨#[46]⟩ : ByteArray) iY _ ?side1 A3.out).mono ?_); (case side1 => first | exact HE.out | exact EnvOk.below HE.out Za); rintro e w9 ⟨rfl, hb⟩; refine ⟨_, rfl, ?_⟩; have aM := Ya.mk (Ys Za hb); clear HB; have HB := aM; clear aM; (try clear hb); (try clear cC); (try clear hk); (try clear hi)))
 go_ret
 exact ⟨Zk, Za⟩
def Yhg.f (a0 a1 : ByteArray) : Option (Bool) := if (a0.size : Int) = (a1.size : Int) then ((Yhb.f a0).bind fun aBK => ((Yhb.f a1).bind fun aBL => (some (aBK.toList == aBL.toList)))) else (some false)
theorem Yhg.calls (a0 a1 : ByteArray) (r : Bool) (w : World) (hE : EnvOk w) (h : Yhg.f a0 a1 = some r) :
  Calls Tryz.prog 73 #[.string a0, .string a1] w fun e w' => e = .returned (.bool r) ∧ Below w.heap.size w w' := by
 have HE := Ya.mk hE
 clear hE
 have HB := Ya.mk (Below.refl w.heap.size w)
 have H : (if (a0.size : Int) = (a1.size : Int) then ((Yhb.f a0).bind fun aBK => ((Yhb.f a1).bind fun aBL => (some (aBK.toList == aBL.toList)))) else (some false)) = some r := h
 clear h
 by_cases c3 : (a0.size : Int) = (a1.size : Int)
 rotate_left
 ·rw [if_neg c3] at H
  have cJ : ((a0.size : Int) == (a1.size : Int)) = false := beq_eq_false_iff_ne.mpr c3
  have fY : ((a0.size : Int) != (a1.size : Int)) = true := bne_iff_ne.mpr c3
  have aBj : (a0.size == a1.size) = false := by first | simpa using c3 | (simp at c3 ⊢; omega)
  obtain rfl := Option.some.inj H
  go_enter Tryz.func73, Tryz.ntmps73
  go_wp2
  go_ret
  exact ⟨Zk, Za⟩
 rw [if_pos c3] at H
 have cJ : ((a0.size : Int) == (a1.size : Int)) = true := beq_iff_eq.mpr c3
 have fY : ((a0.size : Int) != (a1.size : Int)) = false := bne_eq_false_iff_eq.mpr c3
 have aBj : (a0.size == a1.size) = true := by first | simpa using c3 | (simp at c3 ⊢; omega)
 clear c3
 replace H := Option.bind_eq_some_iff.mp H
 obtain ⟨aBK, qH, H⟩ := H
 try dsimp -simprocs only at H
 have A4 := Ya.mk qH
 clear qH
 replace H := Option.bind_eq_some_iff.mp H
 obtain ⟨aBL, tT, H⟩ := H
 try dsimp -simprocs only at H
 have A5 := Ya.mk tT
 clear tT
 obtain rfl := Option.some.inj H
 go_enter Tryz.func73, Tryz.ntmps73
 go_wp2_with (first | (go_at_call 52; (with_reducible refine (Yhb.calls a0 aBK _ ?side1 A4.out).mono ?_); (case side1 => first | exact HE.out | exact EnvOk.below HE.out Za); rintro e w6 ⟨rfl, hb⟩; have aM := Ya.mk (Ys Za hb); clear HB; have HB := aM; clear aM; (try clear hb); (try clear cC); (try clear hk); (try clear hi)) | (go_at_call 52; (with_reducible refine (Yhb.calls a1 aBL _ ?side1 A5.out).mono ?_); (case side1 => first | exact HE.out | exact EnvOk.below HE.out Za); rintro e w7 ⟨rfl, hb⟩; have aM := Ya.mk (Ys Za hb); clear HB; have HB := aM; clear aM; (try clear hb); (try clear cC); (try clear hk); (try clear hi)))
 go_ret
 exact ⟨Zk, Za⟩
end Go.Proofs.YtnmglnglbdpjjaaGreatDoor.X
