/- Printed by a program of ours: functions as plain Lean, and what a call of each does. -/
import Derived.Test.YtnmglnglbdpjjaaGreatDoorUlWords
import Derived.Test.YtnmglnglbdpjjaaGreatDoorUlX0
import Derived.Test.YtnmglnglbdpjjaaGreatDoorUlX3
import Derived.Test.YtnmglnglbdpjjaaGreatDoorUlX4
import Derived.Test.YtnmglnglbdpjjaaGreatDoorUlH0e
import Derived.Test.YtnmglnglbdpjjaaGreatDoorUlH1c
namespace Go.Proofs.YtnmglnglbdpjjaaGreatDoor.X
open Go.RowKit Go.Yw.PrintWords Go.Yw.PrintLast Go.Yw.PrintMore
attribute [local go_sem] Yxd Yae Yoe Yqe Yld Yjd Yyd Yzd
set_option linter.unusedVariables false
set_option linter.unusedSimpArgs false
set_option maxHeartbeats 8000000
set_option maxRecDepth 100000
mutual
def Yu.j0 : Nat → ByteArray → ByteArray → Bool → ByteArray → ByteArray → ByteArray → Int → ByteArray → ByteArray → ByteArray → Bool → Bool → Option (Int × ByteArray × ByteArray × ByteArray × Int × ByteArray × ByteArray × ByteArray × Bool × Bool)
 | 0, _, _, _, _, _, _, _, _, _, _, _, _ => none
 | k + 1, x3, x4, x29, oF, oG, jM, jN, jO, jP, jQ, jR, jS => if x29 = true then (some (3, oF, oG, jM, jN, jO, jP, jQ, jR, jS)) else (Yu.l0 k x3 x4 (x3.size : Int) 0 oF oG jM jN jO jP jQ jR jS)
def Yu.l0 : Nat → ByteArray → ByteArray → Int → Int → ByteArray → ByteArray → ByteArray → Int → ByteArray → ByteArray → ByteArray → Bool → Bool → Option (Int × ByteArray × ByteArray × ByteArray × Int × ByteArray × ByteArray × ByteArray × Bool × Bool)
 | 0, _, _, _, _, _, _, _, _, _, _, _, _, _ => none
 | k + 1, x3, x4, x31, x32, oF, oG, jM, jN, jO, jP, jQ, jR, jS => if x32 < x31 then (if 0 ≤ x32 then (if x32 < (x3.size : Int) then ((Ywa.f (bt x3 x32)).bind fun aFC => (if aFC = true then (Yu.l0 k x3 x4 x31 (wrap64 (x32 + 1)) oF oG jM jN jO jP jQ jR jS) else ((Yta.f (bt x3 x32)).bind fun aFD => (if aFD = true then (Yu.l0 k x3 x4 x31 (wrap64 (x32 + 1)) oF oG jM jN jO jP jQ jR jS) else ((strings_IndexByte.f (⟨#[43, 45, 46]⟩ : ByteArray) (bt x3 x32)).bind fun uW => (if uW < 0 then (some (3, oF, oG, jM, jN, jO, jP, jQ, jR, jS)) else (Yu.l0 k x3 x4 x31 (wrap64 (x32 + 1)) oF oG jM jN jO jP jQ jR jS))))))) else (none)) else (none)) else ((Yib.f x3).bind fun iO => (if iO.toList = ([104, 116, 116, 112] : List UInt8) then (some (0, x4, iO, jM, jN, jO, jP, jQ, jR, jS)) else (if iO.toList = ([104, 116, 116, 112, 115] : List UInt8) then (some (0, x4, iO, jM, jN, jO, jP, jQ, jR, jS)) else (some (16, x4, iO, jM, jN, jO, jP, jQ, jR, jS)))))
end
def Yu.f (k : Nat) (cI fY fZ : ByteArray) (gA : Int) (gB gC gD : ByteArray) (gE gF : Bool) : Option (Int × ByteArray × ByteArray × ByteArray × Int × ByteArray × ByteArray × ByteArray × Bool × Bool) := (strings_Cut.f cI (⟨#[58]⟩ : ByteArray)).bind fun eG => (if eG.2.2 = true then (if eG.1.toList = ([] : List UInt8) then (Yu.j0 k eG.1 eG.2.1 true cI fY fZ gA gB gC gD gE gF) else (if 0 < (eG.1.size : Int) then ((Ywa.f (bt eG.1 0)).bind fun zK => (Yu.j0 k eG.1 eG.2.1 (!zK) cI fY fZ gA gB gC gD gE gF)) else (none))) else (Yu.j0 k eG.1 eG.2.1 true cI fY fZ gA gB gC gD gE gF))
theorem Yu.calls (k g : Nat) (cI fY fZ : ByteArray) (gA : Int) (gB gC gD : ByteArray) (gE gF : Bool) (r1 : Int) (r2 r3 r4 : ByteArray) (r5 : Int) (r6 r7 r8 : ByteArray) (r9 uQ : Bool) (w0 w : World) (hE : EnvOk w0) (hI : IsS53 w0 w g cI fY fZ gA gB gC gD gE gF) (hB : Below w0.heap.size w0 w) (h : Yu.f k cI fY fZ gA gB gC gD gE gF = some (r1, r2, r3, r4, r5, r6, r7, r8, r9, uQ)) :
  Calls Tryz.prog 43 #[.pointer (some ⟨g, 0, none⟩)] w fun e w' => e = .returned (.int .i64 r1) ∧ IsS53 w0 w' g r2 r3 r4 r5 r6 r7 r8 r9 uQ ∧ Below w0.heap.size w0 w' ∧ KeepBut w w' g none := by
 have bZ := Ya.mk hI
 have HK := Ya.mk (KeepBut.refl w g none)
 have HL := Ya.mk hB.size
 clear hI
 have HE := Ya.mk hE
 clear hE
 have HW0 := Ya.mk hB.size
 have HB := Ya.mk hB
 clear hB
 have H : ((strings_Cut.f cI (⟨#[58]⟩ : ByteArray)).bind fun eG => (if eG.2.2 = true then (if eG.1.toList = ([] : List UInt8) then (Yu.j0 k eG.1 eG.2.1 true cI fY fZ gA gB gC gD gE gF) else (if 0 < (eG.1.size : Int) then ((Ywa.f (bt eG.1 0)).bind fun zK => (Yu.j0 k eG.1 eG.2.1 (!zK) cI fY fZ gA gB gC gD gE gF)) else (none))) else (Yu.j0 k eG.1 eG.2.1 true cI fY fZ gA gB gC gD gE gF))) = some (r1, r2, r3, r4, r5, r6, r7, r8, r9, uQ) := h
 clear h
 replace H := Option.bind_eq_some_iff.mp H
 obtain ⟨⟨cJ, aFE, aHO⟩, dV, H⟩ := H
 try dsimp -simprocs only at H
 have A2 := Ya.mk dV
 clear dV
 have qI := Ya.mk H
 clear H
 obtain ⟨iP, aUT⟩ := bZ.out
 have aAP := Ydc iP
 have aAQ := Yjc iP
 have aAR := Ykc iP
 have aAS := Ymc iP
 have aAT := Ygc iP
 have aAU := Yic iP
 have aAV := Ycc iP
 have aAW := Yhc iP
 have aAX := Yec iP
 have aAY := Ye iP 0
 have aAZ := Ye iP 1
 have aBa := Ye iP 2
 have aBb := Ye iP 3
 have aBc := Ye iP 4
 have aBd := Ye iP 5
 have aBe := Ye iP 6
 have aBf := Ye iP 7
 have aBg := Ye iP 8
 clear iP aUT
 go_enter Tryz.func43, Tryz.ntmps43
 go_upto_region 2 with (first | ((with_reducible refine Yi (f := 76) rfl ?_); refine Yaa (some 14) rfl rfl Tryz.func76 Zi rfl #[.string cI, .string (⟨#[58]⟩ : ByteArray)] rfl Zb ?_; (with_reducible refine (strings_Cut.calls cI (⟨#[58]⟩ : ByteArray) cJ aFE aHO _ ?side1 A2.out).mono ?_); (case side1 => first | exact HE.out | exact EnvOk.below HE.out Ze); rintro e w' ⟨rfl, ⟨nd, rfl⟩⟩; refine ⟨_, rfl, ?_⟩))
 (try simp only [Act.put, List.setIfInBounds_toArray, List.set_cons_zero, List.set_cons_succ])
 go_cut [29] (fun v29 wc => ∃ (kq : Nat) (wB : Bool), v29 = .bool wB ∧ Ya (Yu.j0 kq cJ aFE wB cI fY fZ gA gB gC gD gE gF = some (r1, r2, r3, r4, r5, r6, r7, r8, r9, uQ)) ∧ Ya (kq ≤ k) ∧ Ya (IsS53 w0 wc g cI fY fZ gA gB gC gD gE gF) ∧ Ya (KeepBut w wc g none) ∧ Ya (Below w0.heap.size w0 wc))
 case first =>
  have H := qI.out
  clear qI
  by_cases c5 : aHO = true
  rotate_left
  ·replace c5 := Bool.eq_false_iff.mpr c5
   subst c5
   rw [if_neg (show ¬ (false = true) by decide)] at H
   have H' := Ya.mk H
   clear H
   go_wp2
   go_meet
   case rel => exact ⟨_, (true), Zf, H', ⟨Zla⟩, ⟨Zd⟩, ⟨Zg⟩, ⟨Ze⟩⟩
  subst c5
  rw [if_pos rfl] at H
  by_cases c6 : cJ.toList = ([] : List UInt8)
  ·rw [if_pos c6] at H
   have dN : (cJ.toList == ([] : List UInt8)) = true := beq_iff_eq.mpr c6
   have iX : (cJ.toList != ([] : List UInt8)) = false := bne_eq_false_iff_eq.mpr c6
   clear c6
   (first | rw [dN] | (simp only [Yca, Yga]; rw [dN]) | skip)
   have H' := Ya.mk H
   clear H
   go_wp2
   go_meet
   case rel => exact ⟨_, (true), Zf, H', ⟨Zla⟩, ⟨Zd⟩, ⟨Zg⟩, ⟨Ze⟩⟩
  rw [if_neg c6] at H
  have dN : (cJ.toList == ([] : List UInt8)) = false := beq_eq_false_iff_ne.mpr c6
  have iX : (cJ.toList != ([] : List UInt8)) = true := bne_iff_ne.mpr c6
  (first | rw [dN] | (simp only [Yca, Yga]; rw [dN]) | skip)
  by_cases c7 : 0 < (cJ.size : Int)
  rotate_left
  ·rw [if_neg c7] at H
   exact absurd H Zv
  rw [if_pos c7] at H
  have cQ : decide (0 < (cJ.size : Int)) = true := decide_eq_true c7
  have iB : decide (0 < cJ.size) = true := decide_eq_true Zk
  clear c7
  replace H := Option.bind_eq_some_iff.mp H
  obtain ⟨zK, A90, H⟩ := H
  try dsimp -simprocs only at H
  have A9 := Ya.mk A90
  clear A90
  have H' := Ya.mk H
  clear H
  have p8 : 0 ≤ (0 : Int) := Zk
  have q8 : 0 < cJ.size := (by have : (0 : Int) < (cJ.size : Int) := of_decide_eq_true Zc; omega)
  have hx8 : ∀ h : 0 < cJ.size, ((cJ[0]'h).toNat : Int) = bt cJ 0 := Yza cJ 0
  clear p8
  have qi8 : (0 < (cJ.size : Int)) = True := eq_true (of_decide_eq_true Zc)
  replace q8 := eq_true q8
  go_wp2_with (first | (go_at_call 77; (with_reducible refine (Ywa.calls (bt cJ 0) zK _ ?side1 A9.out).mono ?_); (case side1 => first | exact HE.out | exact EnvOk.below HE.out Ze); rintro e w' ⟨rfl, ⟨nd, rfl⟩⟩))
  go_meet
  case rel => exact ⟨_, (!zK), Zf, H', ⟨Zla⟩, ⟨Zd⟩, ⟨Zg⟩, ⟨Ze⟩⟩
 case rest =>
  clear qI
  try clear p2
  try clear c4
  try clear c5
  try clear c6
  try clear dN
  try clear iX
  try clear c7
  try clear cQ
  try clear iB
  try clear p8
  try clear q8
  try clear hx8
  try clear qi8
  try clear aAP
  try clear aAQ
  try clear aAR
  try clear aAS
  try clear aAT
  try clear aAU
  try clear aAV
  try clear aAW
  try clear aAX
  try clear aAY
  try clear aAZ
  try clear aBa
  try clear aBb
  try clear aBc
  try clear aBd
  try clear aBe
  try clear aBf
  try clear aBg
  try clear p8
  try clear q8
  obtain ⟨kq, wB, rfl, HA, pH, bZ, HK, HB⟩ := hcut
  cases kq with
  | zero => exact absurd HA.out (by simp [Yu.j0])
  | succ nA =>
   have H := HA.out
   clear HA
   simp only [Yu.j0] at H
   by_cases dP : wB = true
   ·subst dP
    rw [if_pos rfl] at H
    simp only [Option.some.injEq, Prod.mk.injEq] at H
    obtain ⟨rfl, rfl, rfl, rfl, rfl, rfl, rfl, rfl, rfl, rfl⟩ := H
    go_wp2
    go_ret
    exact ⟨Zl, Zd, Ze, Zg⟩
   replace dP := Bool.eq_false_iff.mpr dP
   subst dP
   rw [if_neg (show ¬ (false = true) by decide)] at H
   have H' := Ya.mk H
   clear H
   go_wp2
   go_loopg [32] nA (fun kq v32 w' => ∃ (cD : Int), v32 = .int .i64 cD ∧ Ya (Yu.l0 kq cJ aFE (cJ.size : Int) cD cI fY fZ gA gB gC gD gE gF = some (r1, r2, r3, r4, r5, r6, r7, r8, r9, uQ)) ∧ Ya (kq ≤ nA) ∧ Ya (IsS53 w0 w' g cI fY fZ gA gB gC gD gE gF) ∧ Ya (KeepBut w w' g none) ∧ Ya (Below w0.heap.size w0 w'))
   case atStart => exact ⟨(0), Zf, H', ⟨Nat.le_refl _⟩, ⟨Zd⟩, ⟨Zg⟩, ⟨Ze⟩⟩
   case round =>
    clear H'
    try clear c1
    try clear p2
    try clear c4
    try clear c5
    try clear c6
    try clear dN
    try clear iX
    try clear c7
    try clear cQ
    try clear iB
    try clear p8
    try clear q8
    try clear hx8
    try clear qi8
    try clear dP
    try clear aAP
    try clear aAQ
    try clear aAR
    try clear aAS
    try clear aAT
    try clear aAU
    try clear aAV
    try clear aAW
    try clear aAX
    try clear aAY
    try clear aAZ
    try clear aBa
    try clear aBb
    try clear aBc
    try clear aBd
    try clear aBe
    try clear aBf
    try clear aBg
    try clear p2
    try clear p8
    try clear q8
    obtain ⟨cD, rfl, HA, jT, bZ, HK, HB⟩ := hrel
    cases gk with
    | zero => exact absurd HA.out (by simp [Yu.l0])
    | succ k2 =>
     have H := HA.out
     clear HA
     simp only [Yu.l0] at H
     by_cases c11 : cD < (cJ.size : Int)
     rotate_left
     ·rw [if_neg c11] at H
      have gR : decide (cD < (cJ.size : Int)) = false := decide_eq_false c11
      clear c11
      replace H := Option.bind_eq_some_iff.mp H
      obtain ⟨iO, aBh, H⟩ := H
      try dsimp -simprocs only at H
      have A21 := Ya.mk aBh
      clear aBh
      by_cases iD : iO.toList = ([104, 116, 116, 112] : List UInt8)
      ·rw [if_pos iD] at H
       have lJ : (iO.toList == ([104, 116, 116, 112] : List UInt8)) = true := beq_iff_eq.mpr iD
       have oH : (iO.toList != ([104, 116, 116, 112] : List UInt8)) = false := bne_eq_false_iff_eq.mpr iD
       clear iD
       simp only [Option.some.injEq, Prod.mk.injEq] at H
       obtain ⟨rfl, rfl, rfl, rfl, rfl, rfl, rfl, rfl, rfl, rfl⟩ := H
       go_wp2_with (first | ((with_reducible refine Yi (f := 52) rfl ?_); refine Yaa (some 55) rfl rfl Tryz.func52 Zi rfl #[.string cJ] rfl Zb ?_; (with_reducible refine (Yib.calls cJ iO _ ?side1 A21.out).mono ?_); (case side1 => first | exact HE.out | exact EnvOk.below HE.out Ze); rintro e oT ⟨rfl, hb⟩; refine ⟨_, rfl, ?_⟩; have aH := Ya.mk (IsS53.below Zd hb); have aR := Ya.mk (KeepBut.trans Zg (KeepBut.of_below hb g none) (.inl rfl)); have bK := Ya.mk (Yt Ze hb); clear bZ; clear HK; clear HB; have bZ := aH; have HK := aR; have HB := bK; clear aH aR bK; (try clear hb); (try clear bU); (try clear hk); (try clear hi); obtain ⟨eT, aHQ⟩ := bZ.out; have aCU := Ydc eT; have aCV := Yjc eT; have aCW := Ykc eT; have aCX := Ymc eT; have aCY := Ygc eT; have aCZ := Yic eT; have aDa := Ycc eT; have aDb := Yhc eT; have aLP := Yec eT; have aDc := Ye eT 0; have aDd := Ye eT 1; have aDe := Ye eT 2; have aDf := Ye eT 3; have aDg := Ye eT 4; have aDh := Ye eT 5; have aDi := Ye eT 6; have aDj := Ye eT 7; have aLQ := Ye eT 8; clear eT aHQ))
       go_ret
       exact ⟨Zl, Zd, Ze, Zg⟩
      rw [if_neg iD] at H
      have lJ : (iO.toList == ([104, 116, 116, 112] : List UInt8)) = false := beq_eq_false_iff_ne.mpr iD
      have oH : (iO.toList != ([104, 116, 116, 112] : List UInt8)) = true := bne_iff_ne.mpr iD
      by_cases pR : iO.toList = ([104, 116, 116, 112, 115] : List UInt8)
      rotate_left
      ·rw [if_neg pR] at H
       have tB : (iO.toList == ([104, 116, 116, 112, 115] : List UInt8)) = false := beq_eq_false_iff_ne.mpr pR
       have wC : (iO.toList != ([104, 116, 116, 112, 115] : List UInt8)) = true := bne_iff_ne.mpr pR
       simp only [Option.some.injEq, Prod.mk.injEq] at H
       obtain ⟨rfl, rfl, rfl, rfl, rfl, rfl, rfl, rfl, rfl, rfl⟩ := H
       go_wp2_with (first | ((with_reducible refine Yi (f := 52) rfl ?_); refine Yaa (some 55) rfl rfl Tryz.func52 Zi rfl #[.string cJ] rfl Zb ?_; (with_reducible refine (Yib.calls cJ iO _ ?side1 A21.out).mono ?_); (case side1 => first | exact HE.out | exact EnvOk.below HE.out Ze); rintro e w28 ⟨rfl, hb⟩; refine ⟨_, rfl, ?_⟩; have aH := Ya.mk (IsS53.below Zd hb); have aR := Ya.mk (KeepBut.trans Zg (KeepBut.of_below hb g none) (.inl rfl)); have bK := Ya.mk (Yt Ze hb); clear bZ; clear HK; clear HB; have bZ := aH; have HK := aR; have HB := bK; clear aH aR bK; (try clear hb); (try clear bU); (try clear hk); (try clear hi); obtain ⟨eU, aHR⟩ := bZ.out; have aLR := Ydc eU; have aLS := Yjc eU; have aLT := Ykc eU; have aLU := Ymc eU; have aLV := Ygc eU; have aLW := Yic eU; have aLX := Ycc eU; have aLY := Yhc eU; have aLZ := Yec eU; have aMa := Ye eU 0; have aMb := Ye eU 1; have aMc := Ye eU 2; have aMd := Ye eU 3; have aMe := Ye eU 4; have aMf := Ye eU 5; have aMg := Ye eU 6; have aMh := Ye eU 7; have aMi := Ye eU 8; clear eU aHR))
       go_ret
       exact ⟨Zl, Zd, Ze, Zg⟩
      rw [if_pos pR] at H
      have tB : (iO.toList == ([104, 116, 116, 112, 115] : List UInt8)) = true := beq_iff_eq.mpr pR
      have wC : (iO.toList != ([104, 116, 116, 112, 115] : List UInt8)) = false := bne_eq_false_iff_eq.mpr pR
      clear pR
      simp only [Option.some.injEq, Prod.mk.injEq] at H
      obtain ⟨rfl, rfl, rfl, rfl, rfl, rfl, rfl, rfl, rfl, rfl⟩ := H
      go_wp2_with (first | ((with_reducible refine Yi (f := 52) rfl ?_); refine Yaa (some 55) rfl rfl Tryz.func52 Zi rfl #[.string cJ] rfl Zb ?_; (with_reducible refine (Yib.calls cJ iO _ ?side1 A21.out).mono ?_); (case side1 => first | exact HE.out | exact EnvOk.below HE.out Ze); rintro e w26 ⟨rfl, hb⟩; refine ⟨_, rfl, ?_⟩; have aH := Ya.mk (IsS53.below Zd hb); have aR := Ya.mk (KeepBut.trans Zg (KeepBut.of_below hb g none) (.inl rfl)); have bK := Ya.mk (Yt Ze hb); clear bZ; clear HK; clear HB; have bZ := aH; have HK := aR; have HB := bK; clear aH aR bK; (try clear hb); (try clear bU); (try clear hk); (try clear hi); obtain ⟨eV, aHS⟩ := bZ.out; have wD := Ydc eV; have wE := Yjc eV; have wF := Ykc eV; have wG := Ymc eV; have wH := Ygc eV; have wI := Yic eV; have wJ := Ycc eV; have wK := Yhc eV; have aMj := Yec eV; have wL := Ye eV 0; have wM := Ye eV 1; have wN := Ye eV 2; have wO := Ye eV 3; have wP := Ye eV 4; have wQ := Ye eV 5; have wR := Ye eV 6; have wS := Ye eV 7; have aMk := Ye eV 8; clear eV aHS))
      go_ret
      exact ⟨Zl, Zd, Ze, Zg⟩
     rw [if_pos c11] at H
     have gR : decide (cD < (cJ.size : Int)) = true := decide_eq_true c11
     clear c11
     by_cases dD : 0 ≤ cD
     rotate_left
     ·rw [if_neg dD] at H
      exact absurd H Zv
     rw [if_pos dD] at H
     have dS : decide (0 ≤ cD) = true := decide_eq_true dD
     clear dD
     by_cases eL : cD < (cJ.size : Int)
     rotate_left
     ·rw [if_neg eL] at H
      exact absurd H Zv
     rw [if_pos eL] at H
     have hD : decide (cD < (cJ.size : Int)) = true := decide_eq_true eL
     clear eL
     replace H := Option.bind_eq_some_iff.mp H
     obtain ⟨aFC, tC, H⟩ := H
     try dsimp -simprocs only at H
     have A15 := Ya.mk tC
     clear tC
     by_cases eN : aFC = true
     ·subst eN
      rw [if_pos rfl] at H
      have H' := Ya.mk H
      clear H
      have iJ : 0 ≤ (cD : Int) := of_decide_eq_true Zc
      have iK : cD < (cJ.size : Int) := of_decide_eq_true Zc
      have kV := Yza cJ cD
      replace iJ := eq_true iJ
      replace iK := eq_true iK
      go_wp2_with (first | ((with_reducible refine Yi (f := 77) rfl ?_); refine Yaa (some 39) rfl rfl Tryz.func77 Zi rfl #[.int .u8 (bt cJ cD)] rfl Zb ?_; (with_reducible refine (Ywa.calls (bt cJ cD) true _ ?side1 A15.out).mono ?_); (case side1 => first | exact HE.out | exact EnvOk.below HE.out Ze); rintro e w' ⟨rfl, ⟨nd, rfl⟩⟩; refine ⟨_, rfl, ?_⟩))
      go_roundg k2
      case measure => have := pH.out; have := jT.out; omega
      case rel => exact ⟨(wrap64 (cD + 1)), Zf, H', ⟨Zva⟩, ⟨Zd⟩, ⟨Zg⟩, ⟨Ze⟩⟩
     replace eN := Bool.eq_false_iff.mpr eN
     subst eN
     rw [if_neg (show ¬ (false = true) by decide)] at H
     replace H := Option.bind_eq_some_iff.mp H
     obtain ⟨aFD, oI, H⟩ := H
     try dsimp -simprocs only at H
     have A17 := Ya.mk oI
     clear oI
     by_cases eO : aFD = true
     ·subst eO
      rw [if_pos rfl] at H
      have H' := Ya.mk H
      clear H
      have iJ : 0 ≤ (cD : Int) := of_decide_eq_true Zc
      have iK : cD < (cJ.size : Int) := of_decide_eq_true Zc
      have kV := Yza cJ cD
      replace iJ := eq_true iJ
      replace iK := eq_true iK
      go_wp2_with (first | ((with_reducible refine Yi (f := 77) rfl ?_); refine Yaa (some 39) rfl rfl Tryz.func77 Zi rfl #[.int .u8 (bt cJ cD)] rfl Zb ?_; (with_reducible refine (Ywa.calls (bt cJ cD) false _ ?side1 A15.out).mono ?_); (case side1 => first | exact HE.out | exact EnvOk.below HE.out Ze); rintro e w' ⟨rfl, ⟨nd, rfl⟩⟩; refine ⟨_, rfl, ?_⟩) | (go_at_call 78; (with_reducible refine (Yta.calls (bt cJ cD) true _ ?side1 A17.out).mono ?_); (case side1 => first | exact HE.out | exact EnvOk.below HE.out Ze); rintro e w' ⟨rfl, ⟨nd, rfl⟩⟩))
      go_roundg k2
      case measure => have := pH.out; have := jT.out; omega
      case rel => exact ⟨(wrap64 (cD + 1)), Zf, H', ⟨Zva⟩, ⟨Zd⟩, ⟨Zg⟩, ⟨Ze⟩⟩
     replace eO := Bool.eq_false_iff.mpr eO
     subst eO
     rw [if_neg (show ¬ (false = true) by decide)] at H
     replace H := Option.bind_eq_some_iff.mp H
     obtain ⟨uW, aHT, H⟩ := H
     try dsimp -simprocs only at H
     have A19 := Ya.mk aHT
     clear aHT
     by_cases gV : uW < 0
     ·rw [if_pos gV] at H
      have kA : decide (uW < 0) = true := decide_eq_true gV
      clear gV
      simp only [Option.some.injEq, Prod.mk.injEq] at H
      obtain ⟨rfl, rfl, rfl, rfl, rfl, rfl, rfl, rfl, rfl, rfl⟩ := H
      have iJ : 0 ≤ (cD : Int) := of_decide_eq_true Zc
      have iK : cD < (cJ.size : Int) := of_decide_eq_true Zc
      have kV := Yza cJ cD
      replace iJ := eq_true iJ
      replace iK := eq_true iK
      go_wp2_with (first | ((with_reducible refine Yi (f := 77) rfl ?_); refine Yaa (some 39) rfl rfl Tryz.func77 Zi rfl #[.int .u8 (bt cJ cD)] rfl Zb ?_; (with_reducible refine (Ywa.calls (bt cJ cD) false _ ?side1 A15.out).mono ?_); (case side1 => first | exact HE.out | exact EnvOk.below HE.out Ze); rintro e w' ⟨rfl, ⟨nd, rfl⟩⟩; refine ⟨_, rfl, ?_⟩) | (go_at_call 78; (with_reducible refine (Yta.calls (bt cJ cD) false _ ?side1 A17.out).mono ?_); (case side1 => first | exact HE.out | exact EnvOk.below HE.out Ze); rintro e w' ⟨rfl, ⟨nd, rfl⟩⟩) | (go_at_call 79; (with_reducible refine (strings_IndexByte.calls (⟨#[43, 45, 46]⟩ : ByteArray) (bt cJ cD) uW _ ?side1 A19.out).mono ?_); (case side1 => first | exact HE.out | exact EnvOk.below HE.out Ze); rintro e w' ⟨rfl, ⟨nd, rfl⟩⟩))
      go_ret
      exact ⟨Zl, Zd, Ze, Zg⟩
     rw [if_neg gV] at H
     have kA : decide (uW < 0) = false := decide_eq_false gV
     clear gV
     have H' := Ya.mk H
     clear H
     have iJ : 0 ≤ (cD : Int) := of_decide_eq_true Zc
     have iK : cD < (cJ.size : Int) := of_decide_eq_true Zc
     have kV := Yza cJ cD
     replace iJ := eq_true iJ
     replace iK := eq_true iK
     go_wp2_with (first | ((with_reducible refine Yi (f := 77) rfl ?_); refine Yaa (some 39) rfl rfl Tryz.func77 Zi rfl #[.int .u8 (bt cJ cD)] rfl Zb ?_; (with_reducible refine (Ywa.calls (bt cJ cD) false _ ?side1 A15.out).mono ?_); (case side1 => first | exact HE.out | exact EnvOk.below HE.out Ze); rintro e w' ⟨rfl, ⟨nd, rfl⟩⟩; refine ⟨_, rfl, ?_⟩) | (go_at_call 78; (with_reducible refine (Yta.calls (bt cJ cD) false _ ?side1 A17.out).mono ?_); (case side1 => first | exact HE.out | exact EnvOk.below HE.out Ze); rintro e w' ⟨rfl, ⟨nd, rfl⟩⟩) | (go_at_call 79; (with_reducible refine (strings_IndexByte.calls (⟨#[43, 45, 46]⟩ : ByteArray) (bt cJ cD) uW _ ?side1 A19.out).mono ?_); (case side1 => first | exact HE.out | exact EnvOk.below HE.out Ze); rintro e w' ⟨rfl, ⟨nd, rfl⟩⟩))
     go_roundg k2
     case measure => have := pH.out; have := jT.out; omega
     case rel => exact ⟨(wrap64 (cD + 1)), Zf, H', ⟨Zva⟩, ⟨Zd⟩, ⟨Zg⟩, ⟨Ze⟩⟩
def Yte.f (k : Nat) (a0 : ByteArray) : Option (ByteArray × Int) := (Ybe.f a0).bind fun kW => ((Yib.f kW).bind fun iE => (if iE.toList = ([] : List UInt8) then (some ((⟨#[]⟩ : ByteArray), 4)) else ((Ynb.f k iE).bind fun aBi => (if aBi = true then (some (iE, 0)) else (some ((⟨#[]⟩ : ByteArray), 17))))))
theorem Yte.calls (k : Nat) (a0 r1 : ByteArray) (r2 : Int) (w : World) (hE : EnvOk w) (h : Yte.f k a0 = some (r1, r2)) :
  Calls Tryz.prog 19 #[.string a0] w fun e w' => e = .returned (.tuple #[.string r1, .int .i64 r2]) ∧ Below w.heap.size w w' := by
 have HE := Ya.mk hE
 clear hE
 have HB := Ya.mk (Below.refl w.heap.size w)
 have H : ((Ybe.f a0).bind fun kW => ((Yib.f kW).bind fun iE => (if iE.toList = ([] : List UInt8) then (some ((⟨#[]⟩ : ByteArray), 4)) else ((Ynb.f k iE).bind fun aBi => (if aBi = true then (some (iE, 0)) else (some ((⟨#[]⟩ : ByteArray), 17))))))) = some (r1, r2) := h
 clear h
 replace H := Option.bind_eq_some_iff.mp H
 obtain ⟨kW, dV, H⟩ := H
 try dsimp -simprocs only at H
 have A2 := Ya.mk dV
 clear dV
 replace H := Option.bind_eq_some_iff.mp H
 obtain ⟨iE, iY, H⟩ := H
 try dsimp -simprocs only at H
 have A3 := Ya.mk iY
 clear iY
 by_cases c4 : iE.toList = ([] : List UInt8)
 ·rw [if_pos c4] at H
  have bX : (iE.toList == ([] : List UInt8)) = true := beq_iff_eq.mpr c4
  have jF : (iE.toList != ([] : List UInt8)) = false := bne_eq_false_iff_eq.mpr c4
  clear c4
  simp only [Option.some.injEq, Prod.mk.injEq] at H
  obtain ⟨rfl, rfl⟩ := H
  go_enter Tryz.func19, Tryz.ntmps19
  go_wp2_with (first | ((with_reducible refine Yi (f := 53) rfl ?_); refine Yaa (some 5) rfl rfl Tryz.func53 Zi rfl #[.string a0] rfl Zb ?_; (with_reducible refine (Ybe.calls a0 kW _ ?side1 A2.out).mono ?_); (case side1 => first | exact HE.out | exact EnvOk.below HE.out Za); rintro e w5 ⟨rfl, hb⟩; refine ⟨_, rfl, ?_⟩; have aH := Ya.mk (Yt Za hb); clear HB; have HB := aH; clear aH; (try clear hb); (try clear bU); (try clear hk); (try clear hi)) | ((with_reducible refine Yi (f := 52) rfl ?_); refine Yaa (some 6) rfl rfl Tryz.func52 Zi rfl #[.string kW] rfl Zb ?_; (with_reducible refine (Yib.calls kW iE _ ?side1 A3.out).mono ?_); (case side1 => first | exact HE.out | exact EnvOk.below HE.out Za); rintro e w6 ⟨rfl, hb⟩; refine ⟨_, rfl, ?_⟩; have aH := Ya.mk (Yt Za hb); clear HB; have HB := aH; clear aH; (try clear hb); (try clear bU); (try clear hk); (try clear hi)))
  go_ret2
  exact ⟨Zl, Za⟩
 rw [if_neg c4] at H
 have bX : (iE.toList == ([] : List UInt8)) = false := beq_eq_false_iff_ne.mpr c4
 have jF : (iE.toList != ([] : List UInt8)) = true := bne_iff_ne.mpr c4
 replace H := Option.bind_eq_some_iff.mp H
 obtain ⟨aBi, nU, H⟩ := H
 try dsimp -simprocs only at H
 have A7 := Ya.mk nU
 clear nU
 by_cases c8 : aBi = true
 ·subst c8
  rw [if_pos rfl] at H
  simp only [Option.some.injEq, Prod.mk.injEq] at H
  obtain ⟨rfl, rfl⟩ := H
  go_enter Tryz.func19, Tryz.ntmps19
  go_wp2_with (first | ((with_reducible refine Yi (f := 53) rfl ?_); refine Yaa (some 5) rfl rfl Tryz.func53 Zi rfl #[.string a0] rfl Zb ?_; (with_reducible refine (Ybe.calls a0 kW _ ?side1 A2.out).mono ?_); (case side1 => first | exact HE.out | exact EnvOk.below HE.out Za); rintro e w9 ⟨rfl, hb⟩; refine ⟨_, rfl, ?_⟩; have aH := Ya.mk (Yt Za hb); clear HB; have HB := aH; clear aH; (try clear hb); (try clear bU); (try clear hk); (try clear hi)) | ((with_reducible refine Yi (f := 52) rfl ?_); refine Yaa (some 6) rfl rfl Tryz.func52 Zi rfl #[.string kW] rfl Zb ?_; (with_reducible refine (Yib.calls kW iE _ ?side1 A3.out).mono ?_); (case side1 => first | exact HE.out | exact EnvOk.below HE.out Za); rintro e pJ ⟨rfl, hb⟩; refine ⟨_, rfl, ?_⟩; have aH := Ya.mk (Yt Za hb); clear HB; have HB := aH; clear aH; (try clear hb); (try clear bU); (try clear hk); (try clear hi)) | ((with_reducible refine Yi (f := 54) rfl ?_); refine Yaa (some 12) rfl rfl Tryz.func54 Zi rfl #[.string iE] rfl Zb ?_; (with_reducible refine (Ynb.calls k iE true _ ?side1 A7.out).mono ?_); (case side1 => first | exact HE.out | exact EnvOk.below HE.out Za); rintro e w11 ⟨rfl, hb⟩; refine ⟨_, rfl, ?_⟩; have aH := Ya.mk (Yt Za hb); clear HB; have HB := aH; clear aH; (try clear hb); (try clear bU); (try clear hk); (try clear hi)))
  go_ret2
  exact ⟨Zl, Za⟩
 replace c8 := Bool.eq_false_iff.mpr c8
 subst c8
 rw [if_neg (show ¬ (false = true) by decide)] at H
 simp only [Option.some.injEq, Prod.mk.injEq] at H
 obtain ⟨rfl, rfl⟩ := H
 go_enter Tryz.func19, Tryz.ntmps19
 go_wp2_with (first | ((with_reducible refine Yi (f := 53) rfl ?_); refine Yaa (some 5) rfl rfl Tryz.func53 Zi rfl #[.string a0] rfl Zb ?_; (with_reducible refine (Ybe.calls a0 kW _ ?side1 A2.out).mono ?_); (case side1 => first | exact HE.out | exact EnvOk.below HE.out Za); rintro e uN ⟨rfl, hb⟩; refine ⟨_, rfl, ?_⟩; have aH := Ya.mk (Yt Za hb); clear HB; have HB := aH; clear aH; (try clear hb); (try clear bU); (try clear hk); (try clear hi)) | ((with_reducible refine Yi (f := 52) rfl ?_); refine Yaa (some 6) rfl rfl Tryz.func52 Zi rfl #[.string kW] rfl Zb ?_; (with_reducible refine (Yib.calls kW iE _ ?side1 A3.out).mono ?_); (case side1 => first | exact HE.out | exact EnvOk.below HE.out Za); rintro e nB ⟨rfl, hb⟩; refine ⟨_, rfl, ?_⟩; have aH := Ya.mk (Yt Za hb); clear HB; have HB := aH; clear aH; (try clear hb); (try clear bU); (try clear hk); (try clear hi)) | ((with_reducible refine Yi (f := 54) rfl ?_); refine Yaa (some 12) rfl rfl Tryz.func54 Zi rfl #[.string iE] rfl Zb ?_; (with_reducible refine (Ynb.calls k iE false _ ?side1 A7.out).mono ?_); (case side1 => first | exact HE.out | exact EnvOk.below HE.out Za); rintro e w14 ⟨rfl, hb⟩; refine ⟨_, rfl, ?_⟩; have aH := Ya.mk (Yt Za hb); clear HB; have HB := aH; clear aH; (try clear hb); (try clear bU); (try clear hk); (try clear hi)))
 go_ret2
 exact ⟨Zl, Za⟩
def Ygf.f (k : Nat) (cI fY fZ : ByteArray) (gA : Int) (gB gC gD : ByteArray) (gE gF : Bool) : Option (Int × ByteArray × ByteArray × ByteArray × Int × ByteArray × ByteArray × ByteArray × Bool × Bool) := (strings_IndexAny.f cI (⟨#[47, 92]⟩ : ByteArray)).bind fun jH => (if jH = 0 then ((Ync.f cI (⟨#[47, 92]⟩ : ByteArray)).bind fun jI => ((Yfc.f jI fY fZ gA gB gC gD gE gF (⟨#[47, 92, 63, 35]⟩ : ByteArray)).bind fun aZ => ((strings_IndexByte.f aZ.1 64).bind fun kX => (if kX ≥ 0 then (some (3, aZ.2.1, aZ.2.2.1, aZ.2.2.2.1, aZ.2.2.2.2.1, aZ.2.2.2.2.2.1, aZ.2.2.2.2.2.2.1, aZ.2.2.2.2.2.2.2.1, aZ.2.2.2.2.2.2.2.2.1, aZ.2.2.2.2.2.2.2.2.2)) else ((strings_Cut.f aZ.1 (⟨#[58]⟩ : ByteArray)).bind fun oJ => ((Yte.f k oJ.1).bind fun iF => (if iF.2 = 0 then (if oJ.2.1.toList = ([] : List UInt8) then (some (0, aZ.2.1, aZ.2.2.1, iF.1, aZ.2.2.2.2.1, aZ.2.2.2.2.2.1, aZ.2.2.2.2.2.2.1, aZ.2.2.2.2.2.2.2.1, aZ.2.2.2.2.2.2.2.2.1, aZ.2.2.2.2.2.2.2.2.2)) else ((Yja.f k oJ.2.1 65535).bind fun oK => (if oK.2 = 0 then ((Yzf.f aZ.2.2.1).bind fun oL => (if oK.1 = oL then (some (0, aZ.2.1, aZ.2.2.1, iF.1, aZ.2.2.2.2.1, aZ.2.2.2.2.2.1, aZ.2.2.2.2.2.2.1, aZ.2.2.2.2.2.2.2.1, aZ.2.2.2.2.2.2.2.2.1, aZ.2.2.2.2.2.2.2.2.2)) else (some (0, aZ.2.1, aZ.2.2.1, iF.1, oK.1, aZ.2.2.2.2.2.1, aZ.2.2.2.2.2.2.1, aZ.2.2.2.2.2.2.2.1, aZ.2.2.2.2.2.2.2.2.1, aZ.2.2.2.2.2.2.2.2.2)))) else (some (3, aZ.2.1, aZ.2.2.1, iF.1, aZ.2.2.2.2.1, aZ.2.2.2.2.2.1, aZ.2.2.2.2.2.2.1, aZ.2.2.2.2.2.2.2.1, aZ.2.2.2.2.2.2.2.2.1, aZ.2.2.2.2.2.2.2.2.2))))) else (some (iF.2, aZ.2.1, aZ.2.2.1, aZ.2.2.2.1, aZ.2.2.2.2.1, aZ.2.2.2.2.2.1, aZ.2.2.2.2.2.2.1, aZ.2.2.2.2.2.2.2.1, aZ.2.2.2.2.2.2.2.2.1, aZ.2.2.2.2.2.2.2.2.2))))))))) else (some (3, cI, fY, fZ, gA, gB, gC, gD, gE, gF)))
theorem Ygf.calls (k g : Nat) (cI fY fZ : ByteArray) (gA : Int) (gB gC gD : ByteArray) (gE gF : Bool) (r1 : Int) (r2 r3 r4 : ByteArray) (r5 : Int) (r6 r7 r8 : ByteArray) (r9 uQ : Bool) (w0 w : World) (hE : EnvOk w0) (hI : IsS53 w0 w g cI fY fZ gA gB gC gD gE gF) (hB : Below w0.heap.size w0 w) (h : Ygf.f k cI fY fZ gA gB gC gD gE gF = some (r1, r2, r3, r4, r5, r6, r7, r8, r9, uQ)) :
  Calls Tryz.prog 44 #[.pointer (some ⟨g, 0, none⟩)] w fun e w' => e = .returned (.int .i64 r1) ∧ IsS53 w0 w' g r2 r3 r4 r5 r6 r7 r8 r9 uQ ∧ Below w0.heap.size w0 w' ∧ KeepBut w w' g none := by
 have bZ := Ya.mk hI
 have HK := Ya.mk (KeepBut.refl w g none)
 have HL := Ya.mk hB.size
 clear hI
 have HE := Ya.mk hE
 clear hE
 have HW0 := Ya.mk hB.size
 have HB := Ya.mk hB
 clear hB
 have H : ((strings_IndexAny.f cI (⟨#[47, 92]⟩ : ByteArray)).bind fun jH => (if jH = 0 then ((Ync.f cI (⟨#[47, 92]⟩ : ByteArray)).bind fun jI => ((Yfc.f jI fY fZ gA gB gC gD gE gF (⟨#[47, 92, 63, 35]⟩ : ByteArray)).bind fun aZ => ((strings_IndexByte.f aZ.1 64).bind fun kX => (if kX ≥ 0 then (some (3, aZ.2.1, aZ.2.2.1, aZ.2.2.2.1, aZ.2.2.2.2.1, aZ.2.2.2.2.2.1, aZ.2.2.2.2.2.2.1, aZ.2.2.2.2.2.2.2.1, aZ.2.2.2.2.2.2.2.2.1, aZ.2.2.2.2.2.2.2.2.2)) else ((strings_Cut.f aZ.1 (⟨#[58]⟩ : ByteArray)).bind fun oJ => ((Yte.f k oJ.1).bind fun iF => (if iF.2 = 0 then (if oJ.2.1.toList = ([] : List UInt8) then (some (0, aZ.2.1, aZ.2.2.1, iF.1, aZ.2.2.2.2.1, aZ.2.2.2.2.2.1, aZ.2.2.2.2.2.2.1, aZ.2.2.2.2.2.2.2.1, aZ.2.2.2.2.2.2.2.2.1, aZ.2.2.2.2.2.2.2.2.2)) else ((Yja.f k oJ.2.1 65535).bind fun oK => (if oK.2 = 0 then ((Yzf.f aZ.2.2.1).bind fun oL => (if oK.1 = oL then (some (0, aZ.2.1, aZ.2.2.1, iF.1, aZ.2.2.2.2.1, aZ.2.2.2.2.2.1, aZ.2.2.2.2.2.2.1, aZ.2.2.2.2.2.2.2.1, aZ.2.2.2.2.2.2.2.2.1, aZ.2.2.2.2.2.2.2.2.2)) else (some (0, aZ.2.1, aZ.2.2.1, iF.1, oK.1, aZ.2.2.2.2.2.1, aZ.2.2.2.2.2.2.1, aZ.2.2.2.2.2.2.2.1, aZ.2.2.2.2.2.2.2.2.1, aZ.2.2.2.2.2.2.2.2.2)))) else (some (3, aZ.2.1, aZ.2.2.1, iF.1, aZ.2.2.2.2.1, aZ.2.2.2.2.2.1, aZ.2.2.2.2.2.2.1, aZ.2.2.2.2.2.2.2.1, aZ.2.2.2.2.2.2.2.2.1, aZ.2.2.2.2.2.2.2.2.2))))) else (some (iF.2, aZ.2.1, aZ.2.2.1, aZ.2.2.2.1, aZ.2.2.2.2.1, aZ.2.2.2.2.2.1, aZ.2.2.2.2.2.2.1, aZ.2.2.2.2.2.2.2.1, aZ.2.2.2.2.2.2.2.2.1, aZ.2.2.2.2.2.2.2.2.2))))))))) else (some (3, cI, fY, fZ, gA, gB, gC, gD, gE, gF)))) = some (r1, r2, r3, r4, r5, r6, r7, r8, r9, uQ) := h
 clear h
 replace H := Option.bind_eq_some_iff.mp H
 obtain ⟨jH, dV, H⟩ := H
 try dsimp -simprocs only at H
 have A2 := Ya.mk dV
 clear dV
 by_cases c3 : jH = 0
 rotate_left
 ·rw [if_neg c3] at H
  have cB : (jH == 0) = false := beq_eq_false_iff_ne.mpr c3
  have fV : (jH != 0) = true := bne_iff_ne.mpr c3
  simp only [Option.some.injEq, Prod.mk.injEq] at H
  obtain ⟨rfl, rfl, rfl, rfl, rfl, rfl, rfl, rfl, rfl, rfl⟩ := H
  obtain ⟨eW, aHU⟩ := bZ.out
  have aMl := Ydc eW
  have aMm := Yjc eW
  have aMn := Ykc eW
  have aMo := Ymc eW
  have aMp := Ygc eW
  have aMq := Yic eW
  have aMr := Ycc eW
  have aMs := Yhc eW
  have aMt := Yec eW
  have aMu := Ye eW 0
  have aMv := Ye eW 1
  have aMw := Ye eW 2
  have aMx := Ye eW 3
  have aMy := Ye eW 4
  have aMz := Ye eW 5
  have aMA := Ye eW 6
  have aMB := Ye eW 7
  have aMC := Ye eW 8
  clear eW aHU
  go_enter Tryz.func44, Tryz.ntmps44
  go_wp2_with (first | ((with_reducible refine Yi (f := 80) rfl ?_); refine Yaa (some 15) rfl rfl Tryz.func80 Zi rfl #[.string cI, .string (⟨#[47, 92]⟩ : ByteArray)] rfl Zb ?_; (with_reducible refine (strings_IndexAny.calls cI (⟨#[47, 92]⟩ : ByteArray) jH _ ?side1 A2.out).mono ?_); (case side1 => first | exact HE.out | exact EnvOk.below HE.out Ze); rintro e w62 ⟨rfl, hb⟩; refine ⟨_, rfl, ?_⟩; have aH := Ya.mk (IsS53.below Zd hb); have aR := Ya.mk (KeepBut.trans Zg (KeepBut.of_below hb g none) (.inl rfl)); have bK := Ya.mk (Yt Ze hb); clear bZ; clear HK; clear HB; have bZ := aH; have HK := aR; have HB := bK; clear aH aR bK; (try clear hb); (try clear bU); (try clear hk); (try clear hi)))
  go_ret
  exact ⟨Zl, Zd, Ze, Zg⟩
 rw [if_pos c3] at H
 have cB : (jH == 0) = true := beq_iff_eq.mpr c3
 have fV : (jH != 0) = false := bne_eq_false_iff_eq.mpr c3
 clear c3
 replace H := Option.bind_eq_some_iff.mp H
 obtain ⟨jI, sU, H⟩ := H
 try dsimp -simprocs only at H
 have A4 := Ya.mk sU
 clear sU
 replace H := Option.bind_eq_some_iff.mp H
 obtain ⟨⟨fW, kD, iV, kE, kF, kG, kH, kJ, kK, kM⟩, tD, H⟩ := H
 try dsimp -simprocs only at H
 have A5 := Ya.mk tD
 clear tD
 replace H := Option.bind_eq_some_iff.mp H
 obtain ⟨kX, pM, H⟩ := H
 try dsimp -simprocs only at H
 have A6 := Ya.mk pM
 clear pM
 by_cases c7 : kX ≥ 0
 ·rw [if_pos c7] at H
  have cQ : decide (0 ≤ kX) = true := decide_eq_true c7
  clear c7
  simp only [Option.some.injEq, Prod.mk.injEq] at H
  obtain ⟨rfl, rfl, rfl, rfl, rfl, rfl, rfl, rfl, rfl, rfl⟩ := H
  obtain ⟨iQ, aUU⟩ := bZ.out
  have aUV := Ydc iQ
  have aUW := Yjc iQ
  have aUX := Ykc iQ
  have aUY := Ymc iQ
  have aUZ := Ygc iQ
  have aVa := Yic iQ
  have aVb := Ycc iQ
  have aVc := Yhc iQ
  have aVd := Yec iQ
  have aVe := Ye iQ 0
  have aVf := Ye iQ 1
  have aVg := Ye iQ 2
  have aVh := Ye iQ 3
  have aVi := Ye iQ 4
  have aVj := Ye iQ 5
  have aVk := Ye iQ 6
  have aVl := Ye iQ 7
  have aVm := Ye iQ 8
  clear iQ aUU
  go_enter Tryz.func44, Tryz.ntmps44
  go_wp2_with (first | ((with_reducible refine Yi (f := 80) rfl ?_); refine Yaa (some 15) rfl rfl Tryz.func80 Zi rfl #[.string cI, .string (⟨#[47, 92]⟩ : ByteArray)] rfl Zb ?_; (with_reducible refine (strings_IndexAny.calls cI (⟨#[47, 92]⟩ : ByteArray) jH _ ?side1 A2.out).mono ?_); (case side1 => first | exact HE.out | exact EnvOk.below HE.out Ze); rintro e w9 ⟨rfl, hb⟩; refine ⟨_, rfl, ?_⟩; have aH := Ya.mk (IsS53.below Zd hb); have aR := Ya.mk (KeepBut.trans Zg (KeepBut.of_below hb g none) (.inl rfl)); have bK := Ya.mk (Yt Ze hb); clear bZ; clear HK; clear HB; have bZ := aH; have HK := aR; have HB := bK; clear aH aR bK; (try clear hb); (try clear bU); (try clear hk); (try clear hi); obtain ⟨eX, aHV⟩ := bZ.out; have aMD := Ydc eX; have aME := Yjc eX; have aMF := Ykc eX; have aMG := Ymc eX; have aMH := Ygc eX; have aMI := Yic eX; have aMJ := Ycc eX; have aMK := Yhc eX; have aML := Yec eX; have aMM := Ye eX 0; have aMN := Ye eX 1; have aMO := Ye eX 2; have aMP := Ye eX 3; have aMQ := Ye eX 4; have aMR := Ye eX 5; have aMS := Ye eX 6; have aMT := Ye eX 7; have aMU := Ye eX 8; clear eX aHV) | ((with_reducible refine Yi (f := 81) rfl ?_); refine Yaa (some 23) rfl rfl Tryz.func81 Zi rfl #[.string cI, .string (⟨#[47, 92]⟩ : ByteArray)] rfl Zb ?_; (with_reducible refine (Ync.calls cI (⟨#[47, 92]⟩ : ByteArray) jI _ ?side1 A4.out).mono ?_); (case side1 => first | exact HE.out | exact EnvOk.below HE.out Ze); rintro e w11 ⟨rfl, hb⟩; refine ⟨_, rfl, ?_⟩; have aH := Ya.mk (IsS53.below Zd hb); have aR := Ya.mk (KeepBut.trans Zg (KeepBut.of_below hb g none) (.inl rfl)); have bK := Ya.mk (Yt Ze hb); clear bZ; clear HK; clear HB; have bZ := aH; have HK := aR; have HB := bK; clear aH aR bK; (try clear hb); (try clear bU); (try clear hk); (try clear hi); obtain ⟨eY, aHW⟩ := bZ.out; have wT := Ydc eY; have wU := Yjc eY; have wV := Ykc eY; have wW := Ymc eY; have wX := Ygc eY; have wY := Yic eY; have wZ := Ycc eY; have xA := Yhc eY; have aMV := Yec eY; have xB := Ye eY 0; have xC := Ye eY 1; have xD := Ye eY 2; have xE := Ye eY 3; have xF := Ye eY 4; have xG := Ye eY 5; have xH := Ye eY 6; have xI := Ye eY 7; have aMW := Ye eY 8; clear eY aHW) | ((with_reducible refine Yi (f := 82) rfl ?_); refine Yaa (some 30) rfl rfl Tryz.func82 Zi rfl #[.pointer (some ⟨g, 0, none⟩), .string (⟨#[47, 92, 63, 35]⟩ : ByteArray)] rfl Zb ?_; (with_reducible refine (Yfc.calls g jI fY fZ gA gB gC gD gE gF (⟨#[47, 92, 63, 35]⟩ : ByteArray) fW kD iV kE kF kG kH kJ kK kM w0 _ ?side1 ?side2 ?side3 A5.out).mono ?_); (case side1 => exact HE.out); (case side2 => repeat (first | (with_reducible first | exact bZ.out | apply IsS53.alloc | apply IsS53.drewN | apply IsS53.drew | apply IsS53.set_0 | apply IsS53.set_1 | apply IsS53.set_2 | apply IsS53.set_3 | apply IsS53.set_4 | apply IsS53.set_5 | apply IsS53.set_6 | apply IsS53.set_7 | apply IsS53.set_8) | exact bZ.out)); (case side3 => repeat (first | (with_reducible first | exact HB.out | apply Yd | apply Yb | apply Yc | refine Yg ?_ (IsS53.ge bZ.out)) | exact HB.out)); rintro e nB ⟨rfl, hi, hb, hk⟩; refine ⟨_, rfl, ?_⟩; have aH := Ya.mk (KeepBut.trans Zg hk (.inl rfl)); have aR := Ya.mk (hb); have bK := Ya.mk (hi); clear HK; clear HB; clear bZ; have HK := aH; have HB := aR; have bZ := bK; clear aH aR bK; (try clear hb); (try clear bU); (try clear hk); (try clear hi)) | ((with_reducible refine Yi (f := 79) rfl ?_); refine Yaa (some 32) rfl rfl Tryz.func79 Zi rfl #[.string fW, .int .u8 64] rfl Zb ?_; (with_reducible refine (strings_IndexByte.calls fW 64 kX _ ?side1 A6.out).mono ?_); (case side1 => first | exact HE.out | exact EnvOk.below HE.out Ze); rintro e w' ⟨rfl, ⟨nd, rfl⟩⟩; refine ⟨_, rfl, ?_⟩))
  go_ret
  exact ⟨Zl, Zd, Ze, Zg⟩
 rw [if_neg c7] at H
 have cQ : decide (0 ≤ kX) = false := decide_eq_false c7
 clear c7
 replace H := Option.bind_eq_some_iff.mp H
 obtain ⟨⟨jW, jJ, aBj⟩, aBk, H⟩ := H
 try dsimp -simprocs only at H
 have A14 := Ya.mk aBk
 clear aBk
 replace H := Option.bind_eq_some_iff.mp H
 obtain ⟨⟨aBl, oX⟩, tC, H⟩ := H
 try dsimp -simprocs only at H
 have A15 := Ya.mk tC
 clear tC
 by_cases eN : oX = 0
 rotate_left
 ·rw [if_neg eN] at H
  have gZ : (oX == 0) = false := beq_eq_false_iff_ne.mpr eN
  have kC : (oX != 0) = true := bne_iff_ne.mpr eN
  simp only [Option.some.injEq, Prod.mk.injEq] at H
  obtain ⟨rfl, rfl, rfl, rfl, rfl, rfl, rfl, rfl, rfl, rfl⟩ := H
  obtain ⟨eZ, aHX⟩ := bZ.out
  have aMX := Ydc eZ
  have aMY := Yjc eZ
  have aMZ := Ykc eZ
  have aNa := Ymc eZ
  have aNb := Ygc eZ
  have aNc := Yic eZ
  have aNd := Ycc eZ
  have aNe := Yhc eZ
  have aNf := Yec eZ
  have aNg := Ye eZ 0
  have aNh := Ye eZ 1
  have aNi := Ye eZ 2
  have aNj := Ye eZ 3
  have aNk := Ye eZ 4
  have aNl := Ye eZ 5
  have aNm := Ye eZ 6
  have aNn := Ye eZ 7
  have aNo := Ye eZ 8
  clear eZ aHX
  go_enter Tryz.func44, Tryz.ntmps44
  go_wp2_with (first | ((with_reducible refine Yi (f := 80) rfl ?_); refine Yaa (some 15) rfl rfl Tryz.func80 Zi rfl #[.string cI, .string (⟨#[47, 92]⟩ : ByteArray)] rfl Zb ?_; (with_reducible refine (strings_IndexAny.calls cI (⟨#[47, 92]⟩ : ByteArray) jH _ ?side1 A2.out).mono ?_); (case side1 => first | exact HE.out | exact EnvOk.below HE.out Ze); rintro e w55 ⟨rfl, hb⟩; refine ⟨_, rfl, ?_⟩; have aH := Ya.mk (IsS53.below Zd hb); have aR := Ya.mk (KeepBut.trans Zg (KeepBut.of_below hb g none) (.inl rfl)); have bK := Ya.mk (Yt Ze hb); clear bZ; clear HK; clear HB; have bZ := aH; have HK := aR; have HB := bK; clear aH aR bK; (try clear hb); (try clear bU); (try clear hk); (try clear hi); obtain ⟨fA, aHY⟩ := bZ.out; have aNp := Ydc fA; have aNq := Yjc fA; have aNr := Ykc fA; have aNs := Ymc fA; have aNt := Ygc fA; have aNu := Yic fA; have aNv := Ycc fA; have aNw := Yhc fA; have aNx := Yec fA; have aNy := Ye fA 0; have aNz := Ye fA 1; have aNA := Ye fA 2; have aNB := Ye fA 3; have aNC := Ye fA 4; have aND := Ye fA 5; have aNE := Ye fA 6; have aNF := Ye fA 7; have aNG := Ye fA 8; clear fA aHY) | ((with_reducible refine Yi (f := 81) rfl ?_); refine Yaa (some 23) rfl rfl Tryz.func81 Zi rfl #[.string cI, .string (⟨#[47, 92]⟩ : ByteArray)] rfl Zb ?_; (with_reducible refine (Ync.calls cI (⟨#[47, 92]⟩ : ByteArray) jI _ ?side1 A4.out).mono ?_); (case side1 => first | exact HE.out | exact EnvOk.below HE.out Ze); rintro e w57 ⟨rfl, hb⟩; refine ⟨_, rfl, ?_⟩; have aH := Ya.mk (IsS53.below Zd hb); have aR := Ya.mk (KeepBut.trans Zg (KeepBut.of_below hb g none) (.inl rfl)); have bK := Ya.mk (Yt Ze hb); clear bZ; clear HK; clear HB; have bZ := aH; have HK := aR; have HB := bK; clear aH aR bK; (try clear hb); (try clear bU); (try clear hk); (try clear hi); obtain ⟨fB, aHZ⟩ := bZ.out; have aNH := Ydc fB; have aNI := Yjc fB; have aNJ := Ykc fB; have aNK := Ymc fB; have aNL := Ygc fB; have aNM := Yic fB; have aNN := Ycc fB; have aNO := Yhc fB; have aNP := Yec fB; have aNQ := Ye fB 0; have aNR := Ye fB 1; have aNS := Ye fB 2; have aNT := Ye fB 3; have aNU := Ye fB 4; have aNV := Ye fB 5; have aNW := Ye fB 6; have aNX := Ye fB 7; have aNY := Ye fB 8; clear fB aHZ) | ((with_reducible refine Yi (f := 82) rfl ?_); refine Yaa (some 30) rfl rfl Tryz.func82 Zi rfl #[.pointer (some ⟨g, 0, none⟩), .string (⟨#[47, 92, 63, 35]⟩ : ByteArray)] rfl Zb ?_; (with_reducible refine (Yfc.calls g jI fY fZ gA gB gC gD gE gF (⟨#[47, 92, 63, 35]⟩ : ByteArray) fW kD iV kE kF kG kH kJ kK kM w0 _ ?side1 ?side2 ?side3 A5.out).mono ?_); (case side1 => exact HE.out); (case side2 => repeat (first | (with_reducible first | exact bZ.out | apply IsS53.alloc | apply IsS53.drewN | apply IsS53.drew | apply IsS53.set_0 | apply IsS53.set_1 | apply IsS53.set_2 | apply IsS53.set_3 | apply IsS53.set_4 | apply IsS53.set_5 | apply IsS53.set_6 | apply IsS53.set_7 | apply IsS53.set_8) | exact bZ.out)); (case side3 => repeat (first | (with_reducible first | exact HB.out | apply Yd | apply Yb | apply Yc | refine Yg ?_ (IsS53.ge bZ.out)) | exact HB.out)); rintro e w59 ⟨rfl, hi, hb, hk⟩; refine ⟨_, rfl, ?_⟩; have aH := Ya.mk (KeepBut.trans Zg hk (.inl rfl)); have aR := Ya.mk (hb); have bK := Ya.mk (hi); clear HK; clear HB; clear bZ; have HK := aH; have HB := aR; have bZ := bK; clear aH aR bK; (try clear hb); (try clear bU); (try clear hk); (try clear hi)) | ((with_reducible refine Yi (f := 79) rfl ?_); refine Yaa (some 32) rfl rfl Tryz.func79 Zi rfl #[.string fW, .int .u8 64] rfl Zb ?_; (with_reducible refine (strings_IndexByte.calls fW 64 kX _ ?side1 A6.out).mono ?_); (case side1 => first | exact HE.out | exact EnvOk.below HE.out Ze); rintro e w' ⟨rfl, ⟨nd, rfl⟩⟩; refine ⟨_, rfl, ?_⟩) | ((with_reducible refine Yi (f := 76) rfl ?_); refine Yaa (some 36) rfl rfl Tryz.func76 Zi rfl #[.string fW, .string (⟨#[58]⟩ : ByteArray)] rfl Zb ?_; (with_reducible refine (strings_Cut.calls fW (⟨#[58]⟩ : ByteArray) jW jJ aBj _ ?side1 A14.out).mono ?_); (case side1 => first | exact HE.out | exact EnvOk.below HE.out Ze); rintro e w' ⟨rfl, ⟨nd, rfl⟩⟩; refine ⟨_, rfl, ?_⟩) | ((with_reducible refine Yi (f := 19) rfl ?_); refine Yaa (some 42) rfl rfl Tryz.func19 Zi rfl #[.string jW] rfl Zb ?_; (with_reducible refine (Yte.calls k jW aBl oX _ ?side1 A15.out).mono ?_); (case side1 => first | exact HE.out | exact EnvOk.below HE.out Ze); rintro e w60 ⟨rfl, hb⟩; refine ⟨_, rfl, ?_⟩; have aH := Ya.mk (IsS53.below Zd hb); have aR := Ya.mk (KeepBut.trans Zg (KeepBut.of_below hb g none) (.inl rfl)); have bK := Ya.mk (Yt Ze hb); clear bZ; clear HK; clear HB; have bZ := aH; have HK := aR; have HB := bK; clear aH aR bK; (try clear hb); (try clear bU); (try clear hk); (try clear hi)))
  go_ret
  exact ⟨Zl, Zd, Ze, Zg⟩
 rw [if_pos eN] at H
 have gZ : (oX == 0) = true := beq_iff_eq.mpr eN
 have kC : (oX != 0) = false := bne_eq_false_iff_eq.mpr eN
 clear eN
 by_cases eF : jJ.toList = ([] : List UInt8)
 ·rw [if_pos eF] at H
  have jK : (jJ.toList == ([] : List UInt8)) = true := beq_iff_eq.mpr eF
  have lI : (jJ.toList != ([] : List UInt8)) = false := bne_eq_false_iff_eq.mpr eF
  clear eF
  simp only [Option.some.injEq, Prod.mk.injEq] at H
  obtain ⟨rfl, rfl, rfl, rfl, rfl, rfl, rfl, rfl, rfl, rfl⟩ := H
  obtain ⟨fC, aIa⟩ := bZ.out
  have aNZ := Ydc fC
  have aOa := Yjc fC
  have aOb := Ykc fC
  have aOc := Ymc fC
  have aOd := Ygc fC
  have aOe := Yic fC
  have aOf := Ycc fC
  have aOg := Yhc fC
  have aOh := Yec fC
  have aOi := Ye fC 0
  have aOj := Ye fC 1
  have aOk := Ye fC 2
  have aOl := Ye fC 3
  have aOm := Ye fC 4
  have aOn := Ye fC 5
  have aOo := Ye fC 6
  have aOp := Ye fC 7
  have aOq := Ye fC 8
  clear fC aIa
  go_enter Tryz.func44, Tryz.ntmps44
  go_wp2_with (first | ((with_reducible refine Yi (f := 80) rfl ?_); refine Yaa (some 15) rfl rfl Tryz.func80 Zi rfl #[.string cI, .string (⟨#[47, 92]⟩ : ByteArray)] rfl Zb ?_; (with_reducible refine (strings_IndexAny.calls cI (⟨#[47, 92]⟩ : ByteArray) jH _ ?side1 A2.out).mono ?_); (case side1 => first | exact HE.out | exact EnvOk.below HE.out Ze); rintro e w19 ⟨rfl, hb⟩; refine ⟨_, rfl, ?_⟩; have aH := Ya.mk (IsS53.below Zd hb); have aR := Ya.mk (KeepBut.trans Zg (KeepBut.of_below hb g none) (.inl rfl)); have bK := Ya.mk (Yt Ze hb); clear bZ; clear HK; clear HB; have bZ := aH; have HK := aR; have HB := bK; clear aH aR bK; (try clear hb); (try clear bU); (try clear hk); (try clear hi); obtain ⟨fD, aIb⟩ := bZ.out; have aDp := Ydc fD; have aDq := Yjc fD; have aDr := Ykc fD; have aDs := Ymc fD; have aDt := Ygc fD; have aDu := Yic fD; have aDv := Ycc fD; have aDw := Yhc fD; have aOr := Yec fD; have aDx := Ye fD 0; have aDy := Ye fD 1; have aDz := Ye fD 2; have aDA := Ye fD 3; have aDB := Ye fD 4; have aDC := Ye fD 5; have aDD := Ye fD 6; have aDE := Ye fD 7; have aOs := Ye fD 8; clear fD aIb) | ((with_reducible refine Yi (f := 81) rfl ?_); refine Yaa (some 23) rfl rfl Tryz.func81 Zi rfl #[.string cI, .string (⟨#[47, 92]⟩ : ByteArray)] rfl Zb ?_; (with_reducible refine (Ync.calls cI (⟨#[47, 92]⟩ : ByteArray) jI _ ?side1 A4.out).mono ?_); (case side1 => first | exact HE.out | exact EnvOk.below HE.out Ze); rintro e w21 ⟨rfl, hb⟩; refine ⟨_, rfl, ?_⟩; have aH := Ya.mk (IsS53.below Zd hb); have aR := Ya.mk (KeepBut.trans Zg (KeepBut.of_below hb g none) (.inl rfl)); have bK := Ya.mk (Yt Ze hb); clear bZ; clear HK; clear HB; have bZ := aH; have HK := aR; have HB := bK; clear aH aR bK; (try clear hb); (try clear bU); (try clear hk); (try clear hi); obtain ⟨fE, aIc⟩ := bZ.out; have aOt := Ydc fE; have aOu := Yjc fE; have aOv := Ykc fE; have aOw := Ymc fE; have aOx := Ygc fE; have aOy := Yic fE; have aOz := Ycc fE; have aOA := Yhc fE; have aOB := Yec fE; have aOC := Ye fE 0; have aOD := Ye fE 1; have aOE := Ye fE 2; have aOF := Ye fE 3; have aOG := Ye fE 4; have aOH := Ye fE 5; have aOI := Ye fE 6; have aOJ := Ye fE 7; have aOK := Ye fE 8; clear fE aIc) | ((with_reducible refine Yi (f := 82) rfl ?_); refine Yaa (some 30) rfl rfl Tryz.func82 Zi rfl #[.pointer (some ⟨g, 0, none⟩), .string (⟨#[47, 92, 63, 35]⟩ : ByteArray)] rfl Zb ?_; (with_reducible refine (Yfc.calls g jI fY fZ gA gB gC gD gE gF (⟨#[47, 92, 63, 35]⟩ : ByteArray) fW kD iV kE kF kG kH kJ kK kM w0 _ ?side1 ?side2 ?side3 A5.out).mono ?_); (case side1 => exact HE.out); (case side2 => repeat (first | (with_reducible first | exact bZ.out | apply IsS53.alloc | apply IsS53.drewN | apply IsS53.drew | apply IsS53.set_0 | apply IsS53.set_1 | apply IsS53.set_2 | apply IsS53.set_3 | apply IsS53.set_4 | apply IsS53.set_5 | apply IsS53.set_6 | apply IsS53.set_7 | apply IsS53.set_8) | exact bZ.out)); (case side3 => repeat (first | (with_reducible first | exact HB.out | apply Yd | apply Yb | apply Yc | refine Yg ?_ (IsS53.ge bZ.out)) | exact HB.out)); rintro e oT ⟨rfl, hi, hb, hk⟩; refine ⟨_, rfl, ?_⟩; have aH := Ya.mk (KeepBut.trans Zg hk (.inl rfl)); have aR := Ya.mk (hb); have bK := Ya.mk (hi); clear HK; clear HB; clear bZ; have HK := aH; have HB := aR; have bZ := bK; clear aH aR bK; (try clear hb); (try clear bU); (try clear hk); (try clear hi)) | ((with_reducible refine Yi (f := 79) rfl ?_); refine Yaa (some 32) rfl rfl Tryz.func79 Zi rfl #[.string fW, .int .u8 64] rfl Zb ?_; (with_reducible refine (strings_IndexByte.calls fW 64 kX _ ?side1 A6.out).mono ?_); (case side1 => first | exact HE.out | exact EnvOk.below HE.out Ze); rintro e w' ⟨rfl, ⟨nd, rfl⟩⟩; refine ⟨_, rfl, ?_⟩; (try (rw [Yag oT]; generalize hq_ : World.drewN oT _ = oT; have aH : Ya (IsS53 w0 oT g kD iV kE kF kG kH kJ kK kM) := ⟨Zn⟩; have aR : Ya (KeepBut w oT g none) := ⟨Zt⟩; have bK : Ya (Below w0.heap.size w0 oT) := ⟨Zu⟩; clear bZ HK HB hq_; have bZ := aH; have HK := aR; have HB := bK; clear aH aR bK))) | ((with_reducible refine Yi (f := 76) rfl ?_); refine Yaa (some 36) rfl rfl Tryz.func76 Zi rfl #[.string fW, .string (⟨#[58]⟩ : ByteArray)] rfl Zb ?_; (with_reducible refine (strings_Cut.calls fW (⟨#[58]⟩ : ByteArray) jW jJ aBj _ ?side1 A14.out).mono ?_); (case side1 => first | exact HE.out | exact EnvOk.below HE.out Ze); rintro e w' ⟨rfl, ⟨nd, rfl⟩⟩; refine ⟨_, rfl, ?_⟩; (try (rw [Yag oT]; generalize hq_ : World.drewN oT _ = oT; have aH : Ya (IsS53 w0 oT g kD iV kE kF kG kH kJ kK kM) := ⟨Zn⟩; have aR : Ya (KeepBut w oT g none) := ⟨Zt⟩; have bK : Ya (Below w0.heap.size w0 oT) := ⟨Zu⟩; clear bZ HK HB hq_; have bZ := aH; have HK := aR; have HB := bK; clear aH aR bK))) | ((with_reducible refine Yi (f := 19) rfl ?_); refine Yaa (some 42) rfl rfl Tryz.func19 Zi rfl #[.string jW] rfl Zb ?_; (with_reducible refine (Yte.calls k jW aBl oX _ ?side1 A15.out).mono ?_); (case side1 => first | exact HE.out | exact EnvOk.below HE.out Ze); rintro e w24 ⟨rfl, hb⟩; refine ⟨_, rfl, ?_⟩; have aH := Ya.mk (IsS53.below Zd hb); have aR := Ya.mk (KeepBut.trans Zg (KeepBut.of_below hb g none) (.inl rfl)); have bK := Ya.mk (Yt Ze hb); clear bZ; clear HK; clear HB; have bZ := aH; have HK := aR; have HB := bK; clear aH aR bK; (try clear hb); (try clear bU); (try clear hk); (try clear hi); obtain ⟨fF, aId⟩ := bZ.out; have qM := Ydc fF; have qN := Yjc fF; have qO := Ykc fF; have qP := Ymc fF; have qQ := Ygc fF; have qR := Yic fF; have qS := Ycc fF; have qT := Yhc fF; have aOL := Yec fF; have qU := Ye fF 0; have qV := Ye fF 1; have qW := Ye fF 2; have qX := Ye fF 3; have qY := Ye fF 4; have qZ := Ye fF 5; have rA := Ye fF 6; have rB := Ye fF 7; have aOM := Ye fF 8; clear fF aId))
  go_ret
  exact ⟨Zl, Zd, Ze, Zg⟩
 rw [if_neg eF] at H
 have jK : (jJ.toList == ([] : List UInt8)) = false := beq_eq_false_iff_ne.mpr eF
 have lI : (jJ.toList != ([] : List UInt8)) = true := bne_iff_ne.mpr eF
 replace H := Option.bind_eq_some_iff.mp H
 obtain ⟨⟨tE, tF⟩, aIe, H⟩ := H
 try dsimp -simprocs only at H
 have A26 := Ya.mk aIe
 clear aIe
 by_cases c27 : tF = 0
 rotate_left
 ·rw [if_neg c27] at H
  have aIf : (tF == 0) = false := beq_eq_false_iff_ne.mpr c27
  have aIg : (tF != 0) = true := bne_iff_ne.mpr c27
  simp only [Option.some.injEq, Prod.mk.injEq] at H
  obtain ⟨rfl, rfl, rfl, rfl, rfl, rfl, rfl, rfl, rfl, rfl⟩ := H
  obtain ⟨fG, aIh⟩ := bZ.out
  have aON := Ydc fG
  have aOO := Yjc fG
  have aOP := Ykc fG
  have aOQ := Ymc fG
  have aOR := Ygc fG
  have aOS := Yic fG
  have aOT := Ycc fG
  have aOU := Yhc fG
  have aOV := Yec fG
  have aOW := Ye fG 0
  have aOX := Ye fG 1
  have aOY := Ye fG 2
  have aOZ := Ye fG 3
  have aPa := Ye fG 4
  have aPb := Ye fG 5
  have aPc := Ye fG 6
  have aPd := Ye fG 7
  have aPe := Ye fG 8
  clear fG aIh
  go_enter Tryz.func44, Tryz.ntmps44
  go_wp2_with (first | ((with_reducible refine Yi (f := 80) rfl ?_); refine Yaa (some 15) rfl rfl Tryz.func80 Zi rfl #[.string cI, .string (⟨#[47, 92]⟩ : ByteArray)] rfl Zb ?_; (with_reducible refine (strings_IndexAny.calls cI (⟨#[47, 92]⟩ : ByteArray) jH _ ?side1 A2.out).mono ?_); (case side1 => first | exact HE.out | exact EnvOk.below HE.out Ze); rintro e w47 ⟨rfl, hb⟩; refine ⟨_, rfl, ?_⟩; have aH := Ya.mk (IsS53.below Zd hb); have aR := Ya.mk (KeepBut.trans Zg (KeepBut.of_below hb g none) (.inl rfl)); have bK := Ya.mk (Yt Ze hb); clear bZ; clear HK; clear HB; have bZ := aH; have HK := aR; have HB := bK; clear aH aR bK; (try clear hb); (try clear bU); (try clear hk); (try clear hi); obtain ⟨fH, aIi⟩ := bZ.out; have aPf := Ydc fH; have aPg := Yjc fH; have aPh := Ykc fH; have aPi := Ymc fH; have aPj := Ygc fH; have aPk := Yic fH; have aPl := Ycc fH; have aPm := Yhc fH; have aPn := Yec fH; have aPo := Ye fH 0; have aPp := Ye fH 1; have aPq := Ye fH 2; have aPr := Ye fH 3; have aPs := Ye fH 4; have aPt := Ye fH 5; have aPu := Ye fH 6; have aPv := Ye fH 7; have aPw := Ye fH 8; clear fH aIi) | ((with_reducible refine Yi (f := 81) rfl ?_); refine Yaa (some 23) rfl rfl Tryz.func81 Zi rfl #[.string cI, .string (⟨#[47, 92]⟩ : ByteArray)] rfl Zb ?_; (with_reducible refine (Ync.calls cI (⟨#[47, 92]⟩ : ByteArray) jI _ ?side1 A4.out).mono ?_); (case side1 => first | exact HE.out | exact EnvOk.below HE.out Ze); rintro e w49 ⟨rfl, hb⟩; refine ⟨_, rfl, ?_⟩; have aH := Ya.mk (IsS53.below Zd hb); have aR := Ya.mk (KeepBut.trans Zg (KeepBut.of_below hb g none) (.inl rfl)); have bK := Ya.mk (Yt Ze hb); clear bZ; clear HK; clear HB; have bZ := aH; have HK := aR; have HB := bK; clear aH aR bK; (try clear hb); (try clear bU); (try clear hk); (try clear hi); obtain ⟨fI, aIj⟩ := bZ.out; have aPx := Ydc fI; have aPy := Yjc fI; have aPz := Ykc fI; have aPA := Ymc fI; have aPB := Ygc fI; have aPC := Yic fI; have aPD := Ycc fI; have aPE := Yhc fI; have aPF := Yec fI; have aPG := Ye fI 0; have aPH := Ye fI 1; have aPI := Ye fI 2; have aPJ := Ye fI 3; have aPK := Ye fI 4; have aPL := Ye fI 5; have aPM := Ye fI 6; have aPN := Ye fI 7; have aPO := Ye fI 8; clear fI aIj) | ((with_reducible refine Yi (f := 82) rfl ?_); refine Yaa (some 30) rfl rfl Tryz.func82 Zi rfl #[.pointer (some ⟨g, 0, none⟩), .string (⟨#[47, 92, 63, 35]⟩ : ByteArray)] rfl Zb ?_; (with_reducible refine (Yfc.calls g jI fY fZ gA gB gC gD gE gF (⟨#[47, 92, 63, 35]⟩ : ByteArray) fW kD iV kE kF kG kH kJ kK kM w0 _ ?side1 ?side2 ?side3 A5.out).mono ?_); (case side1 => exact HE.out); (case side2 => repeat (first | (with_reducible first | exact bZ.out | apply IsS53.alloc | apply IsS53.drewN | apply IsS53.drew | apply IsS53.set_0 | apply IsS53.set_1 | apply IsS53.set_2 | apply IsS53.set_3 | apply IsS53.set_4 | apply IsS53.set_5 | apply IsS53.set_6 | apply IsS53.set_7 | apply IsS53.set_8) | exact bZ.out)); (case side3 => repeat (first | (with_reducible first | exact HB.out | apply Yd | apply Yb | apply Yc | refine Yg ?_ (IsS53.ge bZ.out)) | exact HB.out)); rintro e zL ⟨rfl, hi, hb, hk⟩; refine ⟨_, rfl, ?_⟩; have aH := Ya.mk (KeepBut.trans Zg hk (.inl rfl)); have aR := Ya.mk (hb); have bK := Ya.mk (hi); clear HK; clear HB; clear bZ; have HK := aH; have HB := aR; have bZ := bK; clear aH aR bK; (try clear hb); (try clear bU); (try clear hk); (try clear hi)) | ((with_reducible refine Yi (f := 79) rfl ?_); refine Yaa (some 32) rfl rfl Tryz.func79 Zi rfl #[.string fW, .int .u8 64] rfl Zb ?_; (with_reducible refine (strings_IndexByte.calls fW 64 kX _ ?side1 A6.out).mono ?_); (case side1 => first | exact HE.out | exact EnvOk.below HE.out Ze); rintro e w' ⟨rfl, ⟨nd, rfl⟩⟩; refine ⟨_, rfl, ?_⟩; (try (rw [Yag zL]; generalize hq_ : World.drewN zL _ = zL; have aH : Ya (IsS53 w0 zL g kD iV kE kF kG kH kJ kK kM) := ⟨Zn⟩; have aR : Ya (KeepBut w zL g none) := ⟨Zt⟩; have bK : Ya (Below w0.heap.size w0 zL) := ⟨Zu⟩; clear bZ HK HB hq_; have bZ := aH; have HK := aR; have HB := bK; clear aH aR bK))) | ((with_reducible refine Yi (f := 76) rfl ?_); refine Yaa (some 36) rfl rfl Tryz.func76 Zi rfl #[.string fW, .string (⟨#[58]⟩ : ByteArray)] rfl Zb ?_; (with_reducible refine (strings_Cut.calls fW (⟨#[58]⟩ : ByteArray) jW jJ aBj _ ?side1 A14.out).mono ?_); (case side1 => first | exact HE.out | exact EnvOk.below HE.out Ze); rintro e w' ⟨rfl, ⟨nd, rfl⟩⟩; refine ⟨_, rfl, ?_⟩; (try (rw [Yag zL]; generalize hq_ : World.drewN zL _ = zL; have aH : Ya (IsS53 w0 zL g kD iV kE kF kG kH kJ kK kM) := ⟨Zn⟩; have aR : Ya (KeepBut w zL g none) := ⟨Zt⟩; have bK : Ya (Below w0.heap.size w0 zL) := ⟨Zu⟩; clear bZ HK HB hq_; have bZ := aH; have HK := aR; have HB := bK; clear aH aR bK))) | ((with_reducible refine Yi (f := 19) rfl ?_); refine Yaa (some 42) rfl rfl Tryz.func19 Zi rfl #[.string jW] rfl Zb ?_; (with_reducible refine (Yte.calls k jW aBl oX _ ?side1 A15.out).mono ?_); (case side1 => first | exact HE.out | exact EnvOk.below HE.out Ze); rintro e w52 ⟨rfl, hb⟩; refine ⟨_, rfl, ?_⟩; have aH := Ya.mk (IsS53.below Zd hb); have aR := Ya.mk (KeepBut.trans Zg (KeepBut.of_below hb g none) (.inl rfl)); have bK := Ya.mk (Yt Ze hb); clear bZ; clear HK; clear HB; have bZ := aH; have HK := aR; have HB := bK; clear aH aR bK; (try clear hb); (try clear bU); (try clear hk); (try clear hi); obtain ⟨fJ, aIk⟩ := bZ.out; have aPP := Ydc fJ; have aPQ := Yjc fJ; have aPR := Ykc fJ; have aPS := Ymc fJ; have aPT := Ygc fJ; have aPU := Yic fJ; have aPV := Ycc fJ; have aPW := Yhc fJ; have aPX := Yec fJ; have aPY := Ye fJ 0; have aPZ := Ye fJ 1; have aQa := Ye fJ 2; have aQb := Ye fJ 3; have aQc := Ye fJ 4; have aQd := Ye fJ 5; have aQe := Ye fJ 6; have aQf := Ye fJ 7; have aQg := Ye fJ 8; clear fJ aIk) | ((with_reducible refine Yi (f := 83) rfl ?_); refine Yaa (some 57) rfl rfl Tryz.func83 Zi rfl #[.string jJ, .int .i64 65535] rfl Zb ?_; (with_reducible refine (Yja.calls k jJ 65535 tE tF _ ?side1 A26.out).mono ?_); (case side1 => first | exact HE.out | exact EnvOk.below HE.out Ze); rintro e w' ⟨rfl, ⟨nd, rfl⟩⟩; refine ⟨_, rfl, ?_⟩))
  go_ret
  exact ⟨Zl, Zd, Ze, Zg⟩
 rw [if_pos c27] at H
 have aIf : (tF == 0) = true := beq_iff_eq.mpr c27
 have aIg : (tF != 0) = false := bne_eq_false_iff_eq.mpr c27
 clear c27
 replace H := Option.bind_eq_some_iff.mp H
 obtain ⟨oL, tG, H⟩ := H
 try dsimp -simprocs only at H
 have A28 := Ya.mk tG
 clear tG
 by_cases oM : tE = oL
 rotate_left
 ·rw [if_neg oM] at H
  have aBm : (tE == oL) = false := beq_eq_false_iff_ne.mpr oM
  have aIl : (tE != oL) = true := bne_iff_ne.mpr oM
  simp only [Option.some.injEq, Prod.mk.injEq] at H
  obtain ⟨rfl, rfl, rfl, rfl, rfl, rfl, rfl, rfl, rfl, rfl⟩ := H
  obtain ⟨fK, aIm⟩ := bZ.out
  have xJ := Ydc fK
  have xK := Yjc fK
  have xL := Ykc fK
  have xM := Ymc fK
  have xN := Ygc fK
  have xO := Yic fK
  have xP := Ycc fK
  have xQ := Yhc fK
  have aQh := Yec fK
  have xR := Ye fK 0
  have xS := Ye fK 1
  have xT := Ye fK 2
  have xU := Ye fK 3
  have xV := Ye fK 4
  have xW := Ye fK 5
  have xX := Ye fK 6
  have xY := Ye fK 7
  have aQi := Ye fK 8
  clear fK aIm
  go_enter Tryz.func44, Tryz.ntmps44
  go_wp2_with (first | ((with_reducible refine Yi (f := 80) rfl ?_); refine Yaa (some 15) rfl rfl Tryz.func80 Zi rfl #[.string cI, .string (⟨#[47, 92]⟩ : ByteArray)] rfl Zb ?_; (with_reducible refine (strings_IndexAny.calls cI (⟨#[47, 92]⟩ : ByteArray) jH _ ?side1 A2.out).mono ?_); (case side1 => first | exact HE.out | exact EnvOk.below HE.out Ze); rintro e w39 ⟨rfl, hb⟩; refine ⟨_, rfl, ?_⟩; have aH := Ya.mk (IsS53.below Zd hb); have aR := Ya.mk (KeepBut.trans Zg (KeepBut.of_below hb g none) (.inl rfl)); have bK := Ya.mk (Yt Ze hb); clear bZ; clear HK; clear HB; have bZ := aH; have HK := aR; have HB := bK; clear aH aR bK; (try clear hb); (try clear bU); (try clear hk); (try clear hi); obtain ⟨fL, aIn⟩ := bZ.out; have aQj := Ydc fL; have aQk := Yjc fL; have aQl := Ykc fL; have aQm := Ymc fL; have aQn := Ygc fL; have aQo := Yic fL; have aQp := Ycc fL; have aQq := Yhc fL; have aQr := Yec fL; have aQs := Ye fL 0; have aQt := Ye fL 1; have aQu := Ye fL 2; have aQv := Ye fL 3; have aQw := Ye fL 4; have aQx := Ye fL 5; have aQy := Ye fL 6; have aQz := Ye fL 7; have aQA := Ye fL 8; clear fL aIn) | ((with_reducible refine Yi (f := 81) rfl ?_); refine Yaa (some 23) rfl rfl Tryz.func81 Zi rfl #[.string cI, .string (⟨#[47, 92]⟩ : ByteArray)] rfl Zb ?_; (with_reducible refine (Ync.calls cI (⟨#[47, 92]⟩ : ByteArray) jI _ ?side1 A4.out).mono ?_); (case side1 => first | exact HE.out | exact EnvOk.below HE.out Ze); rintro e w41 ⟨rfl, hb⟩; refine ⟨_, rfl, ?_⟩; have aH := Ya.mk (IsS53.below Zd hb); have aR := Ya.mk (KeepBut.trans Zg (KeepBut.of_below hb g none) (.inl rfl)); have bK := Ya.mk (Yt Ze hb); clear bZ; clear HK; clear HB; have bZ := aH; have HK := aR; have HB := bK; clear aH aR bK; (try clear hb); (try clear bU); (try clear hk); (try clear hi); obtain ⟨fM, aIo⟩ := bZ.out; have aQB := Ydc fM; have aQC := Yjc fM; have aQD := Ykc fM; have aQE := Ymc fM; have aQF := Ygc fM; have aQG := Yic fM; have aQH := Ycc fM; have aQI := Yhc fM; have aQJ := Yec fM; have aQK := Ye fM 0; have aQL := Ye fM 1; have aQM := Ye fM 2; have aQN := Ye fM 3; have aQO := Ye fM 4; have aQP := Ye fM 5; have aQQ := Ye fM 6; have aQR := Ye fM 7; have aQS := Ye fM 8; clear fM aIo) | ((with_reducible refine Yi (f := 82) rfl ?_); refine Yaa (some 30) rfl rfl Tryz.func82 Zi rfl #[.pointer (some ⟨g, 0, none⟩), .string (⟨#[47, 92, 63, 35]⟩ : ByteArray)] rfl Zb ?_; (with_reducible refine (Yfc.calls g jI fY fZ gA gB gC gD gE gF (⟨#[47, 92, 63, 35]⟩ : ByteArray) fW kD iV kE kF kG kH kJ kK kM w0 _ ?side1 ?side2 ?side3 A5.out).mono ?_); (case side1 => exact HE.out); (case side2 => repeat (first | (with_reducible first | exact bZ.out | apply IsS53.alloc | apply IsS53.drewN | apply IsS53.drew | apply IsS53.set_0 | apply IsS53.set_1 | apply IsS53.set_2 | apply IsS53.set_3 | apply IsS53.set_4 | apply IsS53.set_5 | apply IsS53.set_6 | apply IsS53.set_7 | apply IsS53.set_8) | exact bZ.out)); (case side3 => repeat (first | (with_reducible first | exact HB.out | apply Yd | apply Yb | apply Yc | refine Yg ?_ (IsS53.ge bZ.out)) | exact HB.out)); rintro e w43 ⟨rfl, hi, hb, hk⟩; refine ⟨_, rfl, ?_⟩; have aH := Ya.mk (KeepBut.trans Zg hk (.inl rfl)); have aR := Ya.mk (hb); have bK := Ya.mk (hi); clear HK; clear HB; clear bZ; have HK := aH; have HB := aR; have bZ := bK; clear aH aR bK; (try clear hb); (try clear bU); (try clear hk); (try clear hi)) | ((with_reducible refine Yi (f := 79) rfl ?_); refine Yaa (some 32) rfl rfl Tryz.func79 Zi rfl #[.string fW, .int .u8 64] rfl Zb ?_; (with_reducible refine (strings_IndexByte.calls fW 64 kX _ ?side1 A6.out).mono ?_); (case side1 => first | exact HE.out | exact EnvOk.below HE.out Ze); rintro e w' ⟨rfl, ⟨nd, rfl⟩⟩; refine ⟨_, rfl, ?_⟩; (try (rw [Yag w43]; generalize hq_ : World.drewN w43 _ = w43; have aH : Ya (IsS53 w0 w43 g kD iV kE kF kG kH kJ kK kM) := ⟨Zn⟩; have aR : Ya (KeepBut w w43 g none) := ⟨Zt⟩; have bK : Ya (Below w0.heap.size w0 w43) := ⟨Zu⟩; clear bZ HK HB hq_; have bZ := aH; have HK := aR; have HB := bK; clear aH aR bK))) | ((with_reducible refine Yi (f := 76) rfl ?_); refine Yaa (some 36) rfl rfl Tryz.func76 Zi rfl #[.string fW, .string (⟨#[58]⟩ : ByteArray)] rfl Zb ?_; (with_reducible refine (strings_Cut.calls fW (⟨#[58]⟩ : ByteArray) jW jJ aBj _ ?side1 A14.out).mono ?_); (case side1 => first | exact HE.out | exact EnvOk.below HE.out Ze); rintro e w' ⟨rfl, ⟨nd, rfl⟩⟩; refine ⟨_, rfl, ?_⟩; (try (rw [Yag w43]; generalize hq_ : World.drewN w43 _ = w43; have aH : Ya (IsS53 w0 w43 g kD iV kE kF kG kH kJ kK kM) := ⟨Zn⟩; have aR : Ya (KeepBut w w43 g none) := ⟨Zt⟩; have bK : Ya (Below w0.heap.size w0 w43) := ⟨Zu⟩; clear bZ HK HB hq_; have bZ := aH; have HK := aR; have HB := bK; clear aH aR bK))) | ((with_reducible refine Yi (f := 19) rfl ?_); refine Yaa (some 42) rfl rfl Tryz.func19 Zi rfl #[.string jW] rfl Zb ?_; (with_reducible refine (Yte.calls k jW aBl oX _ ?side1 A15.out).mono ?_); (case side1 => first | exact HE.out | exact EnvOk.below HE.out Ze); rintro e w44 ⟨rfl, hb⟩; refine ⟨_, rfl, ?_⟩; have aH := Ya.mk (IsS53.below Zd hb); have aR := Ya.mk (KeepBut.trans Zg (KeepBut.of_below hb g none) (.inl rfl)); have bK := Ya.mk (Yt Ze hb); clear bZ; clear HK; clear HB; have bZ := aH; have HK := aR; have HB := bK; clear aH aR bK; (try clear hb); (try clear bU); (try clear hk); (try clear hi); obtain ⟨fN, aIp⟩ := bZ.out; have aQT := Ydc fN; have aQU := Yjc fN; have aQV := Ykc fN; have aQW := Ymc fN; have aQX := Ygc fN; have aQY := Yic fN; have aQZ := Ycc fN; have aRa := Yhc fN; have aRb := Yec fN; have aRc := Ye fN 0; have aRd := Ye fN 1; have aRe := Ye fN 2; have aRf := Ye fN 3; have aRg := Ye fN 4; have aRh := Ye fN 5; have aRi := Ye fN 6; have aRj := Ye fN 7; have aRk := Ye fN 8; clear fN aIp) | ((with_reducible refine Yi (f := 83) rfl ?_); refine Yaa (some 57) rfl rfl Tryz.func83 Zi rfl #[.string jJ, .int .i64 65535] rfl Zb ?_; (with_reducible refine (Yja.calls k jJ 65535 tE tF _ ?side1 A26.out).mono ?_); (case side1 => first | exact HE.out | exact EnvOk.below HE.out Ze); rintro e w' ⟨rfl, ⟨nd, rfl⟩⟩; refine ⟨_, rfl, ?_⟩) | ((with_reducible refine Yi (f := 84) rfl ?_); refine Yaa (some 68) rfl rfl Tryz.func84 Zi rfl #[.string iV] rfl Zb ?_; (with_reducible refine (Yzf.calls iV oL _ ?side1 A28.out).mono ?_); (case side1 => first | exact HE.out | exact EnvOk.below HE.out Ze); rintro e w' ⟨rfl, ⟨nd, rfl⟩⟩; refine ⟨_, rfl, ?_⟩))
  go_ret
  exact ⟨Zl, Zd, Ze, Zg⟩
 rw [if_pos oM] at H
 have aBm : (tE == oL) = true := beq_iff_eq.mpr oM
 have aIl : (tE != oL) = false := bne_eq_false_iff_eq.mpr oM
 clear oM
 simp only [Option.some.injEq, Prod.mk.injEq] at H
 obtain ⟨rfl, rfl, rfl, rfl, rfl, rfl, rfl, rfl, rfl, rfl⟩ := H
 obtain ⟨fO, aIq⟩ := bZ.out
 have aRl := Ydc fO
 have aRm := Yjc fO
 have aRn := Ykc fO
 have aRo := Ymc fO
 have aRp := Ygc fO
 have aRq := Yic fO
 have aRr := Ycc fO
 have aRs := Yhc fO
 have aRt := Yec fO
 have aRu := Ye fO 0
 have aRv := Ye fO 1
 have aRw := Ye fO 2
 have aRx := Ye fO 3
 have aRy := Ye fO 4
 have aRz := Ye fO 5
 have aRA := Ye fO 6
 have aRB := Ye fO 7
 have aRC := Ye fO 8
 clear fO aIq
 go_enter Tryz.func44, Tryz.ntmps44
 go_wp2_with (first | ((with_reducible refine Yi (f := 80) rfl ?_); refine Yaa (some 15) rfl rfl Tryz.func80 Zi rfl #[.string cI, .string (⟨#[47, 92]⟩ : ByteArray)] rfl Zb ?_; (with_reducible refine (strings_IndexAny.calls cI (⟨#[47, 92]⟩ : ByteArray) jH _ ?side1 A2.out).mono ?_); (case side1 => first | exact HE.out | exact EnvOk.below HE.out Ze); rintro e w31 ⟨rfl, hb⟩; refine ⟨_, rfl, ?_⟩; have aH := Ya.mk (IsS53.below Zd hb); have aR := Ya.mk (KeepBut.trans Zg (KeepBut.of_below hb g none) (.inl rfl)); have bK := Ya.mk (Yt Ze hb); clear bZ; clear HK; clear HB; have bZ := aH; have HK := aR; have HB := bK; clear aH aR bK; (try clear hb); (try clear bU); (try clear hk); (try clear hi); obtain ⟨fP, aIr⟩ := bZ.out; have aRD := Ydc fP; have aRE := Yjc fP; have aRF := Ykc fP; have aRG := Ymc fP; have aRH := Ygc fP; have aRI := Yic fP; have aRJ := Ycc fP; have aRK := Yhc fP; have aRL := Yec fP; have aRM := Ye fP 0; have aRN := Ye fP 1; have aRO := Ye fP 2; have aRP := Ye fP 3; have aRQ := Ye fP 4; have aRR := Ye fP 5; have aRS := Ye fP 6; have aRT := Ye fP 7; have aRU := Ye fP 8; clear fP aIr) | ((with_reducible refine Yi (f := 81) rfl ?_); refine Yaa (some 23) rfl rfl Tryz.func81 Zi rfl #[.string cI, .string (⟨#[47, 92]⟩ : ByteArray)] rfl Zb ?_; (with_reducible refine (Ync.calls cI (⟨#[47, 92]⟩ : ByteArray) jI _ ?side1 A4.out).mono ?_); (case side1 => first | exact HE.out | exact EnvOk.below HE.out Ze); rintro e w33 ⟨rfl, hb⟩; refine ⟨_, rfl, ?_⟩; have aH := Ya.mk (IsS53.below Zd hb); have aR := Ya.mk (KeepBut.trans Zg (KeepBut.of_below hb g none) (.inl rfl)); have bK := Ya.mk (Yt Ze hb); clear bZ; clear HK; clear HB; have bZ := aH; have HK := aR; have HB := bK; clear aH aR bK; (try clear hb); (try clear bU); (try clear hk); (try clear hi); obtain ⟨fQ, aIs⟩ := bZ.out; have xZ := Ydc fQ; have yA := Yjc fQ; have yB := Ykc fQ; have yC := Ymc fQ; have yD := Ygc fQ; have yE := Yic fQ; have yF := Ycc fQ; have yG := Yhc fQ; have aRV := Yec fQ; have yH := Ye fQ 0; have yI := Ye fQ 1; have yJ := Ye fQ 2; have yK := Ye fQ 3; have yL := Ye fQ 4; have yM := Ye fQ 5; have yN := Ye fQ 6; have yO := Ye fQ 7; have aRW := Ye fQ 8; clear fQ aIs) | ((with_reducible refine Yi (f := 82) rfl ?_); refine Yaa (some 30) rfl rfl Tryz.func82 Zi rfl #[.pointer (some ⟨g, 0, none⟩), .string (⟨#[47, 92, 63, 35]⟩ : ByteArray)] rfl Zb ?_; (with_reducible refine (Yfc.calls g jI fY fZ gA gB gC gD gE gF (⟨#[47, 92, 63, 35]⟩ : ByteArray) fW kD iV kE kF kG kH kJ kK kM w0 _ ?side1 ?side2 ?side3 A5.out).mono ?_); (case side1 => exact HE.out); (case side2 => repeat (first | (with_reducible first | exact bZ.out | apply IsS53.alloc | apply IsS53.drewN | apply IsS53.drew | apply IsS53.set_0 | apply IsS53.set_1 | apply IsS53.set_2 | apply IsS53.set_3 | apply IsS53.set_4 | apply IsS53.set_5 | apply IsS53.set_6 | apply IsS53.set_7 | apply IsS53.set_8) | exact bZ.out)); (case side3 => repeat (first | (with_reducible first | exact HB.out | apply Yd | apply Yb | apply Yc | refine Yg ?_ (IsS53.ge bZ.out)) | exact HB.out)); rintro e yP ⟨rfl, hi, hb, hk⟩; refine ⟨_, rfl, ?_⟩; have aH := Ya.mk (KeepBut.trans Zg hk (.inl rfl)); have aR := Ya.mk (hb); have bK := Ya.mk (hi); clear HK; clear HB; clear bZ; have HK := aH; have HB := aR; have bZ := bK; clear aH aR bK; (try clear hb); (try clear bU); (try clear hk); (try clear hi)) | ((with_reducible refine Yi (f := 79) rfl ?_); refine Yaa (some 32) rfl rfl Tryz.func79 Zi rfl #[.string fW, .int .u8 64] rfl Zb ?_; (with_reducible refine (strings_IndexByte.calls fW 64 kX _ ?side1 A6.out).mono ?_); (case side1 => first | exact HE.out | exact EnvOk.below HE.out Ze); rintro e w' ⟨rfl, ⟨nd, rfl⟩⟩; refine ⟨_, rfl, ?_⟩; (try (rw [Yag yP]; generalize hq_ : World.drewN yP _ = yP; have aH : Ya (IsS53 w0 yP g kD iV kE kF kG kH kJ kK kM) := ⟨Zn⟩; have aR : Ya (KeepBut w yP g none) := ⟨Zt⟩; have bK : Ya (Below w0.heap.size w0 yP) := ⟨Zu⟩; clear bZ HK HB hq_; have bZ := aH; have HK := aR; have HB := bK; clear aH aR bK))) | ((with_reducible refine Yi (f := 76) rfl ?_); refine Yaa (some 36) rfl rfl Tryz.func76 Zi rfl #[.string fW, .string (⟨#[58]⟩ : ByteArray)] rfl Zb ?_; (with_reducible refine (strings_Cut.calls fW (⟨#[58]⟩ : ByteArray) jW jJ aBj _ ?side1 A14.out).mono ?_); (case side1 => first | exact HE.out | exact EnvOk.below HE.out Ze); rintro e w' ⟨rfl, ⟨nd, rfl⟩⟩; refine ⟨_, rfl, ?_⟩; (try (rw [Yag yP]; generalize hq_ : World.drewN yP _ = yP; have aH : Ya (IsS53 w0 yP g kD iV kE kF kG kH kJ kK kM) := ⟨Zn⟩; have aR : Ya (KeepBut w yP g none) := ⟨Zt⟩; have bK : Ya (Below w0.heap.size w0 yP) := ⟨Zu⟩; clear bZ HK HB hq_; have bZ := aH; have HK := aR; have HB := bK; clear aH aR bK))) | ((with_reducible refine Yi (f := 19) rfl ?_); refine Yaa (some 42) rfl rfl Tryz.func19 Zi rfl #[.string jW] rfl Zb ?_; (with_reducible refine (Yte.calls k jW aBl oX _ ?side1 A15.out).mono ?_); (case side1 => first | exact HE.out | exact EnvOk.below HE.out Ze); rintro e w36 ⟨rfl, hb⟩; refine ⟨_, rfl, ?_⟩; have aH := Ya.mk (IsS53.below Zd hb); have aR := Ya.mk (KeepBut.trans Zg (KeepBut.of_below hb g none) (.inl rfl)); have bK := Ya.mk (Yt Ze hb); clear bZ; clear HK; clear HB; have bZ := aH; have HK := aR; have HB := bK; clear aH aR bK; (try clear hb); (try clear bU); (try clear hk); (try clear hi); obtain ⟨fR, aIt⟩ := bZ.out; have aRX := Ydc fR; have aRY := Yjc fR; have aRZ := Ykc fR; have aSa := Ymc fR; have aSb := Ygc fR; have aSc := Yic fR; have aSd := Ycc fR; have aSe := Yhc fR; have aSf := Yec fR; have aSg := Ye fR 0; have aSh := Ye fR 1; have aSi := Ye fR 2; have aSj := Ye fR 3; have aSk := Ye fR 4; have aSl := Ye fR 5; have aSm := Ye fR 6; have aSn := Ye fR 7; have aSo := Ye fR 8; clear fR aIt) | ((with_reducible refine Yi (f := 83) rfl ?_); refine Yaa (some 57) rfl rfl Tryz.func83 Zi rfl #[.string jJ, .int .i64 65535] rfl Zb ?_; (with_reducible refine (Yja.calls k jJ 65535 tE tF _ ?side1 A26.out).mono ?_); (case side1 => first | exact HE.out | exact EnvOk.below HE.out Ze); rintro e w' ⟨rfl, ⟨nd, rfl⟩⟩; refine ⟨_, rfl, ?_⟩) | ((with_reducible refine Yi (f := 84) rfl ?_); refine Yaa (some 68) rfl rfl Tryz.func84 Zi rfl #[.string iV] rfl Zb ?_; (with_reducible refine (Yzf.calls iV oL _ ?side1 A28.out).mono ?_); (case side1 => first | exact HE.out | exact EnvOk.below HE.out Ze); rintro e w' ⟨rfl, ⟨nd, rfl⟩⟩; refine ⟨_, rfl, ?_⟩))
 go_ret
 exact ⟨Zl, Zd, Ze, Zg⟩
def Ybj.f (a0 : ByteArray) : Option (Int) := (Yib.f a0).bind fun kY => ((strings_ReplaceAll.f kY (⟨#[37, 50, 101]⟩ : ByteArray) (⟨#[46]⟩ : ByteArray)).bind fun iR => (if iR.toList = ([46] : List UInt8) then (some 1) else (if iR.toList = ([46, 46] : List UInt8) then (some 2) else (some 0))))
theorem Ybj.calls (a0 : ByteArray) (r : Int) (w : World) (hE : EnvOk w) (h : Ybj.f a0 = some r) :
  Calls Tryz.prog 62 #[.string a0] w fun e w' => e = .returned (.int .i64 r) ∧ Below w.heap.size w w' := by
 have HE := Ya.mk hE
 clear hE
 have HB := Ya.mk (Below.refl w.heap.size w)
 have H : ((Yib.f a0).bind fun kY => ((strings_ReplaceAll.f kY (⟨#[37, 50, 101]⟩ : ByteArray) (⟨#[46]⟩ : ByteArray)).bind fun iR => (if iR.toList = ([46] : List UInt8) then (some 1) else (if iR.toList = ([46, 46] : List UInt8) then (some 2) else (some 0))))) = some r := h
 clear h
 replace H := Option.bind_eq_some_iff.mp H
 obtain ⟨kY, dV, H⟩ := H
 try dsimp -simprocs only at H
 have A2 := Ya.mk dV
 clear dV
 replace H := Option.bind_eq_some_iff.mp H
 obtain ⟨iR, iY, H⟩ := H
 try dsimp -simprocs only at H
 have A3 := Ya.mk iY
 clear iY
 by_cases c4 : iR.toList = ([46] : List UInt8)
 ·rw [if_pos c4] at H
  have bX : (iR.toList == ([46] : List UInt8)) = true := beq_iff_eq.mpr c4
  have jF : (iR.toList != ([46] : List UInt8)) = false := bne_eq_false_iff_eq.mpr c4
  clear c4
  obtain rfl := Option.some.inj H
  go_enter Tryz.func62, Tryz.ntmps62
  go_wp2_with (first | ((with_reducible refine Yi (f := 52) rfl ?_); refine Yaa (some 4) rfl rfl Tryz.func52 Zi rfl #[.string a0] rfl Zb ?_; (with_reducible refine (Yib.calls a0 kY _ ?side1 A2.out).mono ?_); (case side1 => first | exact HE.out | exact EnvOk.below HE.out Za); rintro e w5 ⟨rfl, hb⟩; refine ⟨_, rfl, ?_⟩; have aH := Ya.mk (Yt Za hb); clear HB; have HB := aH; clear aH; (try clear hb); (try clear bU); (try clear hk); (try clear hi)) | ((with_reducible refine Yi (f := 59) rfl ?_); refine Yaa (some 5) rfl rfl Tryz.func59 Zi rfl #[.string kY, .string (⟨#[37, 50, 101]⟩ : ByteArray), .string (⟨#[46]⟩ : ByteArray)] rfl Zb ?_; (with_reducible refine (strings_ReplaceAll.calls kY (⟨#[37, 50, 101]⟩ : ByteArray) (⟨#[46]⟩ : ByteArray) iR _ ?side1 A3.out).mono ?_); (case side1 => first | exact HE.out | exact EnvOk.below HE.out Za); rintro e w6 ⟨rfl, hb⟩; refine ⟨_, rfl, ?_⟩; have aH := Ya.mk (Yt Za hb); clear HB; have HB := aH; clear aH; (try clear hb); (try clear bU); (try clear hk); (try clear hi)))
  go_ret
  exact ⟨Zl, Za⟩
 rw [if_neg c4] at H
 have bX : (iR.toList == ([46] : List UInt8)) = false := beq_eq_false_iff_ne.mpr c4
 have jF : (iR.toList != ([46] : List UInt8)) = true := bne_iff_ne.mpr c4
 by_cases c7 : iR.toList = ([46, 46] : List UInt8)
 rotate_left
 ·rw [if_neg c7] at H
  have cQ : (iR.toList == ([46, 46] : List UInt8)) = false := beq_eq_false_iff_ne.mpr c7
  have iB : (iR.toList != ([46, 46] : List UInt8)) = true := bne_iff_ne.mpr c7
  obtain rfl := Option.some.inj H
  go_enter Tryz.func62, Tryz.ntmps62
  go_wp2_with (first | ((with_reducible refine Yi (f := 52) rfl ?_); refine Yaa (some 4) rfl rfl Tryz.func52 Zi rfl #[.string a0] rfl Zb ?_; (with_reducible refine (Yib.calls a0 kY _ ?side1 A2.out).mono ?_); (case side1 => first | exact HE.out | exact EnvOk.below HE.out Za); rintro e pJ ⟨rfl, hb⟩; refine ⟨_, rfl, ?_⟩; have aH := Ya.mk (Yt Za hb); clear HB; have HB := aH; clear aH; (try clear hb); (try clear bU); (try clear hk); (try clear hi)) | ((with_reducible refine Yi (f := 59) rfl ?_); refine Yaa (some 5) rfl rfl Tryz.func59 Zi rfl #[.string kY, .string (⟨#[37, 50, 101]⟩ : ByteArray), .string (⟨#[46]⟩ : ByteArray)] rfl Zb ?_; (with_reducible refine (strings_ReplaceAll.calls kY (⟨#[37, 50, 101]⟩ : ByteArray) (⟨#[46]⟩ : ByteArray) iR _ ?side1 A3.out).mono ?_); (case side1 => first | exact HE.out | exact EnvOk.below HE.out Za); rintro e w11 ⟨rfl, hb⟩; refine ⟨_, rfl, ?_⟩; have aH := Ya.mk (Yt Za hb); clear HB; have HB := aH; clear aH; (try clear hb); (try clear bU); (try clear hk); (try clear hi)))
  go_ret
  exact ⟨Zl, Za⟩
 rw [if_pos c7] at H
 have cQ : (iR.toList == ([46, 46] : List UInt8)) = true := beq_iff_eq.mpr c7
 have iB : (iR.toList != ([46, 46] : List UInt8)) = false := bne_eq_false_iff_eq.mpr c7
 clear c7
 obtain rfl := Option.some.inj H
 go_enter Tryz.func62, Tryz.ntmps62
 go_wp2_with (first | ((with_reducible refine Yi (f := 52) rfl ?_); refine Yaa (some 4) rfl rfl Tryz.func52 Zi rfl #[.string a0] rfl Zb ?_; (with_reducible refine (Yib.calls a0 kY _ ?side1 A2.out).mono ?_); (case side1 => first | exact HE.out | exact EnvOk.below HE.out Za); rintro e w8 ⟨rfl, hb⟩; refine ⟨_, rfl, ?_⟩; have aH := Ya.mk (Yt Za hb); clear HB; have HB := aH; clear aH; (try clear hb); (try clear bU); (try clear hk); (try clear hi)) | ((with_reducible refine Yi (f := 59) rfl ?_); refine Yaa (some 5) rfl rfl Tryz.func59 Zi rfl #[.string kY, .string (⟨#[37, 50, 101]⟩ : ByteArray), .string (⟨#[46]⟩ : ByteArray)] rfl Zb ?_; (with_reducible refine (strings_ReplaceAll.calls kY (⟨#[37, 50, 101]⟩ : ByteArray) (⟨#[46]⟩ : ByteArray) iR _ ?side1 A3.out).mono ?_); (case side1 => first | exact HE.out | exact EnvOk.below HE.out Za); rintro e w9 ⟨rfl, hb⟩; refine ⟨_, rfl, ?_⟩; have aH := Ya.mk (Yt Za hb); clear HB; have HB := aH; clear aH; (try clear hb); (try clear bU); (try clear hk); (try clear hi)))
 go_ret
 exact ⟨Zl, Za⟩
def Ycg.f (a0 a1 : ByteArray) : Option (Bool) := if (a0.size : Int) = (a1.size : Int) then ((Yib.f a0).bind fun aBn => ((Yib.f a1).bind fun aBo => (some (aBn.toList == aBo.toList)))) else (some false)
theorem Ycg.calls (a0 a1 : ByteArray) (r : Bool) (w : World) (hE : EnvOk w) (h : Ycg.f a0 a1 = some r) :
  Calls Tryz.prog 73 #[.string a0, .string a1] w fun e w' => e = .returned (.bool r) ∧ Below w.heap.size w w' := by
 have HE := Ya.mk hE
 clear hE
 have HB := Ya.mk (Below.refl w.heap.size w)
 have H : (if (a0.size : Int) = (a1.size : Int) then ((Yib.f a0).bind fun aBn => ((Yib.f a1).bind fun aBo => (some (aBn.toList == aBo.toList)))) else (some false)) = some r := h
 clear h
 by_cases c3 : (a0.size : Int) = (a1.size : Int)
 rotate_left
 ·rw [if_neg c3] at H
  have cB : ((a0.size : Int) == (a1.size : Int)) = false := beq_eq_false_iff_ne.mpr c3
  have fV : ((a0.size : Int) != (a1.size : Int)) = true := bne_iff_ne.mpr c3
  have aAx : (a0.size == a1.size) = false := by first | simpa using c3 | (simp at c3 ⊢; omega)
  obtain rfl := Option.some.inj H
  go_enter Tryz.func73, Tryz.ntmps73
  go_wp2
  go_ret
  exact ⟨Zl, Za⟩
 rw [if_pos c3] at H
 have cB : ((a0.size : Int) == (a1.size : Int)) = true := beq_iff_eq.mpr c3
 have fV : ((a0.size : Int) != (a1.size : Int)) = false := bne_eq_false_iff_eq.mpr c3
 have aAx : (a0.size == a1.size) = true := by first | simpa using c3 | (simp at c3 ⊢; omega)
 clear c3
 replace H := Option.bind_eq_some_iff.mp H
 obtain ⟨aBn, sU, H⟩ := H
 try dsimp -simprocs only at H
 have A4 := Ya.mk sU
 clear sU
 replace H := Option.bind_eq_some_iff.mp H
 obtain ⟨aBo, tD, H⟩ := H
 try dsimp -simprocs only at H
 have A5 := Ya.mk tD
 clear tD
 obtain rfl := Option.some.inj H
 go_enter Tryz.func73, Tryz.ntmps73
 go_wp2_with (first | (go_at_call 52; (with_reducible refine (Yib.calls a0 aBn _ ?side1 A4.out).mono ?_); (case side1 => first | exact HE.out | exact EnvOk.below HE.out Za); rintro e w6 ⟨rfl, hb⟩; have aH := Ya.mk (Yt Za hb); clear HB; have HB := aH; clear aH; (try clear hb); (try clear bU); (try clear hk); (try clear hi)) | (go_at_call 52; (with_reducible refine (Yib.calls a1 aBo _ ?side1 A5.out).mono ?_); (case side1 => first | exact HE.out | exact EnvOk.below HE.out Za); rintro e w7 ⟨rfl, hb⟩; have aH := Ya.mk (Yt Za hb); clear HB; have HB := aH; clear aH; (try clear hb); (try clear bU); (try clear hk); (try clear hi)))
 go_ret
 exact ⟨Zl, Za⟩
end Go.Proofs.YtnmglnglbdpjjaaGreatDoor.X
