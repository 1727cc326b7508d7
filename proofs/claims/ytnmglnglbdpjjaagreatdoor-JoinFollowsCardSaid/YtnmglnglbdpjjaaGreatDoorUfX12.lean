import Derived.Test.YtnmglnglbdpjjaaGreatDoorUfX9
set_option linter.all false
namespace Go.Proofs.YtnmglnglbdpjjaaGreatDoor.X
open Go.RowKit Go.Yw.PrintWords Go.Yw.PrintLast Go.Yw.PrintMore
attribute [local go_sem] Yfe Ybe Yre Yue Yld Ykd Yee Yde
set_option maxHeartbeats 8000000
set_option maxRecDepth 100000
def Yx.j0 : Nat → Y → Y → Y → Int → Y → Y → Y → Bool → Bool → Option (Y)
 | 0, _, _, _, _, _, _, _, _, _ => none
 | k + 1, x3, aSM, aSN, aSO, hH, kR, jI, aDW, zI => if x3.size + hH.size ≤ 9223372036854775807 then (if aDW = true then (if 1 + kR.size ≤ 9223372036854775807 then (if (x3 ++ hH).size + ((⟨#[63]⟩ : Y) ++ kR).size ≤ 9223372036854775807 then (if zI = true then (if 1 + jI.size ≤ 9223372036854775807 then (if ((x3 ++ hH) ++ ((⟨#[63]⟩ : Y) ++ kR)).size + ((⟨#[35]⟩ : Y) ++ jI).size ≤ 9223372036854775807 then (some (((x3 ++ hH) ++ ((⟨#[63]⟩ : Y) ++ kR)) ++ ((⟨#[35]⟩ : Y) ++ jI))) else (none)) else (none)) else (some ((x3 ++ hH) ++ ((⟨#[63]⟩ : Y) ++ kR)))) else (none)) else (none)) else (if zI = true then (if 1 + jI.size ≤ 9223372036854775807 then (if (x3 ++ hH).size + ((⟨#[35]⟩ : Y) ++ jI).size ≤ 9223372036854775807 then (some ((x3 ++ hH) ++ ((⟨#[35]⟩ : Y) ++ jI))) else (none)) else (none)) else (some (x3 ++ hH)))) else (none)
def Yx.f (k : Nat) (aE aJ : Y) (aN : Int) (aG aM aK : Y) (aU aV : Bool) : Option (Y) := if aE.size + 3 ≤ 9223372036854775807 then (if (aE ++ (⟨#[58, 47, 47]⟩ : Y)).size + aJ.size ≤ 9223372036854775807 then (if aN = 0 then (Yx.j0 k ((aE ++ (⟨#[58, 47, 47]⟩ : Y)) ++ aJ) aE aJ aN aG aM aK aU aV) else ((Ytc.f k aN).bind fun iI => (if 1 + iI.size ≤ 9223372036854775807 then (if ((aE ++ (⟨#[58, 47, 47]⟩ : Y)) ++ aJ).size + ((⟨#[58]⟩ : Y) ++ iI).size ≤ 9223372036854775807 then (Yx.j0 k (((aE ++ (⟨#[58, 47, 47]⟩ : Y)) ++ aJ) ++ ((⟨#[58]⟩ : Y) ++ iI)) aE aJ aN aG aM aK aU aV) else (none)) else (none)))) else (none)) else (none)
theorem Yx.calls (k : Nat) (aE aJ : Y) (aN : Int) (aG aM aK : Y) (aU aV : Bool) (r : Y) (w : World) (hE : EnvOk w) (h : Yx.f k aE aJ aN aG aM aK aU aV = some r) :
  Calls Tryz.prog 25 #[.agg #[.string aE, .string aJ, .int .i64 aN, .string aG, .string aM, .string aK, .bool aU, .bool aV]] w fun e w' => e = .returned (.string r) ∧ Below w.heap.size w w' := by
 have bQ := Tryz.underlying25
 have HE := Ya.mk hE
 clear hE
 have HB := Ya.mk (Below.refl w.heap.size w)
 have H : (if aE.size + 3 ≤ 9223372036854775807 then (if (aE ++ (⟨#[58, 47, 47]⟩ : Y)).size + aJ.size ≤ 9223372036854775807 then (if aN = 0 then (Yx.j0 k ((aE ++ (⟨#[58, 47, 47]⟩ : Y)) ++ aJ) aE aJ aN aG aM aK aU aV) else ((Ytc.f k aN).bind fun iI => (if 1 + iI.size ≤ 9223372036854775807 then (if ((aE ++ (⟨#[58, 47, 47]⟩ : Y)) ++ aJ).size + ((⟨#[58]⟩ : Y) ++ iI).size ≤ 9223372036854775807 then (Yx.j0 k (((aE ++ (⟨#[58, 47, 47]⟩ : Y)) ++ aJ) ++ ((⟨#[58]⟩ : Y) ++ iI)) aE aJ aN aG aM aK aU aV) else (none)) else (none)))) else (none)) else (none)) = some r := h
 clear h
 by_cases c2 : aE.size + 3 ≤ 9223372036854775807
 rotate_left
 ·rw [if_neg c2] at H
  exact absurd H Zv
 rw [if_pos c2] at H
 have eS := Kt c2
 have kC : decide (aE.size + 3 ≤ 9223372036854775807) = true := Kr c2
 try have aFw : (9223372036854775807 < aE.size + 3) = False := eq_false (Nat.not_lt.2 c2)
 by_cases c3 : (aE ++ (⟨#[58, 47, 47]⟩ : Y)).size + aJ.size ≤ 9223372036854775807
 rotate_left
 ·rw [if_neg c3] at H
  exact absurd H Zv
 rw [if_pos c3] at H
 have cC := Kt c3
 have fX : decide ((aE ++ (⟨#[58, 47, 47]⟩ : Y)).size + aJ.size ≤ 9223372036854775807) = true := Kr c3
 try have aAI : (9223372036854775807 < (aE ++ (⟨#[58, 47, 47]⟩ : Y)).size + aJ.size) = False := eq_false (Nat.not_lt.2 c3)
 have HC4 := Ya.mk H
 clear H
 go_enter Tryz.func25, Tryz.ntmps25
 go_upto_if 12 with (first | ((with_reducible refine Ybd (N := 1) rfl ?_); refine Yzc ?hg (N := 1) ?hd (cs := #[.string aE, .string aJ, .int .i64 aN, .string aG, .string aM, .string aK, .bool aU, .bool aV]) (t := 25) ?hr ?_; (case hd => rfl); (case hg => rfl); (case hr => first | (go_simp; done) | (go_simp; rfl)); intro bR hg w5 hbox hb; have aH := Ya.mk (Yt Za hb); have aR := Ya.mk (hbox); have bK := Ya.mk ((by rw [hg]; exact (Yka Za) : w.heap.size ≤ bR)); have dM := Ya.mk ((by rw [hg]; exact (Yka Za) : w.heap.size ≤ bR)); clear HB; have HB := aH; have bB := aR; have aXr := bK; have aHn := dM; clear aH aR bK dM; clear hb hbox hg; obtain ⟨nJ, nK, nM, nN, nO, nP, nQ, nR, nS, nT, nU, nV, nW, nX, nY, nZ⟩ := Ka bB.out))
 (try simp only [Act.put, Kca])
 go_cut [3] (fun v3 wc => ∃ (kq : Nat) (gP : Y), v3 = .string gP ∧ Ya (Yx.j0 kq gP aE aJ aN aG aM aK aU aV = some r) ∧ Ya (kq ≤ k) ∧ Ya (wc.heap[bR]? = some (.cells #[.string aE, .string aJ, .int .i64 aN, .string aG, .string aM, .string aK, .bool aU, .bool aV] 25 (0, 0))) ∧ Ya (Below w.heap.size w wc))
 case first =>
  have H := HC4.out
  clear HC4
  by_cases c7 : aN = 0
  ·rw [if_pos c7] at H
   have cW : (aN == 0) = true := Kba c7
   have iD : (aN != 0) = false := Ky c7
   clear c7
   (first | rw [cW] | (simp only [Yaa, Yda]; rw [cW]) | skip)
   have H' := Ya.mk H
   clear H
   go_wp2
   go_meet
   case rel => exact ⟨_, ((aE ++ (⟨#[58, 47, 47]⟩ : Y)) ++ aJ), Zf, H', ⟨Zla⟩, ⟨Zza⟩, ⟨Zw⟩⟩
  rw [if_neg c7] at H
  have cW : (aN == 0) = false := Kz c7
  have iD : (aN != 0) = true := Kaa c7
  (first | rw [cW] | (simp only [Yaa, Yda]; rw [cW]) | skip)
  obtain ⟨iI, wF, H⟩ := Ku H
  try dsimp -simprocs only at H
  have A8 := Ya.mk wF
  clear wF
  by_cases c9 : 1 + iI.size ≤ 9223372036854775807
  rotate_left
  ·rw [if_neg c9] at H
   exact absurd H Zv
  rw [if_pos c9] at H
  have iC := Kt c9
  have lT : decide (1 + iI.size ≤ 9223372036854775807) = true := Kr c9
  try have zO : (9223372036854775807 < 1 + iI.size) = False := eq_false (Nat.not_lt.2 c9)
  by_cases dP : ((aE ++ (⟨#[58, 47, 47]⟩ : Y)) ++ aJ).size + ((⟨#[58]⟩ : Y) ++ iI).size ≤ 9223372036854775807
  rotate_left
  ·rw [if_neg dP] at H
   exact absurd H Zv
  rw [if_pos dP] at H
  have hD := Kt dP
  have aAV : decide (((aE ++ (⟨#[58, 47, 47]⟩ : Y)) ++ aJ).size + ((⟨#[58]⟩ : Y) ++ iI).size ≤ 9223372036854775807) = true := Kr dP
  try have aKd : (9223372036854775807 < ((aE ++ (⟨#[58, 47, 47]⟩ : Y)) ++ aJ).size + ((⟨#[58]⟩ : Y) ++ iI).size) = False := eq_false (Nat.not_lt.2 dP)
  have H' := Ya.mk H
  clear H
  obtain ⟨lV, lW, lX, lY, lZ, mA, mB, mC, mD, mE, mF, mG, mH, mI, mJ, mK⟩ := Ka bB.out
  go_wp2_with (first | ((with_reducible refine Yh (f := 67) rfl ?_); refine Yca (some 16) rfl rfl Tryz.func67 Zi rfl #[.int .i64 aN] rfl Zb ?_; (with_reducible refine (Ytc.calls k aN iI _ ?z1 A8.out).mono ?_); (case z1 => first | exact HE.out | exact EnvOk.below HE.out Zw); rintro e uS ⟨rfl, hb⟩; refine ⟨_, rfl, ?_⟩; replace bB := Ya.mk (Ykb (g := bR) (o := .cells #[.string aE, .string aJ, .int .i64 aN, .string aG, .string aM, .string aK, .bool aU, .bool aV] 25 (0, 0)) Zza hb); replace HB := Ya.mk (Yt Zw hb); (try clear hb)))
  go_meet
  case rel => exact ⟨_, (((aE ++ (⟨#[58, 47, 47]⟩ : Y)) ++ aJ) ++ ((⟨#[58]⟩ : Y) ++ iI)), Zf, H', ⟨Zla⟩, ⟨Zza⟩, ⟨Zw⟩⟩
 case rest =>
  clear HC4
  try clear c2
  try clear eS
  try clear kC
  try clear aFw
  try clear c3
  try clear cC
  try clear fX
  try clear aAI
  try clear nJ
  try clear nK
  try clear nM
  try clear nN
  try clear nO
  try clear nP
  try clear nQ
  try clear nR
  try clear nS
  try clear nT
  try clear nU
  try clear nV
  try clear nW
  try clear nX
  try clear nY
  try clear nZ
  obtain ⟨kq, gP, rfl, HA, HJ3, bB, HB⟩ := hcut
  cases kq with
  | zero => exact absurd HA.out (by simp [Yx.j0])
  | succ kj3 =>
   have H := HA.out
   clear HA
   simp only [Yx.j0] at H
   by_cases eM : gP.size + aG.size ≤ 9223372036854775807
   rotate_left
   ·rw [if_neg eM] at H
    exact absurd H Zv
   rw [if_pos eM] at H
   have hG := Kt eM
   have aEX : decide (gP.size + aG.size ≤ 9223372036854775807) = true := Kr eM
   try have aXs : (9223372036854775807 < gP.size + aG.size) = False := eq_false (Nat.not_lt.2 eM)
   by_cases gQ : aU = true
   rotate_left
   ·replace gQ := Kx gQ
    subst gQ
    rw [if_neg (show ¬ (false = true) by decide)] at H
    by_cases iF : aV = true
    rotate_left
    ·replace iF := Kx iF
     subst iF
     rw [if_neg (show ¬ (false = true) by decide)] at H
     obtain rfl := Kv H
     obtain ⟨aSP, aSQ, aSR, aSS, aST, aSU, aSV, aSW, aSX, aSY, aSZ, aTa, aTb, aTc, aTd, aTe⟩ := Ka bB.out
     go_wp2
     go_ret
     exact ⟨Zl, Zw⟩
    subst iF
    rw [if_pos rfl] at H
    by_cases jK : 1 + aK.size ≤ 9223372036854775807
    rotate_left
    ·rw [if_neg jK] at H
     exact absurd H Zv
    rw [if_pos jK] at H
    have oC := Kt jK
    have oD : decide (1 + aK.size ≤ 9223372036854775807) = true := Kr jK
    try have aHQ : (9223372036854775807 < 1 + aK.size) = False := eq_false (Nat.not_lt.2 jK)
    by_cases kB : (gP ++ aG).size + ((⟨#[35]⟩ : Y) ++ aK).size ≤ 9223372036854775807
    rotate_left
    ·rw [if_neg kB] at H
     exact absurd H Zv
    rw [if_pos kB] at H
    have pY := Kt kB
    have pZ : decide ((gP ++ aG).size + ((⟨#[35]⟩ : Y) ++ aK).size ≤ 9223372036854775807) = true := Kr kB
    try have aXt : (9223372036854775807 < (gP ++ aG).size + ((⟨#[35]⟩ : Y) ++ aK).size) = False := eq_false (Nat.not_lt.2 kB)
    obtain rfl := Kv H
    obtain ⟨qR, qS, qT, qU, qV, qW, qX, qY, qZ, rA, rB, rC, rD, rE, rF, rG⟩ := Ka bB.out
    go_wp2
    go_ret
    exact ⟨Zl, Zw⟩
   subst gQ
   rw [if_pos rfl] at H
   by_cases dG : 1 + aM.size ≤ 9223372036854775807
   rotate_left
   ·rw [if_neg dG] at H
    exact absurd H Zv
   rw [if_pos dG] at H
   have eT := Kt dG
   have pR : decide (1 + aM.size ≤ 9223372036854775807) = true := Kr dG
   try have aXu : (9223372036854775807 < 1 + aM.size) = False := eq_false (Nat.not_lt.2 dG)
   by_cases eO : (gP ++ aG).size + ((⟨#[63]⟩ : Y) ++ aM).size ≤ 9223372036854775807
   rotate_left
   ·rw [if_neg eO] at H
    exact absurd H Zv
   rw [if_pos eO] at H
   have hF := Kt eO
   have kF : decide ((gP ++ aG).size + ((⟨#[63]⟩ : Y) ++ aM).size ≤ 9223372036854775807) = true := Kr eO
   try have aXv : (9223372036854775807 < (gP ++ aG).size + ((⟨#[63]⟩ : Y) ++ aM).size) = False := eq_false (Nat.not_lt.2 eO)
   by_cases eG : aV = true
   rotate_left
   ·replace eG := Kx eG
    subst eG
    rw [if_neg (show ¬ (false = true) by decide)] at H
    obtain rfl := Kv H
    obtain ⟨aTf, aTg, aTh, aTi, aTj, aTk, aTl, aTm, aTn, aTo, aTp, aTq, aTr, aTs, aTt, aTu⟩ := Ka bB.out
    go_wp2
    go_ret
    exact ⟨Zl, Zw⟩
   subst eG
   rw [if_pos rfl] at H
   by_cases eP : 1 + aK.size ≤ 9223372036854775807
   rotate_left
   ·rw [if_neg eP] at H
    exact absurd H Zv
   rw [if_pos eP] at H
   have oB := Kt eP
   have pS : decide (1 + aK.size ≤ 9223372036854775807) = true := Kr eP
   try have aEJ : (9223372036854775807 < 1 + aK.size) = False := eq_false (Nat.not_lt.2 eP)
   by_cases iK : ((gP ++ aG) ++ ((⟨#[63]⟩ : Y) ++ aM)).size + ((⟨#[35]⟩ : Y) ++ aK).size ≤ 9223372036854775807
   rotate_left
   ·rw [if_neg iK] at H
    exact absurd H Zv
   rw [if_pos iK] at H
   have kD := Kt iK
   have pP : decide (((gP ++ aG) ++ ((⟨#[63]⟩ : Y) ++ aM)).size + ((⟨#[35]⟩ : Y) ++ aK).size ≤ 9223372036854775807) = true := Kr iK
   try have aHP : (9223372036854775807 < ((gP ++ aG) ++ ((⟨#[63]⟩ : Y) ++ aM)).size + ((⟨#[35]⟩ : Y) ++ aK).size) = False := eq_false (Nat.not_lt.2 iK)
   obtain rfl := Kv H
   obtain ⟨aDu, aDv, aDw, aDx, aDy, aDz, aDA, aDB, aDC, aDD, aDE, aDF, aDG, aDH, aDI, aDJ⟩ := Ka bB.out
   go_wp2
   go_ret
   exact ⟨Zl, Zw⟩
def Yr.l0 : Nat → Y → Int → Option (Int)
 | 0, _, _ => none
 | k + 1, x0, x3 => if x3 < (x0.size : Int) then (if 0 ≤ x3 then ((Yta.f (bt x0 x3)).bind fun aCa => (if aCa = true then (Yr.l0 k x0 (wrap64 (x3 + 1))) else (if x3 > 0 then ((Yw.f (bt x0 x3)).bind fun oX => (if oX = true then (Yr.l0 k x0 (wrap64 (x3 + 1))) else ((Yia.f k (bt x0 x3) (⟨#[43, 45, 46]⟩ : Y)).bind fun rP => (if rP = true then (Yr.l0 k x0 (wrap64 (x3 + 1))) else (if x3 = 0 then (some 0) else (if x3 = (x0.size : Int) then (some 0) else (if (bt x0 x3) = 58 then (some (wrap64 (x3 + 1))) else (some 0)))))))) else (if x3 = 0 then (some 0) else (if x3 = (x0.size : Int) then (some 0) else (if (bt x0 x3) = 58 then (some (wrap64 (x3 + 1))) else (some 0))))))) else (none)) else (if x3 = 0 then (some 0) else (if x3 = (x0.size : Int) then (some 0) else (if 0 ≤ x3 then (none) else (none))))
def Yr.f (k : Nat) (a0 : Y) : Option (Int) := Yr.l0 k a0 0
theorem Yr.calls (k : Nat) (a0 : Y) (r : Int) (w : World) (hE : EnvOk w) (h : Yr.f k a0 = some r) :
  Calls Tryz.prog 46 #[.string a0] w fun e w' => e = .returned (.int .i64 r) ∧ Drawn0 w w' := by
 have HE := Ya.mk hE
 clear hE
 have H : (Yr.l0 k a0 0) = some r := h
 clear h
 have H' := Ya.mk H
 clear H
 go_enter Tryz.func46, Tryz.ntmps46
 go_wp2
 go_loopg [3] k (fun kq v3 w' => ∃ (aD : Int), v3 = .int .i64 aD ∧ Ya (Yr.l0 kq a0 aD = some r) ∧ Ya (kq ≤ k) ∧ Drawn0 w w')
 case atStart => exact ⟨(0), Zf, H', ⟨Kw _⟩, Zh⟩
 case round =>
  clear H'
  obtain ⟨aD, rfl, HA, dB, ⟨m1, rfl⟩⟩ := hrel
  cases gk with
  | zero => exact absurd HA.out (by simp [Yr.l0])
  | succ k1 =>
   have H := HA.out
   clear HA
   simp only [Yr.l0] at H
   by_cases c2 : aD < (a0.size : Int)
   rotate_left
   ·rw [if_neg c2] at H
    have eS : decide (aD < (a0.size : Int)) = false := Ks c2
    clear c2
    by_cases iF : aD = 0
    ·rw [if_pos iF] at H
     have lP : (aD == 0) = true := Kba iF
     have oN : (aD != 0) = false := Ky iF
     clear iF
     obtain rfl := Kv H
     go_wp2
     go_ret
     exact ⟨Zf, Zh⟩
    rw [if_neg iF] at H
    have lP : (aD == 0) = false := Kz iF
    have oN : (aD != 0) = true := Kaa iF
    by_cases jK : aD = (a0.size : Int)
    rotate_left
    ·rw [if_neg jK] at H
     have oC : (aD == (a0.size : Int)) = false := Kz jK
     have oD : (aD != (a0.size : Int)) = true := Kaa jK
     by_cases kB : 0 ≤ aD
     rotate_left
     ·rw [if_neg kB] at H
      exact absurd H Zv
     rw [if_pos kB] at H
     exact absurd H Zv
    rw [if_pos jK] at H
    have oC : (aD == (a0.size : Int)) = true := Kba jK
    have oD : (aD != (a0.size : Int)) = false := Ky jK
    clear jK
    obtain rfl := Kv H
    go_wp2
    go_ret
    exact ⟨Zf, Zh⟩
   rw [if_pos c2] at H
   have eS : decide (aD < (a0.size : Int)) = true := Kr c2
   clear c2
   by_cases c3 : 0 ≤ aD
   rotate_left
   ·rw [if_neg c3] at H
    exact absurd H Zv
   rw [if_pos c3] at H
   have cC : decide (0 ≤ aD) = true := Kr c3
   clear c3
   obtain ⟨aCa, tH, H⟩ := Ku H
   try dsimp -simprocs only at H
   have A5 := Ya.mk tH
   clear tH
   by_cases c6 : aCa = true
   ·subst c6
    rw [if_pos rfl] at H
    have H' := Ya.mk H
    clear H
    have p4 : (0 ≤ (aD : Int)) = True := Kp
    have q4 : aD < (a0.size : Int) := Kq Zc
    have jF := Ybb a0 aD
    replace q4 := Kt q4
    go_wp2_with (first | (go_at_call 86; (with_reducible refine (Yta.calls (bt a0 aD) true _ ?z1 A5.out).mono ?_); (case z1 => exact Kj); rintro e w' ⟨rfl, ⟨nd, rfl⟩⟩))
    go_roundg k1
    case measure => have := dB.out; omega
    case rel => exact ⟨(wrap64 (aD + 1)), Zf, H', ⟨Zba⟩, Zh⟩
   replace c6 := Kx c6
   subst c6
   rw [if_neg (show ¬ (false = true) by decide)] at H
   by_cases c7 : aD > 0
   rotate_left
   ·rw [if_neg c7] at H
    have cW : decide (0 < aD) = false := Ks c7
    clear c7
    by_cases eP : aD = 0
    ·rw [if_pos eP] at H
     have oB : (aD == 0) = true := Kba eP
     have pS : (aD != 0) = false := Ky eP
     clear eP
     obtain rfl := Kv H
     have p4 : (0 ≤ (aD : Int)) = True := Kp
     have q4 : aD < (a0.size : Int) := Kq Zc
     have jF := Ybb a0 aD
     replace q4 := Kt q4
     go_wp2_with (first | (go_at_call 86; (with_reducible refine (Yta.calls (bt a0 aD) false _ ?z1 A5.out).mono ?_); (case z1 => exact Kj); rintro e w' ⟨rfl, ⟨nd, rfl⟩⟩))
     go_ret
     exact ⟨Zf, Zh⟩
    rw [if_neg eP] at H
    have oB : (aD == 0) = false := Kz eP
    have pS : (aD != 0) = true := Kaa eP
    by_cases iK : aD = (a0.size : Int)
    ·rw [if_pos iK] at H
     have kD : (aD == (a0.size : Int)) = true := Kba iK
     have pP : (aD != (a0.size : Int)) = false := Ky iK
     clear iK
     obtain rfl := Kv H
     have p4 : (0 ≤ (aD : Int)) = True := Kp
     have q4 : aD < (a0.size : Int) := Kq Zc
     have jF := Ybb a0 aD
     replace q4 := Kt q4
     go_wp2_with (first | (go_at_call 86; (with_reducible refine (Yta.calls (bt a0 aD) false _ ?z1 A5.out).mono ?_); (case z1 => exact Kj); rintro e w' ⟨rfl, ⟨nd, rfl⟩⟩))
     go_ret
     exact ⟨Zf, Zh⟩
    rw [if_neg iK] at H
    have kD : (aD == (a0.size : Int)) = false := Kz iK
    have pP : (aD != (a0.size : Int)) = true := Kaa iK
    by_cases mN : (bt a0 aD) = 58
    rotate_left
    ·rw [if_neg mN] at H
     have zD : ((bt a0 aD) == 58) = false := Kz mN
     have aCb : ((bt a0 aD) != 58) = true := Kaa mN
     obtain rfl := Kv H
     have p4 : (0 ≤ (aD : Int)) = True := Kp
     have q4 : aD < (a0.size : Int) := Kq Zc
     have jF := Ybb a0 aD
     replace q4 := Kt q4
     go_wp2_with (first | (go_at_call 86; (with_reducible refine (Yta.calls (bt a0 aD) false _ ?z1 A5.out).mono ?_); (case z1 => exact Kj); rintro e w' ⟨rfl, ⟨nd, rfl⟩⟩; have p20 : (0 ≤ (aD : Int)) = True := Kp; have q20 : aD < (a0.size : Int) := Kq Zc; have aWj := Ybb a0 aD; replace q20 := Kt q20))
     go_ret
     exact ⟨Zf, Zh⟩
    rw [if_pos mN] at H
    have zD : ((bt a0 aD) == 58) = true := Kba mN
    have aCb : ((bt a0 aD) != 58) = false := Ky mN
    clear mN
    obtain rfl := Kv H
    have p4 : (0 ≤ (aD : Int)) = True := Kp
    have q4 : aD < (a0.size : Int) := Kq Zc
    have jF := Ybb a0 aD
    replace q4 := Kt q4
    go_wp2_with (first | (go_at_call 86; (with_reducible refine (Yta.calls (bt a0 aD) false _ ?z1 A5.out).mono ?_); (case z1 => exact Kj); rintro e w' ⟨rfl, ⟨nd, rfl⟩⟩; have p20 : (0 ≤ (aD : Int)) = True := Kp; have q20 : aD < (a0.size : Int) := Kq Zc; have aWj := Ybb a0 aD; replace q20 := Kt q20))
    go_ret
    exact ⟨Zf, Zh⟩
   rw [if_pos c7] at H
   have cW : decide (0 < aD) = true := Kr c7
   clear c7
   obtain ⟨oX, A90, H⟩ := Ku H
   try dsimp -simprocs only at H
   have A9 := Ya.mk A90
   clear A90
   by_cases dP : oX = true
   ·subst dP
    rw [if_pos rfl] at H
    have H' := Ya.mk H
    clear H
    have p4 : (0 ≤ (aD : Int)) = True := Kp
    have q4 : aD < (a0.size : Int) := Kq Zc
    have jF := Ybb a0 aD
    replace q4 := Kt q4
    go_wp2_with (first | (go_at_call 86; (with_reducible refine (Yta.calls (bt a0 aD) false _ ?z1 A5.out).mono ?_); (case z1 => exact Kj); rintro e w' ⟨rfl, ⟨nd, rfl⟩⟩; have p8 : (0 ≤ (aD : Int)) = True := Kp; have q8 : aD < (a0.size : Int) := Kq Zc; have hx8 := Ybb a0 aD; replace q8 := Kt q8) | (go_at_call 87; (with_reducible refine (Yw.calls (bt a0 aD) true _ ?z1 A9.out).mono ?_); (case z1 => exact Kj); rintro e w' ⟨rfl, ⟨nd, rfl⟩⟩))
    go_roundg k1
    case measure => have := dB.out; omega
    case rel => exact ⟨(wrap64 (aD + 1)), Zf, H', ⟨Zba⟩, Zh⟩
   replace dP := Kx dP
   subst dP
   rw [if_neg (show ¬ (false = true) by decide)] at H
   obtain ⟨rP, aBP, H⟩ := Ku H
   try dsimp -simprocs only at H
   have A12 := Ya.mk aBP
   clear aBP
   by_cases eM : rP = true
   ·subst eM
    rw [if_pos rfl] at H
    have H' := Ya.mk H
    clear H
    have p4 : (0 ≤ (aD : Int)) = True := Kp
    have q4 : aD < (a0.size : Int) := Kq Zc
    have jF := Ybb a0 aD
    replace q4 := Kt q4
    go_wp2_with (first | (go_at_call 86; (with_reducible refine (Yta.calls (bt a0 aD) false _ ?z1 A5.out).mono ?_); (case z1 => exact Kj); rintro e w' ⟨rfl, ⟨nd, rfl⟩⟩; have p8 : (0 ≤ (aD : Int)) = True := Kp; have q8 : aD < (a0.size : Int) := Kq Zc; have hx8 := Ybb a0 aD; replace q8 := Kt q8) | (go_at_call 87; (with_reducible refine (Yw.calls (bt a0 aD) false _ ?z1 A9.out).mono ?_); (case z1 => exact Kj); rintro e w' ⟨rfl, ⟨nd, rfl⟩⟩; have iN : (0 ≤ (aD : Int)) = True := Kp; have iO : aD < (a0.size : Int) := Kq Zc; have lE := Ybb a0 aD; replace iO := Kt iO) | (go_at_call 88; (with_reducible refine (Yia.calls k1 (bt a0 aD) (⟨#[43, 45, 46]⟩ : Y) true _ ?z1 A12.out).mono ?_); (case z1 => exact Kj); rintro e w' ⟨rfl, ⟨nd, rfl⟩⟩))
    go_roundg k1
    case measure => have := dB.out; omega
    case rel => exact ⟨(wrap64 (aD + 1)), Zf, H', ⟨Zba⟩, Zh⟩
   replace eM := Kx eM
   subst eM
   rw [if_neg (show ¬ (false = true) by decide)] at H
   by_cases gQ : aD = 0
   ·rw [if_pos gQ] at H
    have iE : (aD == 0) = true := Kba gQ
    have aKg : (aD != 0) = false := Ky gQ
    clear gQ
    obtain rfl := Kv H
    have p4 : (0 ≤ (aD : Int)) = True := Kp
    have q4 : aD < (a0.size : Int) := Kq Zc
    have jF := Ybb a0 aD
    replace q4 := Kt q4
    go_wp2_with (first | (go_at_call 86; (with_reducible refine (Yta.calls (bt a0 aD) false _ ?z1 A5.out).mono ?_); (case z1 => exact Kj); rintro e w' ⟨rfl, ⟨nd, rfl⟩⟩; have p8 : (0 ≤ (aD : Int)) = True := Kp; have q8 : aD < (a0.size : Int) := Kq Zc; have hx8 := Ybb a0 aD; replace q8 := Kt q8) | (go_at_call 87; (with_reducible refine (Yw.calls (bt a0 aD) false _ ?z1 A9.out).mono ?_); (case z1 => exact Kj); rintro e w' ⟨rfl, ⟨nd, rfl⟩⟩; have iN : (0 ≤ (aD : Int)) = True := Kp; have iO : aD < (a0.size : Int) := Kq Zc; have lE := Ybb a0 aD; replace iO := Kt iO) | (go_at_call 88; (with_reducible refine (Yia.calls k1 (bt a0 aD) (⟨#[43, 45, 46]⟩ : Y) false _ ?z1 A12.out).mono ?_); (case z1 => exact Kj); rintro e w' ⟨rfl, ⟨nd, rfl⟩⟩))
    go_ret
    exact ⟨Zf, Zh⟩
   rw [if_neg gQ] at H
   have iE : (aD == 0) = false := Kz gQ
   have aKg : (aD != 0) = true := Kaa gQ
   by_cases dG : aD = (a0.size : Int)
   ·rw [if_pos dG] at H
    have eT : (aD == (a0.size : Int)) = true := Kba dG
    have pR : (aD != (a0.size : Int)) = false := Ky dG
    clear dG
    obtain rfl := Kv H
    have p4 : (0 ≤ (aD : Int)) = True := Kp
    have q4 : aD < (a0.size : Int) := Kq Zc
    have jF := Ybb a0 aD
    replace q4 := Kt q4
    go_wp2_with (first | (go_at_call 86; (with_reducible refine (Yta.calls (bt a0 aD) false _ ?z1 A5.out).mono ?_); (case z1 => exact Kj); rintro e w' ⟨rfl, ⟨nd, rfl⟩⟩; have p8 : (0 ≤ (aD : Int)) = True := Kp; have q8 : aD < (a0.size : Int) := Kq Zc; have hx8 := Ybb a0 aD; replace q8 := Kt q8) | (go_at_call 87; (with_reducible refine (Yw.calls (bt a0 aD) false _ ?z1 A9.out).mono ?_); (case z1 => exact Kj); rintro e w' ⟨rfl, ⟨nd, rfl⟩⟩; have iN : (0 ≤ (aD : Int)) = True := Kp; have iO : aD < (a0.size : Int) := Kq Zc; have lE := Ybb a0 aD; replace iO := Kt iO) | (go_at_call 88; (with_reducible refine (Yia.calls k1 (bt a0 aD) (⟨#[43, 45, 46]⟩ : Y) false _ ?z1 A12.out).mono ?_); (case z1 => exact Kj); rintro e w' ⟨rfl, ⟨nd, rfl⟩⟩))
    go_ret
    exact ⟨Zf, Zh⟩
   rw [if_neg dG] at H
   have eT : (aD == (a0.size : Int)) = false := Kz dG
   have pR : (aD != (a0.size : Int)) = true := Kaa dG
   by_cases eG : (bt a0 aD) = 58
   rotate_left
   ·rw [if_neg eG] at H
    have jO : ((bt a0 aD) == 58) = false := Kz eG
    have lN : ((bt a0 aD) != 58) = true := Kaa eG
    obtain rfl := Kv H
    have p4 : (0 ≤ (aD : Int)) = True := Kp
    have q4 : aD < (a0.size : Int) := Kq Zc
    have jF := Ybb a0 aD
    replace q4 := Kt q4
    go_wp2_with (first | (go_at_call 86; (with_reducible refine (Yta.calls (bt a0 aD) false _ ?z1 A5.out).mono ?_); (case z1 => exact Kj); rintro e w' ⟨rfl, ⟨nd, rfl⟩⟩; have p8 : (0 ≤ (aD : Int)) = True := Kp; have q8 : aD < (a0.size : Int) := Kq Zc; have hx8 := Ybb a0 aD; replace q8 := Kt q8) | (go_at_call 87; (with_reducible refine (Yw.calls (bt a0 aD) false _ ?z1 A9.out).mono ?_); (case z1 => exact Kj); rintro e w' ⟨rfl, ⟨nd, rfl⟩⟩; have iN : (0 ≤ (aD : Int)) = True := Kp; have iO : aD < (a0.size : Int) := Kq Zc; have lE := Ybb a0 aD; replace iO := Kt iO) | (go_at_call 88; (with_reducible refine (Yia.calls k1 (bt a0 aD) (⟨#[43, 45, 46]⟩ : Y) false _ ?z1 A12.out).mono ?_); (case z1 => exact Kj); rintro e w' ⟨rfl, ⟨nd, rfl⟩⟩; have p16 : (0 ≤ (aD : Int)) = True := Kp; have q16 : aD < (a0.size : Int) := Kq Zc; have aGf := Ybb a0 aD; replace q16 := Kt q16))
    go_ret
    exact ⟨Zf, Zh⟩
   rw [if_pos eG] at H
   have jO : ((bt a0 aD) == 58) = true := Kba eG
   have lN : ((bt a0 aD) != 58) = false := Ky eG
   clear eG
   obtain rfl := Kv H
   have p4 : (0 ≤ (aD : Int)) = True := Kp
   have q4 : aD < (a0.size : Int) := Kq Zc
   have jF := Ybb a0 aD
   replace q4 := Kt q4
   go_wp2_with (first | (go_at_call 86; (with_reducible refine (Yta.calls (bt a0 aD) false _ ?z1 A5.out).mono ?_); (case z1 => exact Kj); rintro e w' ⟨rfl, ⟨nd, rfl⟩⟩; have p8 : (0 ≤ (aD : Int)) = True := Kp; have q8 : aD < (a0.size : Int) := Kq Zc; have hx8 := Ybb a0 aD; replace q8 := Kt q8) | (go_at_call 87; (with_reducible refine (Yw.calls (bt a0 aD) false _ ?z1 A9.out).mono ?_); (case z1 => exact Kj); rintro e w' ⟨rfl, ⟨nd, rfl⟩⟩; have iN : (0 ≤ (aD : Int)) = True := Kp; have iO : aD < (a0.size : Int) := Kq Zc; have lE := Ybb a0 aD; replace iO := Kt iO) | (go_at_call 88; (with_reducible refine (Yia.calls k1 (bt a0 aD) (⟨#[43, 45, 46]⟩ : Y) false _ ?z1 A12.out).mono ?_); (case z1 => exact Kj); rintro e w' ⟨rfl, ⟨nd, rfl⟩⟩; have p16 : (0 ≤ (aD : Int)) = True := Kp; have q16 : aD < (a0.size : Int) := Kq Zc; have aGf := Ybb a0 aD; replace q16 := Kt q16))
   go_ret
   exact ⟨Zf, Zh⟩
def Ygj.f (aE aJ : Y) (aN : Int) (aG aM aK : Y) (aU aV : Bool) : Option (Y × Y × Int × Y × Y × Y × Bool × Bool) := some (aE, aJ, aN, aG, aM, (⟨#[]⟩ : Y), aU, false)
theorem Ygj.calls (aE aJ : Y) (aN : Int) (aG aM aK : Y) (aU aV : Bool) (r1 r2 : Y) (r3 : Int) (r4 r5 r6 : Y) (r7 r8 : Bool) (w : World) (hE : EnvOk w) (h : Ygj.f aE aJ aN aG aM aK aU aV = some (r1, r2, r3, r4, r5, r6, r7, r8)) :
  Calls Tryz.prog 28 #[.agg #[.string aE, .string aJ, .int .i64 aN, .string aG, .string aM, .string aK, .bool aU, .bool aV]] w fun e w' => e = .returned (.agg #[.string r1, .string r2, .int .i64 r3, .string r4, .string r5, .string r6, .bool r7, .bool r8]) ∧ Below w.heap.size w w' := by
 have bQ := Tryz.underlying25
 have HE := Ya.mk hE
 clear hE
 have HB := Ya.mk (Below.refl w.heap.size w)
 have H : (some (aE, aJ, aN, aG, aM, (⟨#[]⟩ : Y), aU, false)) = some (r1, r2, r3, r4, r5, r6, r7, r8) := h
 clear h
 simp only [Kda, Kea] at H
 obtain ⟨rfl, rfl, rfl, rfl, rfl, rfl, rfl, rfl⟩ := H
 go_enter Tryz.func28, Tryz.ntmps28
 go_wp2_with (first | ((with_reducible refine Ybd (N := 1) rfl ?_); refine Yzc ?hg (N := 1) ?hd (cs := #[.string aE, .string aJ, .int .i64 aN, .string aG, .string aM, .string aK, .bool aU, .bool aV]) (t := 25) ?hr ?_; (case hd => rfl); (case hg => rfl); (case hr => first | (go_simp; done) | (go_simp; rfl)); intro gV hg w2 hbox hb; have aH := Ya.mk (Yt Za hb); have aR := Ya.mk (hbox); have bK := Ya.mk ((by rw [hg]; exact (Yka Za) : w.heap.size ≤ gV)); have dM := Ya.mk ((by rw [hg]; exact (Yka Za) : w.heap.size ≤ gV)); clear HB; have HB := aH; have eR := aR; have aXw := bK; have aED := dM; clear aH aR bK dM; clear hb hbox hg) | ((with_reducible refine Ybd (N := 2) rfl ?_); refine Yzc ?hg (N := 2) ?hd (cs := #[.string (⟨#[]⟩ : Y), .string (⟨#[]⟩ : Y), .int .i64 0, .string (⟨#[]⟩ : Y), .string (⟨#[]⟩ : Y), .string (⟨#[]⟩ : Y), .bool false, .bool false]) (t := 25) ?hr ?_; (case hd => rfl); (case hg => rfl); (case hr => first | (go_simp; done) | (go_simp; rfl)); intro iJ hg w3 hbox hb; have aH := Ya.mk (Ykb (g := gV) (o := .cells #[.string aE, .string aJ, .int .i64 aN, .string aG, .string aM, .string aK, .bool aU, .bool aV] 25 (0, 0)) Zab hb); have aR := Ya.mk (Yt Zta hb); have bK := Ya.mk (hbox); have dM := Ya.mk ((by rw [hg]; exact (Yka Zta) : w.heap.size ≤ iJ)); have qC := Ya.mk ((by rw [hg]; exact (Yka Zta) : w.heap.size ≤ iJ)); have qD := Ya.mk ((by rw [hg]; exact Nat.ne_of_lt (Yyd (g := gV) (o := .cells #[.string aE, .string aJ, .int .i64 aN, .string aG, .string aM, .string aK, .bool aU, .bool aV] 25 (0, 0)) Zab) : gV ≠ iJ)); have qE := Ya.mk ((by rw [hg]; exact Nat.ne_of_gt (Yyd (g := gV) (o := .cells #[.string aE, .string aJ, .int .i64 aN, .string aG, .string aM, .string aK, .bool aU, .bool aV] 25 (0, 0)) Zab) : iJ ≠ gV)); clear eR; clear HB; have eR := aH; have HB := aR; have gK := bK; have aXx := dM; have aKh := qC; have aAb := qD; have lG := qE; clear aH aR bK dM qC qD qE; clear hb hbox hg; have aYu := aAb.out; have aYv := lG.out; obtain ⟨aCc, aCd, aCe, aCf, aCg, aCh, aCi, aCj, aCk, aCl, aCm, aCn, aCo, aCp, aCq, aCr⟩ := Ka eR.out; obtain ⟨nJ, nK, nM, nN, nO, nP, nQ, nR, nS, nT, nU, nV, nW, nX, nY, nZ⟩ := Ka gK.out))
 refine bodyPost_ret (results_cell_row rfl _ _ iJ 25 #[.string aE, .string aJ, .int .i64 aN, .string aG, .string aM, .string (⟨#[]⟩ : Y), .bool aU, .bool false] (0, 0) _ rfl (by (with_reducible repeat (first | refine Yi ?_ _ | refine Yp ?_ | refine Ym ?_ _)); refine Yoa (cs := #[.string aE, .string aJ, .int .i64 aN, .string aG, .string aM, .string (⟨#[]⟩ : Y), .bool aU, .bool false]) ?_ 7 _ rfl; (with_reducible repeat (first | refine Yi ?_ _ | refine Yp ?_ | refine Ym ?_ _)); refine Yoa (cs := #[.string aE, .string aJ, .int .i64 aN, .string aG, .string aM, .string (⟨#[]⟩ : Y), .bool false, .bool false]) ?_ 6 _ rfl; (with_reducible repeat (first | refine Yi ?_ _ | refine Yp ?_ | refine Ym ?_ _)); refine Yoa (cs := #[.string aE, .string aJ, .int .i64 aN, .string aG, .string aM, .string (⟨#[]⟩ : Y), .bool false, .bool false]) ?_ 5 _ rfl; (with_reducible repeat (first | refine Yi ?_ _ | refine Yp ?_ | refine Ym ?_ _)); refine Yoa (cs := #[.string aE, .string aJ, .int .i64 aN, .string aG, .string (⟨#[]⟩ : Y), .string (⟨#[]⟩ : Y), .bool false, .bool false]) ?_ 4 _ rfl; (with_reducible repeat (first | refine Yi ?_ _ | refine Yp ?_ | refine Ym ?_ _)); refine Yoa (cs := #[.string aE, .string aJ, .int .i64 aN, .string (⟨#[]⟩ : Y), .string (⟨#[]⟩ : Y), .string (⟨#[]⟩ : Y), .bool false, .bool false]) ?_ 3 _ rfl; (with_reducible repeat (first | refine Yi ?_ _ | refine Yp ?_ | refine Ym ?_ _)); refine Yoa (cs := #[.string aE, .string aJ, .int .i64 0, .string (⟨#[]⟩ : Y), .string (⟨#[]⟩ : Y), .string (⟨#[]⟩ : Y), .bool false, .bool false]) ?_ 2 _ rfl; (with_reducible repeat (first | refine Yi ?_ _ | refine Yp ?_ | refine Ym ?_ _)); refine Yoa (cs := #[.string aE, .string (⟨#[]⟩ : Y), .int .i64 0, .string (⟨#[]⟩ : Y), .string (⟨#[]⟩ : Y), .string (⟨#[]⟩ : Y), .bool false, .bool false]) ?_ 1 _ rfl; (with_reducible repeat (first | refine Yi ?_ _ | refine Yp ?_ | refine Ym ?_ _)); refine Yoa (cs := #[.string (⟨#[]⟩ : Y), .string (⟨#[]⟩ : Y), .int .i64 0, .string (⟨#[]⟩ : Y), .string (⟨#[]⟩ : Y), .string (⟨#[]⟩ : Y), .bool false, .bool false]) ?_ 0 _ rfl; (with_reducible repeat (first | refine Yi ?_ _ | refine Yp ?_ | refine Ym ?_ _)); refine Yvb ?_ lG.out _; (with_reducible repeat (first | refine Yi ?_ _ | refine Yp ?_ | refine Ym ?_ _)); refine Yvb ?_ lG.out _; (with_reducible repeat (first | refine Yi ?_ _ | refine Yp ?_ | refine Ym ?_ _)); exact gK.out) Tryz.underlying25 rfl Zi) rfl ?_
 exact ⟨Zl, by repeat (first | (with_reducible first | exact HB.out | apply Yd | apply Yb | apply Yc | refine Yg ?_ aED.out | refine Yg ?_ aKh.out) | exact HB.out)⟩
def Yzb.f (a0 : Y) : Option (Bool) := some (decide ((a0.size : Int) > 2200))
theorem Yzb.calls (a0 : Y) (r : Bool) (w : World) (hE : EnvOk w) (h : Yzb.f a0 = some r) :
  Calls Tryz.prog 31 #[.string a0] w fun e w' => e = .returned (.bool r) ∧ Drawn0 w w' := by
 have HE := Ya.mk hE
 clear hE
 have H : (some (decide ((a0.size : Int) > 2200))) = some r := h
 clear h
 obtain rfl := Kv H
 go_enter Tryz.func31, Tryz.ntmps31
 go_wp2
 go_ret
 exact ⟨Zf, Zh⟩
def Ynd.f (k : Nat) (aE aJ : Y) (aN : Int) (aG aM aK : Y) (aU aV : Bool) : Option (Bool) := (Yzb.f aE).bind fun aCs => (if aCs = true then (some true) else ((Yx.f k aE aJ aN aG aM aK aU aV).bind fun aAc => ((Yzb.f aAc).bind fun aCt => (some aCt))))
theorem Ynd.calls (k : Nat) (aE aJ : Y) (aN : Int) (aG aM aK : Y) (aU aV r : Bool) (w : World) (hE : EnvOk w) (h : Ynd.f k aE aJ aN aG aM aK aU aV = some r) :
  Calls Tryz.prog 30 #[.agg #[.string aE, .string aJ, .int .i64 aN, .string aG, .string aM, .string aK, .bool aU, .bool aV]] w fun e w' => e = .returned (.bool r) ∧ Below w.heap.size w w' := by
 have bQ := Tryz.underlying25
 have HE := Ya.mk hE
 clear hE
 have HB := Ya.mk (Below.refl w.heap.size w)
 have H : ((Yzb.f aE).bind fun aCs => (if aCs = true then (some true) else ((Yx.f k aE aJ aN aG aM aK aU aV).bind fun aAc => ((Yzb.f aAc).bind fun aCt => (some aCt))))) = some r := h
 clear h
 obtain ⟨aCs, dW, H⟩ := Ku H
 try dsimp -simprocs only at H
 have A2 := Ya.mk dW
 clear dW
 by_cases c3 : aCs = true
 ·subst c3
  rw [if_pos rfl] at H
  obtain rfl := Kv H
  go_enter Tryz.func30, Tryz.ntmps30
  go_wp2_with (first | ((with_reducible refine Ybd (N := 1) rfl ?_); refine Yzc ?hg (N := 1) ?hd (cs := #[.string aE, .string aJ, .int .i64 aN, .string aG, .string aM, .string aK, .bool aU, .bool aV]) (t := 25) ?hr ?_; (case hd => rfl); (case hg => rfl); (case hr => first | (go_simp; done) | (go_simp; rfl)); intro eC hg w4 hbox hb; have aH := Ya.mk (Yt Za hb); have aR := Ya.mk (hbox); have bK := Ya.mk ((by rw [hg]; exact (Yka Za) : w.heap.size ≤ eC)); have dM := Ya.mk ((by rw [hg]; exact (Yka Za) : w.heap.size ≤ eC)); clear HB; have HB := aH; have cJ := aR; have aKi := bK; have aEB := dM; clear aH aR bK dM; clear hb hbox hg; obtain ⟨aCc, aCd, aCe, aCf, aCg, aCh, aCi, aCj, aCk, aCl, aCm, aCn, aCo, aCp, aCq, aCr⟩ := Ka cJ.out) | ((with_reducible refine Yh (f := 31) rfl ?_); refine Yca (some 5) rfl rfl Tryz.func31 Zi rfl #[.string aE] rfl Zb ?_; (with_reducible refine (Yzb.calls aE true _ ?z1 A2.out).mono ?_); (case z1 => exact Kl); rintro e w' ⟨rfl, ⟨nd, rfl⟩⟩; refine ⟨_, rfl, ?_⟩))
  go_ret
  exact ⟨Zl, Zaa⟩
 replace c3 := Kx c3
 subst c3
 rw [if_neg (show ¬ (false = true) by decide)] at H
 obtain ⟨aAc, pQ, H⟩ := Ku H
 try dsimp -simprocs only at H
 have A6 := Ya.mk pQ
 clear pQ
 obtain ⟨aCt, oA, H⟩ := Ku H
 try dsimp -simprocs only at H
 have A7 := Ya.mk oA
 clear oA
 obtain rfl := Kv H
 go_enter Tryz.func30, Tryz.ntmps30
 go_wp2_with (first | ((with_reducible refine Ybd (N := 1) rfl ?_); refine Yzc ?hg (N := 1) ?hd (cs := #[.string aE, .string aJ, .int .i64 aN, .string aG, .string aM, .string aK, .bool aU, .bool aV]) (t := 25) ?hr ?_; (case hd => rfl); (case hg => rfl); (case hr => first | (go_simp; done) | (go_simp; rfl)); intro eC hg w8 hbox hb; have aH := Ya.mk (Yt Za hb); have aR := Ya.mk (hbox); have bK := Ya.mk ((by rw [hg]; exact (Yka Za) : w.heap.size ≤ eC)); have dM := Ya.mk ((by rw [hg]; exact (Yka Za) : w.heap.size ≤ eC)); clear HB; have HB := aH; have cJ := aR; have aKi := bK; have aEB := dM; clear aH aR bK dM; clear hb hbox hg; obtain ⟨rQ, rR, rS, rT, rU, rV, rW, rX, rY, rZ, sA, sB, sC, sD, sE, sF⟩ := Ka cJ.out) | ((with_reducible refine Yh (f := 31) rfl ?_); refine Yca (some 5) rfl rfl Tryz.func31 Zi rfl #[.string aE] rfl Zb ?_; (with_reducible refine (Yzb.calls aE false _ ?z1 A2.out).mono ?_); (case z1 => exact Kl); rintro e w' ⟨rfl, ⟨nd, rfl⟩⟩; refine ⟨_, rfl, ?_⟩) | (go_at_call 25; (with_reducible refine (Yx.calls k aE aJ aN aG aM aK aU aV aAc _ ?z1 A6.out).mono ?_); (case z1 => exact Kl); rintro e pN ⟨rfl, hb⟩; have aH := Ya.mk (Ykb (g := eC) (o := .cells #[.string aE, .string aJ, .int .i64 aN, .string aG, .string aM, .string aK, .bool aU, .bool aV] 25 (0, 0)) (by (with_reducible repeat (first | refine Yi ?_ _ | refine Yp ?_ | refine Ym ?_ _)); exact cJ.out) hb); have aR := Ya.mk (Yt Zaa hb); clear cJ; clear HB; have cJ := aH; have HB := aR; clear aH aR; (try clear hb)) | (go_at_call 31; (with_reducible refine (Yzb.calls aAc aCt _ ?z1 A7.out).mono ?_); (case z1 => exact Kl); rintro e w' ⟨rfl, ⟨nd, rfl⟩⟩))
 go_ret
 exact ⟨Zl, Zaa⟩
end Go.Proofs.YtnmglnglbdpjjaaGreatDoor.X
