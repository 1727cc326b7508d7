/- Printed by a program of ours: functions as plain Lean, and what a call of each does. -/
import Derived.Test.YtnmglnglbdpjjaaGreatDoorUkWords
import Derived.Test.YtnmglnglbdpjjaaGreatDoorUkX0
import Derived.Test.YtnmglnglbdpjjaaGreatDoorUkX5
import Derived.Test.YtnmglnglbdpjjaaGreatDoorUkX8
import Derived.Test.YtnmglnglbdpjjaaGreatDoorUkX9
namespace Go.Proofs.YtnmglnglbdpjjaaGreatDoor.X
open Go.RowKit Go.Yw.PrintWords Go.Yw.PrintLast Go.Yw.PrintMore
attribute [local go_sem] Yde Yee Ywe Yve Ypd Yod Yce Ybe
set_option linter.unusedVariables false
set_option linter.unusedSimpArgs false
mutual
def Yi.l0 : Nat → ByteArray → List ByteArray → Int → Option (Bool)
 | 0, _, _, _ => none
 | k + 1, x0, x3, x4 => if x4 < (x3.length : Int) then (if 0 ≤ x4 then (if ((rdOf ByteArray.empty x3 x4).size : Int) < 1 then (Yi.j1 k x0 x3 x4 true) else (Yi.j1 k x0 x3 x4 (decide (((rdOf ByteArray.empty x3 x4).size : Int) > 63)))) else (none)) else (if (x0.size : Int) > 253 then (some false) else (if 0 ≤ (wrap64 ((x3.length : Int) - 1)) then (if (wrap64 ((x3.length : Int) - 1)) < (x3.length : Int) then ((Yaa.f k (rdOf ByteArray.empty x3 (wrap64 ((x3.length : Int) - 1))) 4611686018427387904).bind fun aCf => (if aCf.2 = 3 then (some true) else (Yi.l2 k x3 0))) else (none)) else (none)))
def Yi.j1 : Nat → ByteArray → List ByteArray → Int → Bool → Option (Bool)
 | 0, _, _, _, _ => none
 | k + 1, x0, x3, x4, x31 => if x31 = true then (some false) else (Yi.l1 k x0 x3 x4 0)
def Yi.l1 : Nat → ByteArray → List ByteArray → Int → Int → Option (Bool)
 | 0, _, _, _, _ => none
 | k + 1, x0, x3, x4, x5 => if 0 ≤ x4 then (if x4 < (x3.length : Int) then (if x5 < ((rdOf ByteArray.empty x3 x4).size : Int) then (if 0 ≤ x5 then (if (bt (rdOf ByteArray.empty x3 x4) x5) ≥ 97 then (if (bt (rdOf ByteArray.empty x3 x4) x5) ≤ 122 then (Yi.l1 k x0 x3 x4 (wrap64 (x5 + 1))) else ((Yy.f (bt (rdOf ByteArray.empty x3 x4) x5)).bind fun aGz => (if aGz = true then (Yi.l1 k x0 x3 x4 (wrap64 (x5 + 1))) else (if (bt (rdOf ByteArray.empty x3 x4) x5) = 45 then (Yi.l1 k x0 x3 x4 (wrap64 (x5 + 1))) else (if ((bt (rdOf ByteArray.empty x3 x4) x5) = 95) then (Yi.l1 k x0 x3 x4 (wrap64 (x5 + 1))) else (some false)))))) else ((Yy.f (bt (rdOf ByteArray.empty x3 x4) x5)).bind fun aCg => (if aCg = true then (Yi.l1 k x0 x3 x4 (wrap64 (x5 + 1))) else (if (bt (rdOf ByteArray.empty x3 x4) x5) = 45 then (Yi.l1 k x0 x3 x4 (wrap64 (x5 + 1))) else (if ((bt (rdOf ByteArray.empty x3 x4) x5) = 95) then (Yi.l1 k x0 x3 x4 (wrap64 (x5 + 1))) else (some false)))))) else (none)) else (Yi.l0 k x0 x3 (wrap64 (x4 + 1)))) else (none)) else (none)
def Yi.l2 : Nat → List ByteArray → Int → Option (Bool)
 | 0, _, _ => none
 | k + 1, x3, x9 => if x9 < (x3.length : Int) then (if 0 ≤ x9 then ((Yrd.f k (rdOf ByteArray.empty x3 x9)).bind fun aGA => (if aGA = true then (Yi.l2 k x3 (wrap64 (x9 + 1))) else (some false))) else (none)) else (some ((x3.length : Int) == 4))
end
def Yi.f (k : Nat) (a0 : ByteArray) : Option (Bool) := (Yna.f k a0 46).bind fun bF => (Yi.l0 k a0 bF 0)
set_option maxHeartbeats 8000000 in
set_option maxRecDepth 100000 in
theorem Yi.calls (k : Nat) (a0 : ByteArray) (r : Bool) (w : World) (hE : EnvOk w) (h : Yi.f k a0 = some r) :
  Calls Tryz.prog 56 #[.string a0] w fun e w' => e = .returned (.bool r) ∧ Below w.heap.size w w' := by
 have HE := Ya.mk hE
 clear hE
 have HB := Ya.mk (Below.refl w.heap.size w)
 have H : ((Yna.f k a0 46).bind fun bF => (Yi.l0 k a0 bF 0)) = some r := h
 clear h
 replace H := Option.bind_eq_some_iff.mp H
 obtain ⟨bF, dU, H⟩ := H
 try dsimp -simprocs only at H
 have A2 := Ya.mk dU
 clear dU
 have H' := Ya.mk H
 clear H
 go_enter Tryz.func56, Tryz.ntmps56
 go_wp2_with (first | ((with_reducible refine Yh (f := 98) rfl ?_); refine Yba (some 11) rfl rfl Tryz.func98 Zi rfl #[.string a0, .int .u8 46] rfl Zb ?_; (with_reducible refine (Yna.calls k a0 46 bF _ ?side1 A2.out).mono ?_); (case side1 => first | exact HE.out | exact EnvOk.below HE.out Za); rintro e w3 ⟨aWq, rfl, qU, hb⟩; refine ⟨_, rfl, ?_⟩; have aM := Ya.mk (Kd.R_lower qU (Yda Za)); have aU := Ya.mk (Ys Za hb); clear HB; have aKo := aM; have HB := aU; clear aM aU; (try clear hb); (try clear cC); (try clear hk); (try clear hi); (try clear qU)))
 go_loopg [4] k (fun kq v4 w' => ∃ (aA : Int), v4 = .int .i64 aA ∧ Ya (Yi.l0 kq a0 bF aA = some r) ∧ Ya (kq ≤ k) ∧ Ya (Kd.R Kd.string 9 w' w.heap.size (fun _ => True) aWq bF) ∧ Ya (Below w.heap.size w w'))
 case atStart => exact ⟨(0), Zf, H', ⟨Nat.le_refl _⟩, ⟨by (with_reducible repeat (first | apply Kd.R_alloc | apply Kd.R_drewN | apply Kd.R_drew)); exact aKo.out⟩, ⟨Za⟩⟩
 case round =>
  clear H'
  try clear p2
  obtain ⟨aA, rfl, HA, dD, HO_3, HB⟩ := hrel
  cases gk with
  | zero => exact absurd HA.out (by simp [Yi.l0])
  | succ k1 =>
   have H := HA.out
   clear HA
   simp only [Yi.l0] at H
   by_cases c4 : aA < (bF.length : Int)
   rotate_left
   ·rw [if_neg c4] at H
    have cF : decide (aA < (bF.length : Int)) = false := decide_eq_false c4
    clear c4
    by_cases qN : (a0.size : Int) > 253
    ·rw [if_pos qN] at H
     have tR : decide (253 < (a0.size : Int)) = true := decide_eq_true qN
     have xN : decide (253 < a0.size) = true := decide_eq_true Zl
     clear qN
     obtain rfl := Option.some.inj H
     obtain ⟨aYB, aYC, aWr⟩ := Kd.R_slice HO_3.out
     subst aWr
     go_wp2
     go_ret
     exact ⟨Zk, Za⟩
    rw [if_neg qN] at H
    have tR : decide (253 < (a0.size : Int)) = false := decide_eq_false qN
    have xN : decide (253 < a0.size) = false := decide_eq_false Zl
    clear qN
    obtain ⟨ji27, qC⟩ : ∃ j_ : Int, (wrap64 ((bF.length : Int) - 1)) = j_ := ⟨_, rfl⟩
    replace H : (if 0 ≤ (ji27) then (if (ji27) < (bF.length : Int) then ((Yaa.f k1 (rdOf ByteArray.empty bF (ji27)) 4611686018427387904).bind fun aCf => (if aCf.2 = 3 then (some true) else (Yi.l2 k1 bF 0))) else (none)) else (none)) = some r := by first | (rw [qC] at H; exact H) | (simp only [qC] at H ⊢; exact H)
    have hji27w : (IntKind.i64.wrap ((bF.length : Int) - 1)) = ji27 := (Yma _).trans qC
    by_cases c28 : 0 ≤ (ji27)
    rotate_left
    ·rw [if_neg c28] at H
     exact absurd H Zv
    rw [if_pos c28] at H
    have aKp : decide (0 ≤ (ji27)) = true := decide_eq_true c28
    clear c28
    by_cases oX : (ji27) < (bF.length : Int)
    rotate_left
    ·rw [if_neg oX] at H
     exact absurd H Zv
    rw [if_pos oX] at H
    have aBJ : decide ((ji27) < (bF.length : Int)) = true := decide_eq_true oX
    clear oX
    replace H := Option.bind_eq_some_iff.mp H
    obtain ⟨⟨aKq, wO⟩, aCi, H⟩ := H
    try dsimp -simprocs only at H
    have jB := Ya.mk aCi
    clear aCi
    by_cases rS : wO = 3
    ·rw [if_pos rS] at H
     have aBP : (wO == 3) = true := beq_iff_eq.mpr rS
     have aBQ : (wO != 3) = false := bne_eq_false_iff_eq.mpr rS
     clear rS
     obtain rfl := Option.some.inj H
     obtain ⟨aYD, aYE, aWs⟩ := Kd.R_slice HO_3.out
     subst aWs
     have uR : 0 ≤ ((ji27) : Int) := of_decide_eq_true Zc
     have uS : (ji27) < (bF.length : Int) := of_decide_eq_true Zc
     obtain ⟨aAj, aGB, aAk⟩ := Kd.at_string (Kd.R_reads' HO_3.out).2.2 (ji27) uR uS
     cases aGB
     replace uR := eq_true uR
     replace uS := eq_true uS
     go_wp2_with (first | ((with_reducible refine Yh (f := 89) rfl ?_); refine Yba (some 76) rfl rfl Tryz.func89 Zi rfl #[.string (rdOf ByteArray.empty bF (ji27)), .int .i64 4611686018427387904] rfl (by (try simp only [List.map_toArray, List.map_cons, List.map_nil]); first | done | (simp only [qC]; rfl) | rfl | (simp only [List.length_drop, List.length_take]; rfl)) ?_; (with_reducible refine (Yaa.calls k1 (rdOf ByteArray.empty bF (ji27)) 4611686018427387904 aKq wO _ ?side1 jB.out).mono ?_); (case side1 => first | exact HE.out | exact EnvOk.below HE.out Za); rintro e w' ⟨rfl, ⟨nd, rfl⟩⟩; refine ⟨_, rfl, ?_⟩))
     go_ret
     exact ⟨Zua, Za⟩
    rw [if_neg rS] at H
    have aBP : (wO == 3) = false := beq_eq_false_iff_ne.mpr rS
    have aBQ : (wO != 3) = true := bne_iff_ne.mpr rS
    have H' := Ya.mk H
    clear H
    obtain ⟨aYF, aWt, aWu⟩ := Kd.R_slice HO_3.out
    subst aWu
    have uR : 0 ≤ ((ji27) : Int) := of_decide_eq_true Zc
    have uS : (ji27) < (bF.length : Int) := of_decide_eq_true Zc
    obtain ⟨aAj, aGB, aAk⟩ := Kd.at_string (Kd.R_reads' HO_3.out).2.2 (ji27) uR uS
    cases aGB
    replace uR := eq_true uR
    replace uS := eq_true uS
    go_wp2_with (first | ((with_reducible refine Yh (f := 89) rfl ?_); refine Yba (some 76) rfl rfl Tryz.func89 Zi rfl #[.string (rdOf ByteArray.empty bF (ji27)), .int .i64 4611686018427387904] rfl (by (try simp only [List.map_toArray, List.map_cons, List.map_nil]); first | done | (simp only [qC]; rfl) | rfl | (simp only [List.length_drop, List.length_take]; rfl)) ?_; (with_reducible refine (Yaa.calls k1 (rdOf ByteArray.empty bF (ji27)) 4611686018427387904 aKq wO _ ?side1 jB.out).mono ?_); (case side1 => first | exact HE.out | exact EnvOk.below HE.out Za); rintro e w' ⟨rfl, ⟨nd, rfl⟩⟩; refine ⟨_, rfl, ?_⟩))
    go_loopg [9] k1 (fun kq v9 w' => ∃ (iZ : Int), v9 = .int .i64 iZ ∧ Ya (Yi.l2 kq bF iZ = some r) ∧ Ya (kq ≤ k1) ∧ Ya (Kd.R Kd.string 9 w' w.heap.size (fun _ => True) (.slice (some aAj) bF.length aWt) bF) ∧ Ya (Below w.heap.size w w'))
    case atStart => exact ⟨(0), Zf, H', ⟨Nat.le_refl _⟩, ⟨Zm⟩, ⟨Za⟩⟩
    case round =>
     clear H'
     try clear c1
     try clear p1
     try clear q1
     try clear xI
     try clear c2
     try clear p2
     try clear q2
     try clear wM
     try clear c3
     try clear c4
     try clear cF
     try clear c5
     try clear p6
     try clear c7
     try clear dA
     try clear c8
     try clear gZ
     try clear jE
     try clear c9
     try clear dR
     try clear hH
     try clear c11
     try clear gU
     try clear dG
     try clear dV
     try clear eN
     try clear hM
     try clear iQ
     try clear iR
     try clear lF
     try clear dJ
     try clear eU
     try clear eP
     try clear hJ
     try clear eQ
     try clear iP
     try clear kH
     try clear qG
     try clear hD
     try clear kJ
     try clear tK
     try clear p21
     try clear q21
     try clear aDF
     try clear iJ
     try clear p22
     try clear q22
     try clear aWn
     try clear jM
     try clear oH
     try clear oI
     try clear kE
     try clear qP
     try clear qQ
     try clear qN
     try clear tR
     try clear xN
     try clear c28
     try clear aKp
     try clear oX
     try clear aBJ
     try clear rS
     try clear aBP
     try clear aBQ
     try clear mR
     try clear rY
     try clear gJ
     try clear gT
     try clear aAk
     try clear iQ
     try clear p2
     try clear pX
     try clear aAB
     try clear dH
     try clear dS
     try clear uR
     try clear iR
     try clear q2
     try clear pY
     try clear aAC
     try clear dI
     try clear dT
     try clear uS
     obtain ⟨iZ, rfl, HA, kB, HO_3, HB⟩ := hrel
     cases gk with
     | zero => exact absurd HA.out (by simp [Yi.l2])
     | succ k2 =>
      have H := HA.out
      clear HA
      simp only [Yi.l2] at H
      by_cases c34 : iZ < (bF.length : Int)
      rotate_left
      ·rw [if_neg c34] at H
       have aFg : decide (iZ < (bF.length : Int)) = false := decide_eq_false c34
       clear c34
       obtain rfl := Option.some.inj H
       go_wp2
       go_ret
       exact ⟨Zua, Za⟩
      rw [if_pos c34] at H
      have aFg : decide (iZ < (bF.length : Int)) = true := decide_eq_true c34
      clear c34
      by_cases c35 : 0 ≤ iZ
      rotate_left
      ·rw [if_neg c35] at H
       exact absurd H Zv
      rw [if_pos c35] at H
      have aXA : decide (0 ≤ iZ) = true := decide_eq_true c35
      clear c35
      replace H := Option.bind_eq_some_iff.mp H
      obtain ⟨aGA, aKr, H⟩ := H
      try dsimp -simprocs only at H
      have A36 := Ya.mk aKr
      clear aKr
      by_cases c37 : aGA = true
      rotate_left
      ·replace c37 := Bool.eq_false_iff.mpr c37
       subst c37
       rw [if_neg (show ¬ (false = true) by decide)] at H
       obtain rfl := Option.some.inj H
       have wP : 0 ≤ (iZ : Int) := of_decide_eq_true Zc
       have wQ : iZ < (bF.length : Int) := of_decide_eq_true Zc
       obtain ⟨ad224, aGC, aEk⟩ := Kd.at_string (Kd.R_reads' HO_3.out).2.2 iZ wP wQ
       obtain rfl : aAj = ad224 := (by injection aGC)
       replace wP := eq_true wP
       replace wQ := eq_true wQ
       go_wp2_with (first | ((with_reducible refine Yh (f := 99) rfl ?_); refine Yba (some 91) rfl rfl Tryz.func99 Zi rfl #[.string (rdOf ByteArray.empty bF iZ)] rfl Zb ?_; (with_reducible refine (Yrd.calls k2 (rdOf ByteArray.empty bF iZ) false _ ?side1 A36.out).mono ?_); (case side1 => first | exact HE.out | exact EnvOk.below HE.out Za); rintro e w39 ⟨rfl, hb⟩; refine ⟨_, rfl, ?_⟩; have aM := Ya.mk (Kd.R_below Zm hb); have aU := Ya.mk (Ys Za hb); clear HO_3; clear HB; have HO_3 := aM; have HB := aU; clear aM aU; (try clear hb); (try clear cC); (try clear hk); (try clear hi)))
       go_ret
       exact ⟨Zua, Za⟩
      subst c37
      rw [if_pos rfl] at H
      have H' := Ya.mk H
      clear H
      have wP : 0 ≤ (iZ : Int) := of_decide_eq_true Zc
      have wQ : iZ < (bF.length : Int) := of_decide_eq_true Zc
      obtain ⟨ad224, aGC, aEk⟩ := Kd.at_string (Kd.R_reads' HO_3.out).2.2 iZ wP wQ
      obtain rfl : aAj = ad224 := (by injection aGC)
      replace wP := eq_true wP
      replace wQ := eq_true wQ
      go_wp2_with (first | ((with_reducible refine Yh (f := 99) rfl ?_); refine Yba (some 91) rfl rfl Tryz.func99 Zi rfl #[.string (rdOf ByteArray.empty bF iZ)] rfl Zb ?_; (with_reducible refine (Yrd.calls k2 (rdOf ByteArray.empty bF iZ) true _ ?side1 A36.out).mono ?_); (case side1 => first | exact HE.out | exact EnvOk.below HE.out Za); rintro e w38 ⟨rfl, hb⟩; refine ⟨_, rfl, ?_⟩; have aM := Ya.mk (Kd.R_below Zm hb); have aU := Ya.mk (Ys Za hb); clear HO_3; clear HB; have HO_3 := aM; have HB := aU; clear aM aU; (try clear hb); (try clear cC); (try clear hk); (try clear hi)))
      go_roundg k2
      case measure => have := dD.out; have := kB.out; omega
      case rel => exact ⟨(wrap64 (iZ + 1)), Zf, H', ⟨Zhb⟩, ⟨Zm⟩, ⟨Za⟩⟩
   rw [if_pos c4] at H
   have cF : decide (aA < (bF.length : Int)) = true := decide_eq_true c4
   clear c4
   have HC5 := Ya.mk H
   clear H
   obtain ⟨Ao6, co6, eo6⟩ := Kd.R_slice HO_3.out
   subst eo6
   go_upto_region 5 with (fail)
   go_cut [31] (fun v31 wc => ∃ (kq : Nat) (aAl : Bool), v31 = .bool aAl ∧ Ya (Yi.j1 kq a0 bF aA aAl = some r) ∧ Ya (kq ≤ k1) ∧ Ya (Kd.R Kd.string 9 wc w.heap.size (fun _ => True) (.slice Ao6 bF.length co6) bF) ∧ Ya (Below w.heap.size w wc))
   case first =>
    have H := HC5.out
    clear HC5
    by_cases c7 : 0 ≤ aA
    rotate_left
    ·rw [if_neg c7] at H
     exact absurd H Zv
    rw [if_pos c7] at H
    have dA : decide (0 ≤ aA) = true := decide_eq_true c7
    clear c7
    (first | rw [dA] | (simp only [Yma, Yqa]; rw [dA]) | skip)
    by_cases c8 : ((rdOf ByteArray.empty bF aA).size : Int) < 1
    ·rw [if_pos c8] at H
     have gZ : decide (((rdOf ByteArray.empty bF aA).size : Int) < 1) = true := decide_eq_true c8
     have jE : decide ((rdOf ByteArray.empty bF aA).size < 1) = true := decide_eq_true Zl
     clear c8
     have H' := Ya.mk H
     clear H
     have pX : 0 ≤ (aA : Int) := of_decide_eq_true Zc
     have pY : aA < (bF.length : Int) := of_decide_eq_true Zc
     obtain ⟨aFo, aGD, mR⟩ := Kd.at_string (Kd.R_reads' HO_3.out).2.2 aA pX pY
     cases aGD
     replace pX := eq_true pX
     replace pY := eq_true pY
     go_wp2
     go_meet
     case rel => exact ⟨_, (true), Zf, H', ⟨Zka⟩, ⟨Zm⟩, ⟨Za⟩⟩
    rw [if_neg c8] at H
    have gZ : decide (((rdOf ByteArray.empty bF aA).size : Int) < 1) = false := decide_eq_false c8
    have jE : decide ((rdOf ByteArray.empty bF aA).size < 1) = false := decide_eq_false Zl
    clear c8
    have H' := Ya.mk H
    clear H
    have pX : 0 ≤ (aA : Int) := of_decide_eq_true Zc
    have pY : aA < (bF.length : Int) := of_decide_eq_true Zc
    obtain ⟨aFo, aGD, mR⟩ := Kd.at_string (Kd.R_reads' HO_3.out).2.2 aA pX pY
    cases aGD
    replace pX := eq_true pX
    replace pY := eq_true pY
    have aAB : 0 ≤ (aA : Int) := of_decide_eq_true Zc
    have aAC : aA < (bF.length : Int) := of_decide_eq_true Zc
    obtain ⟨ad216, aWv, rY⟩ := Kd.at_string (Kd.R_reads' HO_3.out).2.2 aA aAB aAC
    obtain rfl : aFo = ad216 := (by injection aWv)
    replace aAB := eq_true aAB
    replace aAC := eq_true aAC
    go_wp2
    go_meet
    case rel => exact ⟨_, (decide (((rdOf ByteArray.empty bF aA).size : Int) > 63)), Zf, H', ⟨Zka⟩, ⟨Zm⟩, ⟨Za⟩⟩
   case rest =>
    clear HC5
    try clear p2
    try clear q2
    try clear wM
    try clear c4
    try clear cF
    try clear c5
    try clear c7
    try clear dA
    try clear c8
    try clear gZ
    try clear jE
    try clear mR
    try clear rY
    try clear p2
    try clear pX
    try clear aAB
    try clear pY
    try clear aAC
    obtain ⟨kq, aAl, rfl, HA, HJ4, HO_3, HB⟩ := hcut
    cases kq with
    | zero => exact absurd HA.out (by simp [Yi.j1])
    | succ kj4 =>
     have H := HA.out
     clear HA
     simp only [Yi.j1] at H
     by_cases c9 : aAl = true
     ·subst c9
      rw [if_pos rfl] at H
      obtain rfl := Option.some.inj H
      go_wp2
      go_ret
      exact ⟨Zk, Za⟩
     replace c9 := Bool.eq_false_iff.mpr c9
     subst c9
     rw [if_neg (show ¬ (false = true) by decide)] at H
     have H' := Ya.mk H
     clear H
     go_wp2
     go_loopg [5] kj4 (fun kq v5 w' => ∃ (bZ : Int), v5 = .int .i64 bZ ∧ Ya (Yi.l1 kq a0 bF aA bZ = some r) ∧ Ya (kq ≤ kj4) ∧ Ya (Kd.R Kd.string 9 w' w.heap.size (fun _ => True) (.slice Ao6 bF.length co6) bF) ∧ Ya (Below w.heap.size w w'))
     case atStart => exact ⟨(0), Zf, H', ⟨Nat.le_refl _⟩, ⟨Zm⟩, ⟨Za⟩⟩
     case round =>
      clear H'
      try clear p2
      try clear q2
      try clear wM
      try clear c4
      try clear cF
      try clear c5
      try clear c7
      try clear dA
      try clear c8
      try clear gZ
      try clear jE
      try clear c9
      try clear mR
      try clear rY
      try clear p2
      try clear pX
      try clear aAB
      try clear q2
      try clear pY
      try clear aAC
      obtain ⟨bZ, rfl, HA, sW, HO_3, HB⟩ := hrel
      cases gk with
      | zero => exact absurd HA.out (by simp [Yi.l1])
      | succ k3 =>
       have H := HA.out
       clear HA
       simp only [Yi.l1] at H
       by_cases dR : 0 ≤ aA
       rotate_left
       ·rw [if_neg dR] at H
        exact absurd H Zv
       rw [if_pos dR] at H
       have hH : decide (0 ≤ aA) = true := decide_eq_true dR
       clear dR
       by_cases c11 : aA < (bF.length : Int)
       rotate_left
       ·rw [if_neg c11] at H
        exact absurd H Zv
       rw [if_pos c11] at H
       have gU : decide (aA < (bF.length : Int)) = true := decide_eq_true c11
       clear c11
       by_cases dG : bZ < ((rdOf ByteArray.empty bF aA).size : Int)
       rotate_left
       ·rw [if_neg dG] at H
        have dV : decide (bZ < ((rdOf ByteArray.empty bF aA).size : Int)) = false := decide_eq_false dG
        clear dG
        have H' := Ya.mk H
        clear H
        have dH : 0 ≤ (aA : Int) := of_decide_eq_true Zc
        have dI : aA < (bF.length : Int) := of_decide_eq_true Zc
        obtain ⟨gA, jA, gJ⟩ := Kd.at_string (Kd.R_reads' HO_3.out).2.2 aA dH dI
        cases jA
        replace dH := eq_true dH
        replace dI := eq_true dI
        go_wp2
        go_roundg k3
        case measure => have := dD.out; have := HJ4.out; have := sW.out; omega
        case rel => exact ⟨(wrap64 (aA + 1)), Zf, H', ⟨Zpa⟩, ⟨Zm⟩, ⟨Za⟩⟩
       rw [if_pos dG] at H
       have dV : decide (bZ < ((rdOf ByteArray.empty bF aA).size : Int)) = true := decide_eq_true dG
       clear dG
       by_cases eN : 0 ≤ bZ
       rotate_left
       ·rw [if_neg eN] at H
        exact absurd H Zv
       rw [if_pos eN] at H
       have hM : decide (0 ≤ bZ) = true := decide_eq_true eN
       clear eN
       by_cases dJ : (bt (rdOf ByteArray.empty bF aA) bZ) ≥ 97
       rotate_left
       ·rw [if_neg dJ] at H
        have eU : decide (97 ≤ (bt (rdOf ByteArray.empty bF aA) bZ)) = false := decide_eq_false dJ
        clear dJ
        replace H := Option.bind_eq_some_iff.mp H
        obtain ⟨aCg, aBE, H⟩ := H
        try dsimp -simprocs only at H
        have A21 := Ya.mk aBE
        clear aBE
        by_cases iJ : aCg = true
        ·subst iJ
         rw [if_pos rfl] at H
         have H' := Ya.mk H
         clear H
         have dH : 0 ≤ (aA : Int) := of_decide_eq_true Zc
         have dI : aA < (bF.length : Int) := of_decide_eq_true Zc
         obtain ⟨gA, jA, gJ⟩ := Kd.at_string (Kd.R_reads' HO_3.out).2.2 aA dH dI
         cases jA
         replace dH := eq_true dH
         replace dI := eq_true dI
         have dS : 0 ≤ (aA : Int) := of_decide_eq_true Zc
         have dT : aA < (bF.length : Int) := of_decide_eq_true Zc
         obtain ⟨ad218, qS, gT⟩ := Kd.at_string (Kd.R_reads' HO_3.out).2.2 aA dS dT
         obtain rfl : gA = ad218 := Zyb
         replace dS := eq_true dS
         replace dT := eq_true dT
         have iQ : 0 ≤ (bZ : Int) := of_decide_eq_true Zc
         have iR : bZ < ((rdOf ByteArray.empty bF aA).size : Int) := of_decide_eq_true Zc
         have lF := Yab (rdOf ByteArray.empty bF aA) bZ
         replace iQ := eq_true iQ
         replace iR := eq_true iR
         go_wp2_with (first | (go_at_call 87; (with_reducible refine (Yy.calls (bt (rdOf ByteArray.empty bF aA) bZ) true _ ?side1 A21.out).mono ?_); (case side1 => first | exact HE.out | exact EnvOk.below HE.out Za); rintro e w' ⟨rfl, ⟨nd, rfl⟩⟩))
         go_roundg k3
         case measure => have := dD.out; have := HJ4.out; have := sW.out; omega
         case rel => exact ⟨(wrap64 (bZ + 1)), Zf, H', ⟨Zpa⟩, ⟨Zm⟩, ⟨Za⟩⟩
        replace iJ := Bool.eq_false_iff.mpr iJ
        subst iJ
        rw [if_neg (show ¬ (false = true) by decide)] at H
        by_cases jM : (bt (rdOf ByteArray.empty bF aA) bZ) = 45
        ·rw [if_pos jM] at H
         have oH : ((bt (rdOf ByteArray.empty bF aA) bZ) == 45) = true := beq_iff_eq.mpr jM
         have oI : ((bt (rdOf ByteArray.empty bF aA) bZ) != 45) = false := bne_eq_false_iff_eq.mpr jM
         clear jM
         have H' := Ya.mk H
         clear H
         have dH : 0 ≤ (aA : Int) := of_decide_eq_true Zc
         have dI : aA < (bF.length : Int) := of_decide_eq_true Zc
         obtain ⟨gA, jA, gJ⟩ := Kd.at_string (Kd.R_reads' HO_3.out).2.2 aA dH dI
         cases jA
         replace dH := eq_true dH
         replace dI := eq_true dI
         have dS : 0 ≤ (aA : Int) := of_decide_eq_true Zc
         have dT : aA < (bF.length : Int) := of_decide_eq_true Zc
         obtain ⟨ad218, qS, gT⟩ := Kd.at_string (Kd.R_reads' HO_3.out).2.2 aA dS dT
         obtain rfl : gA = ad218 := Zyb
         replace dS := eq_true dS
         replace dT := eq_true dT
         have iQ : 0 ≤ (bZ : Int) := of_decide_eq_true Zc
         have iR : bZ < ((rdOf ByteArray.empty bF aA).size : Int) := of_decide_eq_true Zc
         have lF := Yab (rdOf ByteArray.empty bF aA) bZ
         replace iQ := eq_true iQ
         replace iR := eq_true iR
         go_wp2_with (first | (go_at_call 87; (with_reducible refine (Yy.calls (bt (rdOf ByteArray.empty bF aA) bZ) false _ ?side1 A21.out).mono ?_); (case side1 => first | exact HE.out | exact EnvOk.below HE.out Za); rintro e w' ⟨rfl, ⟨nd, rfl⟩⟩))
         go_roundg k3
         case measure => have := dD.out; have := HJ4.out; have := sW.out; omega
         case rel => exact ⟨(wrap64 (bZ + 1)), Zf, H', ⟨Zpa⟩, ⟨Zm⟩, ⟨Za⟩⟩
        rw [if_neg jM] at H
        have oH : ((bt (rdOf ByteArray.empty bF aA) bZ) == 45) = false := beq_eq_false_iff_ne.mpr jM
        have oI : ((bt (rdOf ByteArray.empty bF aA) bZ) != 45) = true := bne_iff_ne.mpr jM
        by_cases kE : ((bt (rdOf ByteArray.empty bF aA) bZ) = 95)
        rotate_left
        ·rw [if_neg kE] at H
         have qP : ((bt (rdOf ByteArray.empty bF aA) bZ) == 95) = false := beq_eq_false_iff_ne.mpr kE
         have qQ : ((bt (rdOf ByteArray.empty bF aA) bZ) != 95) = true := bne_iff_ne.mpr kE
         obtain rfl := Option.some.inj H
         have dH : 0 ≤ (aA : Int) := of_decide_eq_true Zc
         have dI : aA < (bF.length : Int) := of_decide_eq_true Zc
         obtain ⟨gA, jA, gJ⟩ := Kd.at_string (Kd.R_reads' HO_3.out).2.2 aA dH dI
         cases jA
         replace dH := eq_true dH
         replace dI := eq_true dI
         have dS : 0 ≤ (aA : Int) := of_decide_eq_true Zc
         have dT : aA < (bF.length : Int) := of_decide_eq_true Zc
         obtain ⟨ad218, qS, gT⟩ := Kd.at_string (Kd.R_reads' HO_3.out).2.2 aA dS dT
         obtain rfl : gA = ad218 := Zyb
         replace dS := eq_true dS
         replace dT := eq_true dT
         have iQ : 0 ≤ (bZ : Int) := of_decide_eq_true Zc
         have iR : bZ < ((rdOf ByteArray.empty bF aA).size : Int) := of_decide_eq_true Zc
         have lF := Yab (rdOf ByteArray.empty bF aA) bZ
         replace iQ := eq_true iQ
         replace iR := eq_true iR
         go_wp2_with (first | (go_at_call 87; (with_reducible refine (Yy.calls (bt (rdOf ByteArray.empty bF aA) bZ) false _ ?side1 A21.out).mono ?_); (case side1 => first | exact HE.out | exact EnvOk.below HE.out Za); rintro e w' ⟨rfl, ⟨nd, rfl⟩⟩))
         go_ret
         exact ⟨Zk, Za⟩
        rw [if_pos kE] at H
        have qP : ((bt (rdOf ByteArray.empty bF aA) bZ) == 95) = true := beq_iff_eq.mpr kE
        have qQ : ((bt (rdOf ByteArray.empty bF aA) bZ) != 95) = false := bne_eq_false_iff_eq.mpr kE
        clear kE
        have H' := Ya.mk H
        clear H
        have dH : 0 ≤ (aA : Int) := of_decide_eq_true Zc
        have dI : aA < (bF.length : Int) := of_decide_eq_true Zc
        obtain ⟨gA, jA, gJ⟩ := Kd.at_string (Kd.R_reads' HO_3.out).2.2 aA dH dI
        cases jA
        replace dH := eq_true dH
        replace dI := eq_true dI
        have dS : 0 ≤ (aA : Int) := of_decide_eq_true Zc
        have dT : aA < (bF.length : Int) := of_decide_eq_true Zc
        obtain ⟨ad218, qS, gT⟩ := Kd.at_string (Kd.R_reads' HO_3.out).2.2 aA dS dT
        obtain rfl : gA = ad218 := Zyb
        replace dS := eq_true dS
        replace dT := eq_true dT
        have iQ : 0 ≤ (bZ : Int) := of_decide_eq_true Zc
        have iR : bZ < ((rdOf ByteArray.empty bF aA).size : Int) := of_decide_eq_true Zc
        have lF := Yab (rdOf ByteArray.empty bF aA) bZ
        replace iQ := eq_true iQ
        replace iR := eq_true iR
        go_wp2_with (first | (go_at_call 87; (with_reducible refine (Yy.calls (bt (rdOf ByteArray.empty bF aA) bZ) false _ ?side1 A21.out).mono ?_); (case side1 => first | exact HE.out | exact EnvOk.below HE.out Za); rintro e w' ⟨rfl, ⟨nd, rfl⟩⟩))
        go_roundg k3
        case measure => have := dD.out; have := HJ4.out; have := sW.out; omega
        case rel => exact ⟨(wrap64 (bZ + 1)), Zf, H', ⟨Zpa⟩, ⟨Zm⟩, ⟨Za⟩⟩
       rw [if_pos dJ] at H
       have eU : decide (97 ≤ (bt (rdOf ByteArray.empty bF aA) bZ)) = true := decide_eq_true dJ
       clear dJ
       by_cases eP : (bt (rdOf ByteArray.empty bF aA) bZ) ≤ 122
       ·rw [if_pos eP] at H
        have hJ : decide ((bt (rdOf ByteArray.empty bF aA) bZ) ≤ 122) = true := decide_eq_true eP
        clear eP
        have H' := Ya.mk H
        clear H
        have dH : 0 ≤ (aA : Int) := of_decide_eq_true Zc
        have dI : aA < (bF.length : Int) := of_decide_eq_true Zc
        obtain ⟨gA, jA, gJ⟩ := Kd.at_string (Kd.R_reads' HO_3.out).2.2 aA dH dI
        cases jA
        replace dH := eq_true dH
        replace dI := eq_true dI
        have dS : 0 ≤ (aA : Int) := of_decide_eq_true Zc
        have dT : aA < (bF.length : Int) := of_decide_eq_true Zc
        obtain ⟨ad218, qS, gT⟩ := Kd.at_string (Kd.R_reads' HO_3.out).2.2 aA dS dT
        obtain rfl : gA = ad218 := Zyb
        replace dS := eq_true dS
        replace dT := eq_true dT
        have iQ : 0 ≤ (bZ : Int) := of_decide_eq_true Zc
        have iR : bZ < ((rdOf ByteArray.empty bF aA).size : Int) := of_decide_eq_true Zc
        have lF := Yab (rdOf ByteArray.empty bF aA) bZ
        replace iQ := eq_true iQ
        replace iR := eq_true iR
        go_wp2
        go_roundg k3
        case measure => have := dD.out; have := HJ4.out; have := sW.out; omega
        case rel => exact ⟨(wrap64 (bZ + 1)), Zf, H', ⟨Zpa⟩, ⟨Zm⟩, ⟨Za⟩⟩
       rw [if_neg eP] at H
       have hJ : decide ((bt (rdOf ByteArray.empty bF aA) bZ) ≤ 122) = false := decide_eq_false eP
       clear eP
       replace H := Option.bind_eq_some_iff.mp H
       obtain ⟨aGz, oT, H⟩ := H
       try dsimp -simprocs only at H
       have A17 := Ya.mk oT
       clear oT
       by_cases eQ : aGz = true
       ·subst eQ
        rw [if_pos rfl] at H
        have H' := Ya.mk H
        clear H
        have dH : 0 ≤ (aA : Int) := of_decide_eq_true Zc
        have dI : aA < (bF.length : Int) := of_decide_eq_true Zc
        obtain ⟨gA, jA, gJ⟩ := Kd.at_string (Kd.R_reads' HO_3.out).2.2 aA dH dI
        cases jA
        replace dH := eq_true dH
        replace dI := eq_true dI
        have dS : 0 ≤ (aA : Int) := of_decide_eq_true Zc
        have dT : aA < (bF.length : Int) := of_decide_eq_true Zc
        obtain ⟨ad218, qS, gT⟩ := Kd.at_string (Kd.R_reads' HO_3.out).2.2 aA dS dT
        obtain rfl : gA = ad218 := Zyb
        replace dS := eq_true dS
        replace dT := eq_true dT
        have iQ : 0 ≤ (bZ : Int) := of_decide_eq_true Zc
        have iR : bZ < ((rdOf ByteArray.empty bF aA).size : Int) := of_decide_eq_true Zc
        have lF := Yab (rdOf ByteArray.empty bF aA) bZ
        replace iQ := eq_true iQ
        replace iR := eq_true iR
        go_wp2_with (first | (go_at_call 87; (with_reducible refine (Yy.calls (bt (rdOf ByteArray.empty bF aA) bZ) true _ ?side1 A17.out).mono ?_); (case side1 => first | exact HE.out | exact EnvOk.below HE.out Za); rintro e w' ⟨rfl, ⟨nd, rfl⟩⟩))
        go_roundg k3
        case measure => have := dD.out; have := HJ4.out; have := sW.out; omega
        case rel => exact ⟨(wrap64 (bZ + 1)), Zf, H', ⟨Zpa⟩, ⟨Zm⟩, ⟨Za⟩⟩
       replace eQ := Bool.eq_false_iff.mpr eQ
       subst eQ
       rw [if_neg (show ¬ (false = true) by decide)] at H
       by_cases iP : (bt (rdOf ByteArray.empty bF aA) bZ) = 45
       ·rw [if_pos iP] at H
        have kH : ((bt (rdOf ByteArray.empty bF aA) bZ) == 45) = true := beq_iff_eq.mpr iP
        have qG : ((bt (rdOf ByteArray.empty bF aA) bZ) != 45) = false := bne_eq_false_iff_eq.mpr iP
        clear iP
        have H' := Ya.mk H
        clear H
        have dH : 0 ≤ (aA : Int) := of_decide_eq_true Zc
        have dI : aA < (bF.length : Int) := of_decide_eq_true Zc
        obtain ⟨gA, jA, gJ⟩ := Kd.at_string (Kd.R_reads' HO_3.out).2.2 aA dH dI
        cases jA
        replace dH := eq_true dH
        replace dI := eq_true dI
        have dS : 0 ≤ (aA : Int) := of_decide_eq_true Zc
        have dT : aA < (bF.length : Int) := of_decide_eq_true Zc
        obtain ⟨ad218, qS, gT⟩ := Kd.at_string (Kd.R_reads' HO_3.out).2.2 aA dS dT
        obtain rfl : gA = ad218 := Zyb
        replace dS := eq_true dS
        replace dT := eq_true dT
        have iQ : 0 ≤ (bZ : Int) := of_decide_eq_true Zc
        have iR : bZ < ((rdOf ByteArray.empty bF aA).size : Int) := of_decide_eq_true Zc
        have lF := Yab (rdOf ByteArray.empty bF aA) bZ
        replace iQ := eq_true iQ
        replace iR := eq_true iR
        go_wp2_with (first | (go_at_call 87; (with_reducible refine (Yy.calls (bt (rdOf ByteArray.empty bF aA) bZ) false _ ?side1 A17.out).mono ?_); (case side1 => first | exact HE.out | exact EnvOk.below HE.out Za); rintro e w' ⟨rfl, ⟨nd, rfl⟩⟩))
        go_roundg k3
        case measure => have := dD.out; have := HJ4.out; have := sW.out; omega
        case rel => exact ⟨(wrap64 (bZ + 1)), Zf, H', ⟨Zpa⟩, ⟨Zm⟩, ⟨Za⟩⟩
       rw [if_neg iP] at H
       have kH : ((bt (rdOf ByteArray.empty bF aA) bZ) == 45) = false := beq_eq_false_iff_ne.mpr iP
       have qG : ((bt (rdOf ByteArray.empty bF aA) bZ) != 45) = true := bne_iff_ne.mpr iP
       by_cases hD : ((bt (rdOf ByteArray.empty bF aA) bZ) = 95)
       rotate_left
       ·rw [if_neg hD] at H
        have kJ : ((bt (rdOf ByteArray.empty bF aA) bZ) == 95) = false := beq_eq_false_iff_ne.mpr hD
        have tK : ((bt (rdOf ByteArray.empty bF aA) bZ) != 95) = true := bne_iff_ne.mpr hD
        obtain rfl := Option.some.inj H
        have dH : 0 ≤ (aA : Int) := of_decide_eq_true Zc
        have dI : aA < (bF.length : Int) := of_decide_eq_true Zc
        obtain ⟨gA, jA, gJ⟩ := Kd.at_string (Kd.R_reads' HO_3.out).2.2 aA dH dI
        cases jA
        replace dH := eq_true dH
        replace dI := eq_true dI
        have dS : 0 ≤ (aA : Int) := of_decide_eq_true Zc
        have dT : aA < (bF.length : Int) := of_decide_eq_true Zc
        obtain ⟨ad218, qS, gT⟩ := Kd.at_string (Kd.R_reads' HO_3.out).2.2 aA dS dT
        obtain rfl : gA = ad218 := Zyb
        replace dS := eq_true dS
        replace dT := eq_true dT
        have iQ : 0 ≤ (bZ : Int) := of_decide_eq_true Zc
        have iR : bZ < ((rdOf ByteArray.empty bF aA).size : Int) := of_decide_eq_true Zc
        have lF := Yab (rdOf ByteArray.empty bF aA) bZ
        replace iQ := eq_true iQ
        replace iR := eq_true iR
        go_wp2_with (first | (go_at_call 87; (with_reducible refine (Yy.calls (bt (rdOf ByteArray.empty bF aA) bZ) false _ ?side1 A17.out).mono ?_); (case side1 => first | exact HE.out | exact EnvOk.below HE.out Za); rintro e w' ⟨rfl, ⟨nd, rfl⟩⟩))
        go_ret
        exact ⟨Zk, Za⟩
       rw [if_pos hD] at H
       have kJ : ((bt (rdOf ByteArray.empty bF aA) bZ) == 95) = true := beq_iff_eq.mpr hD
       have tK : ((bt (rdOf ByteArray.empty bF aA) bZ) != 95) = false := bne_eq_false_iff_eq.mpr hD
       clear hD
       have H' := Ya.mk H
       clear H
       have dH : 0 ≤ (aA : Int) := of_decide_eq_true Zc
       have dI : aA < (bF.length : Int) := of_decide_eq_true Zc
       obtain ⟨gA, jA, gJ⟩ := Kd.at_string (Kd.R_reads' HO_3.out).2.2 aA dH dI
       cases jA
       replace dH := eq_true dH
       replace dI := eq_true dI
       have dS : 0 ≤ (aA : Int) := of_decide_eq_true Zc
       have dT : aA < (bF.length : Int) := of_decide_eq_true Zc
       obtain ⟨ad218, qS, gT⟩ := Kd.at_string (Kd.R_reads' HO_3.out).2.2 aA dS dT
       obtain rfl : gA = ad218 := Zyb
       replace dS := eq_true dS
       replace dT := eq_true dT
       have iQ : 0 ≤ (bZ : Int) := of_decide_eq_true Zc
       have iR : bZ < ((rdOf ByteArray.empty bF aA).size : Int) := of_decide_eq_true Zc
       have lF := Yab (rdOf ByteArray.empty bF aA) bZ
       replace iQ := eq_true iQ
       replace iR := eq_true iR
       go_wp2_with (first | (go_at_call 87; (with_reducible refine (Yy.calls (bt (rdOf ByteArray.empty bF aA) bZ) false _ ?side1 A17.out).mono ?_); (case side1 => first | exact HE.out | exact EnvOk.below HE.out Za); rintro e w' ⟨rfl, ⟨nd, rfl⟩⟩))
       go_roundg k3
       case measure => have := dD.out; have := HJ4.out; have := sW.out; omega
       case rel => exact ⟨(wrap64 (bZ + 1)), Zf, H', ⟨Zpa⟩, ⟨Zm⟩, ⟨Za⟩⟩
end Go.Proofs.YtnmglnglbdpjjaaGreatDoor.X
