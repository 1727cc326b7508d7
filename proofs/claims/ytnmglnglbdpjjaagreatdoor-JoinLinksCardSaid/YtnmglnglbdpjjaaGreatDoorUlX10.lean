/- Printed by a program of ours: functions as plain Lean, and what a call of each does. -/
import Derived.Test.YtnmglnglbdpjjaaGreatDoorUlWords
import Derived.Test.YtnmglnglbdpjjaaGreatDoorUlX0
import Derived.Test.YtnmglnglbdpjjaaGreatDoorUlX5
import Derived.Test.YtnmglnglbdpjjaaGreatDoorUlX8
import Derived.Test.YtnmglnglbdpjjaaGreatDoorUlX9
namespace Go.Proofs.YtnmglnglbdpjjaaGreatDoor.X
open Go.RowKit Go.Yw.PrintWords Go.Yw.PrintLast Go.Yw.PrintMore
attribute [local go_sem] Yxd Yae Yoe Yqe Yld Yjd Yyd Yzd
set_option linter.unusedVariables false
set_option linter.unusedSimpArgs false
mutual
def Yj.l0 : Nat → ByteArray → List ByteArray → Int → Option (Bool)
 | 0, _, _, _ => none
 | k + 1, x0, x3, x4 => if x4 < (x3.length : Int) then (if 0 ≤ x4 then (if ((rdOf ByteArray.empty x3 x4).size : Int) < 1 then (Yj.j1 k x0 x3 x4 true) else (Yj.j1 k x0 x3 x4 (decide (((rdOf ByteArray.empty x3 x4).size : Int) > 63)))) else (none)) else (if (x0.size : Int) > 253 then (some false) else (if 0 ≤ (wrap64 ((x3.length : Int) - 1)) then (if (wrap64 ((x3.length : Int) - 1)) < (x3.length : Int) then ((Yz.f k (rdOf ByteArray.empty x3 (wrap64 ((x3.length : Int) - 1))) 4611686018427387904).bind fun aBI => (if aBI.2 = 3 then (some true) else (Yj.l2 k x3 0))) else (none)) else (none)))
def Yj.j1 : Nat → ByteArray → List ByteArray → Int → Bool → Option (Bool)
 | 0, _, _, _, _ => none
 | k + 1, x0, x3, x4, x31 => if x31 = true then (some false) else (Yj.l1 k x0 x3 x4 0)
def Yj.l1 : Nat → ByteArray → List ByteArray → Int → Int → Option (Bool)
 | 0, _, _, _, _ => none
 | k + 1, x0, x3, x4, x5 => if 0 ≤ x4 then (if x4 < (x3.length : Int) then (if x5 < ((rdOf ByteArray.empty x3 x4).size : Int) then (if 0 ≤ x5 then (if (bt (rdOf ByteArray.empty x3 x4) x5) ≥ 97 then (if (bt (rdOf ByteArray.empty x3 x4) x5) ≤ 122 then (Yj.l1 k x0 x3 x4 (wrap64 (x5 + 1))) else ((Yw.f (bt (rdOf ByteArray.empty x3 x4) x5)).bind fun aGf => (if aGf = true then (Yj.l1 k x0 x3 x4 (wrap64 (x5 + 1))) else (if (bt (rdOf ByteArray.empty x3 x4) x5) = 45 then (Yj.l1 k x0 x3 x4 (wrap64 (x5 + 1))) else (if ((bt (rdOf ByteArray.empty x3 x4) x5) = 95) then (Yj.l1 k x0 x3 x4 (wrap64 (x5 + 1))) else (some false)))))) else ((Yw.f (bt (rdOf ByteArray.empty x3 x4) x5)).bind fun aBJ => (if aBJ = true then (Yj.l1 k x0 x3 x4 (wrap64 (x5 + 1))) else (if (bt (rdOf ByteArray.empty x3 x4) x5) = 45 then (Yj.l1 k x0 x3 x4 (wrap64 (x5 + 1))) else (if ((bt (rdOf ByteArray.empty x3 x4) x5) = 95) then (Yj.l1 k x0 x3 x4 (wrap64 (x5 + 1))) else (some false)))))) else (none)) else (Yj.l0 k x0 x3 (wrap64 (x4 + 1)))) else (none)) else (none)
def Yj.l2 : Nat → List ByteArray → Int → Option (Bool)
 | 0, _, _ => none
 | k + 1, x3, x9 => if x9 < (x3.length : Int) then (if 0 ≤ x9 then ((Yod.f k (rdOf ByteArray.empty x3 x9)).bind fun aGg => (if aGg = true then (Yj.l2 k x3 (wrap64 (x9 + 1))) else (some false))) else (none)) else (some ((x3.length : Int) == 4))
end
def Yj.f (k : Nat) (a0 : ByteArray) : Option (Bool) := (Yoa.f k a0 46).bind fun bF => (Yj.l0 k a0 bF 0)
set_option maxHeartbeats 8000000 in
set_option maxRecDepth 100000 in
theorem Yj.calls (k : Nat) (a0 : ByteArray) (r : Bool) (w : World) (hE : EnvOk w) (h : Yj.f k a0 = some r) :
  Calls Tryz.prog 56 #[.string a0] w fun e w' => e = .returned (.bool r) ∧ Below w.heap.size w w' := by
 have HE := Ya.mk hE
 clear hE
 have HB := Ya.mk (Below.refl w.heap.size w)
 have H : ((Yoa.f k a0 46).bind fun bF => (Yj.l0 k a0 bF 0)) = some r := h
 clear h
 replace H := Option.bind_eq_some_iff.mp H
 obtain ⟨bF, dV, H⟩ := H
 try dsimp -simprocs only at H
 have A2 := Ya.mk dV
 clear dV
 have H' := Ya.mk H
 clear H
 go_enter Tryz.func56, Tryz.ntmps56
 go_wp2_with (first | ((with_reducible refine Yi (f := 98) rfl ?_); refine Yaa (some 11) rfl rfl Tryz.func98 Zi rfl #[.string a0, .int .u8 46] rfl Zb ?_; (with_reducible refine (Yoa.calls k a0 46 bF _ ?side1 A2.out).mono ?_); (case side1 => first | exact HE.out | exact EnvOk.below HE.out Za); rintro e w3 ⟨aVH, rfl, qE, hb⟩; refine ⟨_, rfl, ?_⟩; have aH := Ya.mk (Kd.R_lower qE (Yia Za)); have aR := Ya.mk (Yt Za hb); clear HB; have aJG := aH; have HB := aR; clear aH aR; (try clear hb); (try clear bU); (try clear hk); (try clear hi); (try clear qE)))
 go_loopg [4] k (fun kq v4 w' => ∃ (aA : Int), v4 = .int .i64 aA ∧ Ya (Yj.l0 kq a0 bF aA = some r) ∧ Ya (kq ≤ k) ∧ Ya (Kd.R Kd.string 9 w' w.heap.size (fun _ => True) aVH bF) ∧ Ya (Below w.heap.size w w'))
 case atStart => exact ⟨(0), Zf, H', ⟨Nat.le_refl _⟩, ⟨by (with_reducible repeat (first | apply Kd.R_alloc | apply Kd.R_drewN | apply Kd.R_drew)); exact aJG.out⟩, ⟨Za⟩⟩
 case round =>
  clear H'
  try clear p2
  obtain ⟨aA, rfl, HA, cU, HO_3, HB⟩ := hrel
  cases gk with
  | zero => exact absurd HA.out (by simp [Yj.l0])
  | succ k1 =>
   have H := HA.out
   clear HA
   simp only [Yj.l0] at H
   by_cases c4 : aA < (bF.length : Int)
   rotate_left
   ·rw [if_neg c4] at H
    have bX : decide (aA < (bF.length : Int)) = false := decide_eq_false c4
    clear c4
    by_cases pR : (a0.size : Int) > 253
    ·rw [if_pos pR] at H
     have tB : decide (253 < (a0.size : Int)) = true := decide_eq_true pR
     have wC : decide (253 < a0.size) = true := decide_eq_true Zk
     clear pR
     obtain rfl := Option.some.inj H
     obtain ⟨aXS, aXT, aVI⟩ := Kd.R_slice HO_3.out
     subst aVI
     go_wp2
     go_ret
     exact ⟨Zl, Za⟩
    rw [if_neg pR] at H
    have tB : decide (253 < (a0.size : Int)) = false := decide_eq_false pR
    have wC : decide (253 < a0.size) = false := decide_eq_false Zk
    clear pR
    obtain ⟨ji27, pG⟩ : ∃ j_ : Int, (wrap64 ((bF.length : Int) - 1)) = j_ := ⟨_, rfl⟩
    replace H : (if 0 ≤ (ji27) then (if (ji27) < (bF.length : Int) then ((Yz.f k1 (rdOf ByteArray.empty bF (ji27)) 4611686018427387904).bind fun aBI => (if aBI.2 = 3 then (some true) else (Yj.l2 k1 bF 0))) else (none)) else (none)) = some r := by first | (rw [pG] at H; exact H) | (simp only [pG] at H ⊢; exact H)
    have hji27w : (IntKind.i64.wrap ((bF.length : Int) - 1)) = ji27 := (Yca _).trans pG
    by_cases c28 : 0 ≤ (ji27)
    rotate_left
    ·rw [if_neg c28] at H
     exact absurd H Zv
    rw [if_pos c28] at H
    have aJH : decide (0 ≤ (ji27)) = true := decide_eq_true c28
    clear c28
    by_cases oM : (ji27) < (bF.length : Int)
    rotate_left
    ·rw [if_neg oM] at H
     exact absurd H Zv
    rw [if_pos oM] at H
    have aBm : decide ((ji27) < (bF.length : Int)) = true := decide_eq_true oM
    clear oM
    replace H := Option.bind_eq_some_iff.mp H
    obtain ⟨⟨aJI, vE⟩, aBL, H⟩ := H
    try dsimp -simprocs only at H
    have iY := Ya.mk aBL
    clear aBL
    by_cases rD : vE = 3
    ·rw [if_pos rD] at H
     have aBs : (vE == 3) = true := beq_iff_eq.mpr rD
     have aBt : (vE != 3) = false := bne_eq_false_iff_eq.mpr rD
     clear rD
     obtain rfl := Option.some.inj H
     obtain ⟨aXU, aXV, aVJ⟩ := Kd.R_slice HO_3.out
     subst aVJ
     have uC : 0 ≤ ((ji27) : Int) := of_decide_eq_true Zc
     have uD : (ji27) < (bF.length : Int) := of_decide_eq_true Zc
     obtain ⟨yY, aGh, yZ⟩ := Kd.at_string (Kd.R_reads' HO_3.out).2.2 (ji27) uC uD
     cases aGh
     replace uC := eq_true uC
     replace uD := eq_true uD
     go_wp2_with (first | ((with_reducible refine Yi (f := 89) rfl ?_); refine Yaa (some 76) rfl rfl Tryz.func89 Zi rfl #[.string (rdOf ByteArray.empty bF (ji27)), .int .i64 4611686018427387904] rfl (by (try simp only [List.map_toArray, List.map_cons, List.map_nil]); first | done | (simp only [pG]; rfl) | rfl | (simp only [List.length_drop, List.length_take]; rfl)) ?_; (with_reducible refine (Yz.calls k1 (rdOf ByteArray.empty bF (ji27)) 4611686018427387904 aJI vE _ ?side1 iY.out).mono ?_); (case side1 => first | exact HE.out | exact EnvOk.below HE.out Za); rintro e w' ⟨rfl, ⟨nd, rfl⟩⟩; refine ⟨_, rfl, ?_⟩))
     go_ret
     exact ⟨Zsa, Za⟩
    rw [if_neg rD] at H
    have aBs : (vE == 3) = false := beq_eq_false_iff_ne.mpr rD
    have aBt : (vE != 3) = true := bne_iff_ne.mpr rD
    have H' := Ya.mk H
    clear H
    obtain ⟨aXW, aVK, aVL⟩ := Kd.R_slice HO_3.out
    subst aVL
    have uC : 0 ≤ ((ji27) : Int) := of_decide_eq_true Zc
    have uD : (ji27) < (bF.length : Int) := of_decide_eq_true Zc
    obtain ⟨yY, aGh, yZ⟩ := Kd.at_string (Kd.R_reads' HO_3.out).2.2 (ji27) uC uD
    cases aGh
    replace uC := eq_true uC
    replace uD := eq_true uD
    go_wp2_with (first | ((with_reducible refine Yi (f := 89) rfl ?_); refine Yaa (some 76) rfl rfl Tryz.func89 Zi rfl #[.string (rdOf ByteArray.empty bF (ji27)), .int .i64 4611686018427387904] rfl (by (try simp only [List.map_toArray, List.map_cons, List.map_nil]); first | done | (simp only [pG]; rfl) | rfl | (simp only [List.length_drop, List.length_take]; rfl)) ?_; (with_reducible refine (Yz.calls k1 (rdOf ByteArray.empty bF (ji27)) 4611686018427387904 aJI vE _ ?side1 iY.out).mono ?_); (case side1 => first | exact HE.out | exact EnvOk.below HE.out Za); rintro e w' ⟨rfl, ⟨nd, rfl⟩⟩; refine ⟨_, rfl, ?_⟩))
    go_loopg [9] k1 (fun kq v9 w' => ∃ (iS : Int), v9 = .int .i64 iS ∧ Ya (Yj.l2 kq bF iS = some r) ∧ Ya (kq ≤ k1) ∧ Ya (Kd.R Kd.string 9 w' w.heap.size (fun _ => True) (.slice (some yY) bF.length aVK) bF) ∧ Ya (Below w.heap.size w w'))
    case atStart => exact ⟨(0), Zf, H', ⟨Nat.le_refl _⟩, ⟨Zm⟩, ⟨Za⟩⟩
    case round =>
     clear H'
     try clear c1
     try clear p1
     try clear q1
     try clear vX
     try clear c2
     try clear p2
     try clear q2
     try clear pW
     try clear c3
     try clear c4
     try clear bX
     try clear c5
     try clear p6
     try clear c7
     try clear cQ
     try clear c8
     try clear gQ
     try clear iW
     try clear c9
     try clear dP
     try clear gY
     try clear c11
     try clear gR
     try clear dD
     try clear dS
     try clear eL
     try clear hD
     try clear iJ
     try clear iK
     try clear kV
     try clear dG
     try clear eS
     try clear eN
     try clear gZ
     try clear eO
     try clear iI
     try clear jZ
     try clear pL
     try clear gV
     try clear kA
     try clear sT
     try clear p21
     try clear q21
     try clear aDl
     try clear iD
     try clear p22
     try clear q22
     try clear aVE
     try clear jG
     try clear nW
     try clear nX
     try clear jX
     try clear pU
     try clear pV
     try clear pR
     try clear tB
     try clear wC
     try clear c28
     try clear aJH
     try clear oM
     try clear aBm
     try clear rD
     try clear aBs
     try clear aBt
     try clear mI
     try clear rJ
     try clear gG
     try clear gP
     try clear yZ
     try clear iJ
     try clear p2
     try clear pB
     try clear zS
     try clear dE
     try clear dQ
     try clear uC
     try clear iK
     try clear q2
     try clear pC
     try clear zT
     try clear dF
     try clear dR
     try clear uD
     obtain ⟨iS, rfl, HA, jT, HO_3, HB⟩ := hrel
     cases gk with
     | zero => exact absurd HA.out (by simp [Yj.l2])
     | succ k2 =>
      have H := HA.out
      clear HA
      simp only [Yj.l2] at H
      by_cases c34 : iS < (bF.length : Int)
      rotate_left
      ·rw [if_neg c34] at H
       have aEO : decide (iS < (bF.length : Int)) = false := decide_eq_false c34
       clear c34
       obtain rfl := Option.some.inj H
       go_wp2
       go_ret
       exact ⟨Zsa, Za⟩
      rw [if_pos c34] at H
      have aEO : decide (iS < (bF.length : Int)) = true := decide_eq_true c34
      clear c34
      by_cases c35 : 0 ≤ iS
      rotate_left
      ·rw [if_neg c35] at H
       exact absurd H Zv
      rw [if_pos c35] at H
      have aWU : decide (0 ≤ iS) = true := decide_eq_true c35
      clear c35
      replace H := Option.bind_eq_some_iff.mp H
      obtain ⟨aGg, aJJ, H⟩ := H
      try dsimp -simprocs only at H
      have A36 := Ya.mk aJJ
      clear aJJ
      by_cases c37 : aGg = true
      rotate_left
      ·replace c37 := Bool.eq_false_iff.mpr c37
       subst c37
       rw [if_neg (show ¬ (false = true) by decide)] at H
       obtain rfl := Option.some.inj H
       have vF : 0 ≤ (iS : Int) := of_decide_eq_true Zc
       have vG : iS < (bF.length : Int) := of_decide_eq_true Zc
       obtain ⟨ad224, aGi, aDQ⟩ := Kd.at_string (Kd.R_reads' HO_3.out).2.2 iS vF vG
       obtain rfl : yY = ad224 := (by injection aGi)
       replace vF := eq_true vF
       replace vG := eq_true vG
       go_wp2_with (first | ((with_reducible refine Yi (f := 99) rfl ?_); refine Yaa (some 91) rfl rfl Tryz.func99 Zi rfl #[.string (rdOf ByteArray.empty bF iS)] rfl Zb ?_; (with_reducible refine (Yod.calls k2 (rdOf ByteArray.empty bF iS) false _ ?side1 A36.out).mono ?_); (case side1 => first | exact HE.out | exact EnvOk.below HE.out Za); rintro e w39 ⟨rfl, hb⟩; refine ⟨_, rfl, ?_⟩; have aH := Ya.mk (Kd.R_below Zm hb); have aR := Ya.mk (Yt Za hb); clear HO_3; clear HB; have HO_3 := aH; have HB := aR; clear aH aR; (try clear hb); (try clear bU); (try clear hk); (try clear hi)))
       go_ret
       exact ⟨Zsa, Za⟩
      subst c37
      rw [if_pos rfl] at H
      have H' := Ya.mk H
      clear H
      have vF : 0 ≤ (iS : Int) := of_decide_eq_true Zc
      have vG : iS < (bF.length : Int) := of_decide_eq_true Zc
      obtain ⟨ad224, aGi, aDQ⟩ := Kd.at_string (Kd.R_reads' HO_3.out).2.2 iS vF vG
      obtain rfl : yY = ad224 := (by injection aGi)
      replace vF := eq_true vF
      replace vG := eq_true vG
      go_wp2_with (first | ((with_reducible refine Yi (f := 99) rfl ?_); refine Yaa (some 91) rfl rfl Tryz.func99 Zi rfl #[.string (rdOf ByteArray.empty bF iS)] rfl Zb ?_; (with_reducible refine (Yod.calls k2 (rdOf ByteArray.empty bF iS) true _ ?side1 A36.out).mono ?_); (case side1 => first | exact HE.out | exact EnvOk.below HE.out Za); rintro e w38 ⟨rfl, hb⟩; refine ⟨_, rfl, ?_⟩; have aH := Ya.mk (Kd.R_below Zm hb); have aR := Ya.mk (Yt Za hb); clear HO_3; clear HB; have HO_3 := aH; have HB := aR; clear aH aR; (try clear hb); (try clear bU); (try clear hk); (try clear hi)))
      go_roundg k2
      case measure => have := cU.out; have := jT.out; omega
      case rel => exact ⟨(wrap64 (iS + 1)), Zf, H', ⟨Zdb⟩, ⟨Zm⟩, ⟨Za⟩⟩
   rw [if_pos c4] at H
   have bX : decide (aA < (bF.length : Int)) = true := decide_eq_true c4
   clear c4
   have HC5 := Ya.mk H
   clear H
   obtain ⟨Ao6, co6, eo6⟩ := Kd.R_slice HO_3.out
   subst eo6
   go_upto_region 5 with (fail)
   go_cut [31] (fun v31 wc => ∃ (kq : Nat) (zA : Bool), v31 = .bool zA ∧ Ya (Yj.j1 kq a0 bF aA zA = some r) ∧ Ya (kq ≤ k1) ∧ Ya (Kd.R Kd.string 9 wc w.heap.size (fun _ => True) (.slice Ao6 bF.length co6) bF) ∧ Ya (Below w.heap.size w wc))
   case first =>
    have H := HC5.out
    clear HC5
    by_cases c7 : 0 ≤ aA
    rotate_left
    ·rw [if_neg c7] at H
     exact absurd H Zv
    rw [if_pos c7] at H
    have cQ : decide (0 ≤ aA) = true := decide_eq_true c7
    clear c7
    (first | rw [cQ] | (simp only [Yca, Yga]; rw [cQ]) | skip)
    by_cases c8 : ((rdOf ByteArray.empty bF aA).size : Int) < 1
    ·rw [if_pos c8] at H
     have gQ : decide (((rdOf ByteArray.empty bF aA).size : Int) < 1) = true := decide_eq_true c8
     have iW : decide ((rdOf ByteArray.empty bF aA).size < 1) = true := decide_eq_true Zk
     clear c8
     have H' := Ya.mk H
     clear H
     have pB : 0 ≤ (aA : Int) := of_decide_eq_true Zc
     have pC : aA < (bF.length : Int) := of_decide_eq_true Zc
     obtain ⟨aEV, aGj, mI⟩ := Kd.at_string (Kd.R_reads' HO_3.out).2.2 aA pB pC
     cases aGj
     replace pB := eq_true pB
     replace pC := eq_true pC
     go_wp2
     go_meet
     case rel => exact ⟨_, (true), Zf, H', ⟨Zia⟩, ⟨Zm⟩, ⟨Za⟩⟩
    rw [if_neg c8] at H
    have gQ : decide (((rdOf ByteArray.empty bF aA).size : Int) < 1) = false := decide_eq_false c8
    have iW : decide ((rdOf ByteArray.empty bF aA).size < 1) = false := decide_eq_false Zk
    clear c8
    have H' := Ya.mk H
    clear H
    have pB : 0 ≤ (aA : Int) := of_decide_eq_true Zc
    have pC : aA < (bF.length : Int) := of_decide_eq_true Zc
    obtain ⟨aEV, aGj, mI⟩ := Kd.at_string (Kd.R_reads' HO_3.out).2.2 aA pB pC
    cases aGj
    replace pB := eq_true pB
    replace pC := eq_true pC
    have zS : 0 ≤ (aA : Int) := of_decide_eq_true Zc
    have zT : aA < (bF.length : Int) := of_decide_eq_true Zc
    obtain ⟨ad216, aVM, rJ⟩ := Kd.at_string (Kd.R_reads' HO_3.out).2.2 aA zS zT
    obtain rfl : aEV = ad216 := (by injection aVM)
    replace zS := eq_true zS
    replace zT := eq_true zT
    go_wp2
    go_meet
    case rel => exact ⟨_, (decide (((rdOf ByteArray.empty bF aA).size : Int) > 63)), Zf, H', ⟨Zia⟩, ⟨Zm⟩, ⟨Za⟩⟩
   case rest =>
    clear HC5
    try clear p2
    try clear q2
    try clear pW
    try clear c4
    try clear bX
    try clear c5
    try clear c7
    try clear cQ
    try clear c8
    try clear gQ
    try clear iW
    try clear mI
    try clear rJ
    try clear p2
    try clear pB
    try clear zS
    try clear pC
    try clear zT
    obtain ⟨kq, zA, rfl, HA, HJ4, HO_3, HB⟩ := hcut
    cases kq with
    | zero => exact absurd HA.out (by simp [Yj.j1])
    | succ kj4 =>
     have H := HA.out
     clear HA
     simp only [Yj.j1] at H
     by_cases c9 : zA = true
     ·subst c9
      rw [if_pos rfl] at H
      obtain rfl := Option.some.inj H
      go_wp2
      go_ret
      exact ⟨Zl, Za⟩
     replace c9 := Bool.eq_false_iff.mpr c9
     subst c9
     rw [if_neg (show ¬ (false = true) by decide)] at H
     have H' := Ya.mk H
     clear H
     go_wp2
     go_loopg [5] kj4 (fun kq v5 w' => ∃ (bS : Int), v5 = .int .i64 bS ∧ Ya (Yj.l1 kq a0 bF aA bS = some r) ∧ Ya (kq ≤ kj4) ∧ Ya (Kd.R Kd.string 9 w' w.heap.size (fun _ => True) (.slice Ao6 bF.length co6) bF) ∧ Ya (Below w.heap.size w w'))
     case atStart => exact ⟨(0), Zf, H', ⟨Nat.le_refl _⟩, ⟨Zm⟩, ⟨Za⟩⟩
     case round =>
      clear H'
      try clear p2
      try clear q2
      try clear pW
      try clear c4
      try clear bX
      try clear c5
      try clear c7
      try clear cQ
      try clear c8
      try clear gQ
      try clear iW
      try clear c9
      try clear mI
      try clear rJ
      try clear p2
      try clear pB
      try clear zS
      try clear q2
      try clear pC
      try clear zT
      obtain ⟨bS, rfl, HA, sH, HO_3, HB⟩ := hrel
      cases gk with
      | zero => exact absurd HA.out (by simp [Yj.l1])
      | succ k3 =>
       have H := HA.out
       clear HA
       simp only [Yj.l1] at H
       by_cases dP : 0 ≤ aA
       rotate_left
       ·rw [if_neg dP] at H
        exact absurd H Zv
       rw [if_pos dP] at H
       have gY : decide (0 ≤ aA) = true := decide_eq_true dP
       clear dP
       by_cases c11 : aA < (bF.length : Int)
       rotate_left
       ·rw [if_neg c11] at H
        exact absurd H Zv
       rw [if_pos c11] at H
       have gR : decide (aA < (bF.length : Int)) = true := decide_eq_true c11
       clear c11
       by_cases dD : bS < ((rdOf ByteArray.empty bF aA).size : Int)
       rotate_left
       ·rw [if_neg dD] at H
        have dS : decide (bS < ((rdOf ByteArray.empty bF aA).size : Int)) = false := decide_eq_false dD
        clear dD
        have H' := Ya.mk H
        clear H
        have dE : 0 ≤ (aA : Int) := of_decide_eq_true Zc
        have dF : aA < (bF.length : Int) := of_decide_eq_true Zc
        obtain ⟨fX, iT, gG⟩ := Kd.at_string (Kd.R_reads' HO_3.out).2.2 aA dE dF
        cases iT
        replace dE := eq_true dE
        replace dF := eq_true dF
        go_wp2
        go_roundg k3
        case measure => have := cU.out; have := HJ4.out; have := sH.out; omega
        case rel => exact ⟨(wrap64 (aA + 1)), Zf, H', ⟨Zna⟩, ⟨Zm⟩, ⟨Za⟩⟩
       rw [if_pos dD] at H
       have dS : decide (bS < ((rdOf ByteArray.empty bF aA).size : Int)) = true := decide_eq_true dD
       clear dD
       by_cases eL : 0 ≤ bS
       rotate_left
       ·rw [if_neg eL] at H
        exact absurd H Zv
       rw [if_pos eL] at H
       have hD : decide (0 ≤ bS) = true := decide_eq_true eL
       clear eL
       by_cases dG : (bt (rdOf ByteArray.empty bF aA) bS) ≥ 97
       rotate_left
       ·rw [if_neg dG] at H
        have eS : decide (97 ≤ (bt (rdOf ByteArray.empty bF aA) bS)) = false := decide_eq_false dG
        clear dG
        replace H := Option.bind_eq_some_iff.mp H
        obtain ⟨aBJ, aBh, H⟩ := H
        try dsimp -simprocs only at H
        have A21 := Ya.mk aBh
        clear aBh
        by_cases iD : aBJ = true
        ·subst iD
         rw [if_pos rfl] at H
         have H' := Ya.mk H
         clear H
         have dE : 0 ≤ (aA : Int) := of_decide_eq_true Zc
         have dF : aA < (bF.length : Int) := of_decide_eq_true Zc
         obtain ⟨fX, iT, gG⟩ := Kd.at_string (Kd.R_reads' HO_3.out).2.2 aA dE dF
         cases iT
         replace dE := eq_true dE
         replace dF := eq_true dF
         have dQ : 0 ≤ (aA : Int) := of_decide_eq_true Zc
         have dR : aA < (bF.length : Int) := of_decide_eq_true Zc
         obtain ⟨ad218, qC, gP⟩ := Kd.at_string (Kd.R_reads' HO_3.out).2.2 aA dQ dR
         obtain rfl : fX = ad218 := Zwb
         replace dQ := eq_true dQ
         replace dR := eq_true dR
         have iJ : 0 ≤ (bS : Int) := of_decide_eq_true Zc
         have iK : bS < ((rdOf ByteArray.empty bF aA).size : Int) := of_decide_eq_true Zc
         have kV := Yza (rdOf ByteArray.empty bF aA) bS
         replace iJ := eq_true iJ
         replace iK := eq_true iK
         go_wp2_with (first | (go_at_call 87; (with_reducible refine (Yw.calls (bt (rdOf ByteArray.empty bF aA) bS) true _ ?side1 A21.out).mono ?_); (case side1 => first | exact HE.out | exact EnvOk.below HE.out Za); rintro e w' ⟨rfl, ⟨nd, rfl⟩⟩))
         go_roundg k3
         case measure => have := cU.out; have := HJ4.out; have := sH.out; omega
         case rel => exact ⟨(wrap64 (bS + 1)), Zf, H', ⟨Zna⟩, ⟨Zm⟩, ⟨Za⟩⟩
        replace iD := Bool.eq_false_iff.mpr iD
        subst iD
        rw [if_neg (show ¬ (false = true) by decide)] at H
        by_cases jG : (bt (rdOf ByteArray.empty bF aA) bS) = 45
        ·rw [if_pos jG] at H
         have nW : ((bt (rdOf ByteArray.empty bF aA) bS) == 45) = true := beq_iff_eq.mpr jG
         have nX : ((bt (rdOf ByteArray.empty bF aA) bS) != 45) = false := bne_eq_false_iff_eq.mpr jG
         clear jG
         have H' := Ya.mk H
         clear H
         have dE : 0 ≤ (aA : Int) := of_decide_eq_true Zc
         have dF : aA < (bF.length : Int) := of_decide_eq_true Zc
         obtain ⟨fX, iT, gG⟩ := Kd.at_string (Kd.R_reads' HO_3.out).2.2 aA dE dF
         cases iT
         replace dE := eq_true dE
         replace dF := eq_true dF
         have dQ : 0 ≤ (aA : Int) := of_decide_eq_true Zc
         have dR : aA < (bF.length : Int) := of_decide_eq_true Zc
         obtain ⟨ad218, qC, gP⟩ := Kd.at_string (Kd.R_reads' HO_3.out).2.2 aA dQ dR
         obtain rfl : fX = ad218 := Zwb
         replace dQ := eq_true dQ
         replace dR := eq_true dR
         have iJ : 0 ≤ (bS : Int) := of_decide_eq_true Zc
         have iK : bS < ((rdOf ByteArray.empty bF aA).size : Int) := of_decide_eq_true Zc
         have kV := Yza (rdOf ByteArray.empty bF aA) bS
         replace iJ := eq_true iJ
         replace iK := eq_true iK
         go_wp2_with (first | (go_at_call 87; (with_reducible refine (Yw.calls (bt (rdOf ByteArray.empty bF aA) bS) false _ ?side1 A21.out).mono ?_); (case side1 => first | exact HE.out | exact EnvOk.below HE.out Za); rintro e w' ⟨rfl, ⟨nd, rfl⟩⟩))
         go_roundg k3
         case measure => have := cU.out; have := HJ4.out; have := sH.out; omega
         case rel => exact ⟨(wrap64 (bS + 1)), Zf, H', ⟨Zna⟩, ⟨Zm⟩, ⟨Za⟩⟩
        rw [if_neg jG] at H
        have nW : ((bt (rdOf ByteArray.empty bF aA) bS) == 45) = false := beq_eq_false_iff_ne.mpr jG
        have nX : ((bt (rdOf ByteArray.empty bF aA) bS) != 45) = true := bne_iff_ne.mpr jG
        by_cases jX : ((bt (rdOf ByteArray.empty bF aA) bS) = 95)
        rotate_left
        ·rw [if_neg jX] at H
         have pU : ((bt (rdOf ByteArray.empty bF aA) bS) == 95) = false := beq_eq_false_iff_ne.mpr jX
         have pV : ((bt (rdOf ByteArray.empty bF aA) bS) != 95) = true := bne_iff_ne.mpr jX
         obtain rfl := Option.some.inj H
         have dE : 0 ≤ (aA : Int) := of_decide_eq_true Zc
         have dF : aA < (bF.length : Int) := of_decide_eq_true Zc
         obtain ⟨fX, iT, gG⟩ := Kd.at_string (Kd.R_reads' HO_3.out).2.2 aA dE dF
         cases iT
         replace dE := eq_true dE
         replace dF := eq_true dF
         have dQ : 0 ≤ (aA : Int) := of_decide_eq_true Zc
         have dR : aA < (bF.length : Int) := of_decide_eq_true Zc
         obtain ⟨ad218, qC, gP⟩ := Kd.at_string (Kd.R_reads' HO_3.out).2.2 aA dQ dR
         obtain rfl : fX = ad218 := Zwb
         replace dQ := eq_true dQ
         replace dR := eq_true dR
         have iJ : 0 ≤ (bS : Int) := of_decide_eq_true Zc
         have iK : bS < ((rdOf ByteArray.empty bF aA).size : Int) := of_decide_eq_true Zc
         have kV := Yza (rdOf ByteArray.empty bF aA) bS
         replace iJ := eq_true iJ
         replace iK := eq_true iK
         go_wp2_with (first | (go_at_call 87; (with_reducible refine (Yw.calls (bt (rdOf ByteArray.empty bF aA) bS) false _ ?side1 A21.out).mono ?_); (case side1 => first | exact HE.out | exact EnvOk.below HE.out Za); rintro e w' ⟨rfl, ⟨nd, rfl⟩⟩))
         go_ret
         exact ⟨Zl, Za⟩
        rw [if_pos jX] at H
        have pU : ((bt (rdOf ByteArray.empty bF aA) bS) == 95) = true := beq_iff_eq.mpr jX
        have pV : ((bt (rdOf ByteArray.empty bF aA) bS) != 95) = false := bne_eq_false_iff_eq.mpr jX
        clear jX
        have H' := Ya.mk H
        clear H
        have dE : 0 ≤ (aA : Int) := of_decide_eq_true Zc
        have dF : aA < (bF.length : Int) := of_decide_eq_true Zc
        obtain ⟨fX, iT, gG⟩ := Kd.at_string (Kd.R_reads' HO_3.out).2.2 aA dE dF
        cases iT
        replace dE := eq_true dE
        replace dF := eq_true dF
        have dQ : 0 ≤ (aA : Int) := of_decide_eq_true Zc
        have dR : aA < (bF.length : Int) := of_decide_eq_true Zc
        obtain ⟨ad218, qC, gP⟩ := Kd.at_string (Kd.R_reads' HO_3.out).2.2 aA dQ dR
        obtain rfl : fX = ad218 := Zwb
        replace dQ := eq_true dQ
        replace dR := eq_true dR
        have iJ : 0 ≤ (bS : Int) := of_decide_eq_true Zc
        have iK : bS < ((rdOf ByteArray.empty bF aA).size : Int) := of_decide_eq_true Zc
        have kV := Yza (rdOf ByteArray.empty bF aA) bS
        replace iJ := eq_true iJ
        replace iK := eq_true iK
        go_wp2_with (first | (go_at_call 87; (with_reducible refine (Yw.calls (bt (rdOf ByteArray.empty bF aA) bS) false _ ?side1 A21.out).mono ?_); (case side1 => first | exact HE.out | exact EnvOk.below HE.out Za); rintro e w' ⟨rfl, ⟨nd, rfl⟩⟩))
        go_roundg k3
        case measure => have := cU.out; have := HJ4.out; have := sH.out; omega
        case rel => exact ⟨(wrap64 (bS + 1)), Zf, H', ⟨Zna⟩, ⟨Zm⟩, ⟨Za⟩⟩
       rw [if_pos dG] at H
       have eS : decide (97 ≤ (bt (rdOf ByteArray.empty bF aA) bS)) = true := decide_eq_true dG
       clear dG
       by_cases eN : (bt (rdOf ByteArray.empty bF aA) bS) ≤ 122
       ·rw [if_pos eN] at H
        have gZ : decide ((bt (rdOf ByteArray.empty bF aA) bS) ≤ 122) = true := decide_eq_true eN
        clear eN
        have H' := Ya.mk H
        clear H
        have dE : 0 ≤ (aA : Int) := of_decide_eq_true Zc
        have dF : aA < (bF.length : Int) := of_decide_eq_true Zc
        obtain ⟨fX, iT, gG⟩ := Kd.at_string (Kd.R_reads' HO_3.out).2.2 aA dE dF
        cases iT
        replace dE := eq_true dE
        replace dF := eq_true dF
        have dQ : 0 ≤ (aA : Int) := of_decide_eq_true Zc
        have dR : aA < (bF.length : Int) := of_decide_eq_true Zc
        obtain ⟨ad218, qC, gP⟩ := Kd.at_string (Kd.R_reads' HO_3.out).2.2 aA dQ dR
        obtain rfl : fX = ad218 := Zwb
        replace dQ := eq_true dQ
        replace dR := eq_true dR
        have iJ : 0 ≤ (bS : Int) := of_decide_eq_true Zc
        have iK : bS < ((rdOf ByteArray.empty bF aA).size : Int) := of_decide_eq_true Zc
        have kV := Yza (rdOf ByteArray.empty bF aA) bS
        replace iJ := eq_true iJ
        replace iK := eq_true iK
        go_wp2
        go_roundg k3
        case measure => have := cU.out; have := HJ4.out; have := sH.out; omega
        case rel => exact ⟨(wrap64 (bS + 1)), Zf, H', ⟨Zna⟩, ⟨Zm⟩, ⟨Za⟩⟩
       rw [if_neg eN] at H
       have gZ : decide ((bt (rdOf ByteArray.empty bF aA) bS) ≤ 122) = false := decide_eq_false eN
       clear eN
       replace H := Option.bind_eq_some_iff.mp H
       obtain ⟨aGf, oI, H⟩ := H
       try dsimp -simprocs only at H
       have A17 := Ya.mk oI
       clear oI
       by_cases eO : aGf = true
       ·subst eO
        rw [if_pos rfl] at H
        have H' := Ya.mk H
        clear H
        have dE : 0 ≤ (aA : Int) := of_decide_eq_true Zc
        have dF : aA < (bF.length : Int) := of_decide_eq_true Zc
        obtain ⟨fX, iT, gG⟩ := Kd.at_string (Kd.R_reads' HO_3.out).2.2 aA dE dF
        cases iT
        replace dE := eq_true dE
        replace dF := eq_true dF
        have dQ : 0 ≤ (aA : Int) := of_decide_eq_true Zc
        have dR : aA < (bF.length : Int) := of_decide_eq_true Zc
        obtain ⟨ad218, qC, gP⟩ := Kd.at_string (Kd.R_reads' HO_3.out).2.2 aA dQ dR
        obtain rfl : fX = ad218 := Zwb
        replace dQ := eq_true dQ
        replace dR := eq_true dR
        have iJ : 0 ≤ (bS : Int) := of_decide_eq_true Zc
        have iK : bS < ((rdOf ByteArray.empty bF aA).size : Int) := of_decide_eq_true Zc
        have kV := Yza (rdOf ByteArray.empty bF aA) bS
        replace iJ := eq_true iJ
        replace iK := eq_true iK
        go_wp2_with (first | (go_at_call 87; (with_reducible refine (Yw.calls (bt (rdOf ByteArray.empty bF aA) bS) true _ ?side1 A17.out).mono ?_); (case side1 => first | exact HE.out | exact EnvOk.below HE.out Za); rintro e w' ⟨rfl, ⟨nd, rfl⟩⟩))
        go_roundg k3
        case measure => have := cU.out; have := HJ4.out; have := sH.out; omega
        case rel => exact ⟨(wrap64 (bS + 1)), Zf, H', ⟨Zna⟩, ⟨Zm⟩, ⟨Za⟩⟩
       replace eO := Bool.eq_false_iff.mpr eO
       subst eO
       rw [if_neg (show ¬ (false = true) by decide)] at H
       by_cases iI : (bt (rdOf ByteArray.empty bF aA) bS) = 45
       ·rw [if_pos iI] at H
        have jZ : ((bt (rdOf ByteArray.empty bF aA) bS) == 45) = true := beq_iff_eq.mpr iI
        have pL : ((bt (rdOf ByteArray.empty bF aA) bS) != 45) = false := bne_eq_false_iff_eq.mpr iI
        clear iI
        have H' := Ya.mk H
        clear H
        have dE : 0 ≤ (aA : Int) := of_decide_eq_true Zc
        have dF : aA < (bF.length : Int) := of_decide_eq_true Zc
        obtain ⟨fX, iT, gG⟩ := Kd.at_string (Kd.R_reads' HO_3.out).2.2 aA dE dF
        cases iT
        replace dE := eq_true dE
        replace dF := eq_true dF
        have dQ : 0 ≤ (aA : Int) := of_decide_eq_true Zc
        have dR : aA < (bF.length : Int) := of_decide_eq_true Zc
        obtain ⟨ad218, qC, gP⟩ := Kd.at_string (Kd.R_reads' HO_3.out).2.2 aA dQ dR
        obtain rfl : fX = ad218 := Zwb
        replace dQ := eq_true dQ
        replace dR := eq_true dR
        have iJ : 0 ≤ (bS : Int) := of_decide_eq_true Zc
        have iK : bS < ((rdOf ByteArray.empty bF aA).size : Int) := of_decide_eq_true Zc
        have kV := Yza (rdOf ByteArray.empty bF aA) bS
        replace iJ := eq_true iJ
        replace iK := eq_true iK
        go_wp2_with (first | (go_at_call 87; (with_reducible refine (Yw.calls (bt (rdOf ByteArray.empty bF aA) bS) false _ ?side1 A17.out).mono ?_); (case side1 => first | exact HE.out | exact EnvOk.below HE.out Za); rintro e w' ⟨rfl, ⟨nd, rfl⟩⟩))
        go_roundg k3
        case measure => have := cU.out; have := HJ4.out; have := sH.out; omega
        case rel => exact ⟨(wrap64 (bS + 1)), Zf, H', ⟨Zna⟩, ⟨Zm⟩, ⟨Za⟩⟩
       rw [if_neg iI] at H
       have jZ : ((bt (rdOf ByteArray.empty bF aA) bS) == 45) = false := beq_eq_false_iff_ne.mpr iI
       have pL : ((bt (rdOf ByteArray.empty bF aA) bS) != 45) = true := bne_iff_ne.mpr iI
       by_cases gV : ((bt (rdOf ByteArray.empty bF aA) bS) = 95)
       rotate_left
       ·rw [if_neg gV] at H
        have kA : ((bt (rdOf ByteArray.empty bF aA) bS) == 95) = false := beq_eq_false_iff_ne.mpr gV
        have sT : ((bt (rdOf ByteArray.empty bF aA) bS) != 95) = true := bne_iff_ne.mpr gV
        obtain rfl := Option.some.inj H
        have dE : 0 ≤ (aA : Int) := of_decide_eq_true Zc
        have dF : aA < (bF.length : Int) := of_decide_eq_true Zc
        obtain ⟨fX, iT, gG⟩ := Kd.at_string (Kd.R_reads' HO_3.out).2.2 aA dE dF
        cases iT
        replace dE := eq_true dE
        replace dF := eq_true dF
        have dQ : 0 ≤ (aA : Int) := of_decide_eq_true Zc
        have dR : aA < (bF.length : Int) := of_decide_eq_true Zc
        obtain ⟨ad218, qC, gP⟩ := Kd.at_string (Kd.R_reads' HO_3.out).2.2 aA dQ dR
        obtain rfl : fX = ad218 := Zwb
        replace dQ := eq_true dQ
        replace dR := eq_true dR
        have iJ : 0 ≤ (bS : Int) := of_decide_eq_true Zc
        have iK : bS < ((rdOf ByteArray.empty bF aA).size : Int) := of_decide_eq_true Zc
        have kV := Yza (rdOf ByteArray.empty bF aA) bS
        replace iJ := eq_true iJ
        replace iK := eq_true iK
        go_wp2_with (first | (go_at_call 87; (with_reducible refine (Yw.calls (bt (rdOf ByteArray.empty bF aA) bS) false _ ?side1 A17.out).mono ?_); (case side1 => first | exact HE.out | exact EnvOk.below HE.out Za); rintro e w' ⟨rfl, ⟨nd, rfl⟩⟩))
        go_ret
        exact ⟨Zl, Za⟩
       rw [if_pos gV] at H
       have kA : ((bt (rdOf ByteArray.empty bF aA) bS) == 95) = true := beq_iff_eq.mpr gV
       have sT : ((bt (rdOf ByteArray.empty bF aA) bS) != 95) = false := bne_eq_false_iff_eq.mpr gV
       clear gV
       have H' := Ya.mk H
       clear H
       have dE : 0 ≤ (aA : Int) := of_decide_eq_true Zc
       have dF : aA < (bF.length : Int) := of_decide_eq_true Zc
       obtain ⟨fX, iT, gG⟩ := Kd.at_string (Kd.R_reads' HO_3.out).2.2 aA dE dF
       cases iT
       replace dE := eq_true dE
       replace dF := eq_true dF
       have dQ : 0 ≤ (aA : Int) := of_decide_eq_true Zc
       have dR : aA < (bF.length : Int) := of_decide_eq_true Zc
       obtain ⟨ad218, qC, gP⟩ := Kd.at_string (Kd.R_reads' HO_3.out).2.2 aA dQ dR
       obtain rfl : fX = ad218 := Zwb
       replace dQ := eq_true dQ
       replace dR := eq_true dR
       have iJ : 0 ≤ (bS : Int) := of_decide_eq_true Zc
       have iK : bS < ((rdOf ByteArray.empty bF aA).size : Int) := of_decide_eq_true Zc
       have kV := Yza (rdOf ByteArray.empty bF aA) bS
       replace iJ := eq_true iJ
       replace iK := eq_true iK
       go_wp2_with (first | (go_at_call 87; (with_reducible refine (Yw.calls (bt (rdOf ByteArray.empty bF aA) bS) false _ ?side1 A17.out).mono ?_); (case side1 => first | exact HE.out | exact EnvOk.below HE.out Za); rintro e w' ⟨rfl, ⟨nd, rfl⟩⟩))
       go_roundg k3
       case measure => have := cU.out; have := HJ4.out; have := sH.out; omega
       case rel => exact ⟨(wrap64 (bS + 1)), Zf, H', ⟨Zna⟩, ⟨Zm⟩, ⟨Za⟩⟩
end Go.Proofs.YtnmglnglbdpjjaaGreatDoor.X
