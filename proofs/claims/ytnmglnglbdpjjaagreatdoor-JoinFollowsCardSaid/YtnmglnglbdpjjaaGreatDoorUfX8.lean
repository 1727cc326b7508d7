import Derived.Test.YtnmglnglbdpjjaaGreatDoorUfX7
set_option linter.all false
namespace Go.Proofs.YtnmglnglbdpjjaaGreatDoor.X
open Go.RowKit Go.Yw.PrintWords Go.Yw.PrintLast Go.Yw.PrintMore
attribute [local go_sem] Yfe Ybe Yre Yue Yld Ykd Yee Yde
set_option maxHeartbeats 8000000
set_option maxRecDepth 100000
mutual
def Yn.l0 : Nat → Y → List Int → Int → Option (Y)
 | 0, _, _, _ => none
 | k + 1, x0, x3, x4 => if x4 < (x0.size : Int) then (if 0 ≤ x4 then (if (bt x0 x4) = 37 then (if (wrap64 (x4 + 2)) < (x0.size : Int) then (if 0 ≤ (wrap64 (x4 + 1)) then (if (wrap64 (x4 + 1)) < (x0.size : Int) then ((Yga.f k (bt x0 (wrap64 (x4 + 1)))).bind fun rL => (if rL < 16 then (if 0 ≤ (wrap64 (x4 + 2)) then ((Yga.f k (bt x0 (wrap64 (x4 + 2)))).bind fun tY => (Yn.j1 k x0 x3 x4 (decide (tY < 16)))) else (none)) else (Yn.j1 k x0 x3 x4 false))) else (none)) else (none)) else (Yn.j1 k x0 x3 x4 false)) else (Yn.j1 k x0 x3 x4 false)) else (none)) else (some (strOfNums x3))
def Yn.j1 : Nat → Y → List Int → Int → Bool → Option (Y)
 | 0, _, _, _, _ => none
 | k + 1, x0, x3, x4, x37 => if x37 = true then (if 0 ≤ (wrap64 (x4 + 1)) then (if (wrap64 (x4 + 1)) < (x0.size : Int) then ((Yga.f k (bt x0 (wrap64 (x4 + 1)))).bind fun rM => (if 0 ≤ (wrap64 (x4 + 2)) then (if (wrap64 (x4 + 2)) < (x0.size : Int) then ((Yga.f k (bt x0 (wrap64 (x4 + 2)))).bind fun pE => (if x3.length < 140737488355328 then (Yn.l0 k x0 (x3 ++ [((((rM * 16) % 4294967296) + pE) % 4294967296) % 256]) (wrap64 ((wrap64 (x4 + 2)) + 1))) else (none))) else (none)) else (none))) else (none)) else (none)) else (if 0 ≤ x4 then (if x4 < (x0.size : Int) then (if x3.length < 140737488355328 then (Yn.l0 k x0 (x3 ++ [bt x0 x4]) (wrap64 (x4 + 1))) else (none)) else (none)) else (none))
end
def Yn.f (k : Nat) (a0 : Y) : Option (Y) := Yn.l0 k a0 ([] : List Int) 0
def Yn.T6 : Bool × List (List Nat × List Nat) := (true, [([], []), ([], []), ([], []), ([2], [2]), ([1, 3], [1, 3]), ([4], [4]), ([5], [5]), ([], []), ([], []), ([8], [8]), ([7, 9], [7, 9]), ([10, 5], [10]), ([6, 11], [6, 11]), ([12], [12]), ([13], [13]), ([0, 14, 11], [0, 14]), ([15, 15, 0, 1, 2, 3, 4, 5, 6, 7, 8, 9, 10, 11, 12, 13, 14, 15], [0, 15])])
def Yn.B6 : List Nat := [0, 0, 0, 4, 14, 30, 62, 0, 0, 256, 896, 1982, 4094, 8190, 16382, 32767, 65535]
theorem Yn.tab6 : rtab .any (opsOf Tryz.f55 6) = Yn.T6 := by kernel_rfl
theorem Yn.bits6 : Yig Yn.T6.2 Yn.B6 = true := by kernel_rfl
theorem Yn.calls (k : Nat) (a0 r : Y) (w : World) (hE : EnvOk w) (h : Yn.f k a0 = some r) :
  Calls Tryz.prog 55 #[.string a0] w fun e w' => e = .returned (.string r) ∧ Below w.heap.size w w' := by
 have HE := Ya.mk hE
 clear hE
 have HB := Ya.mk (Below.refl w.heap.size w)
 have H : (Yn.l0 k a0 ([] : List Int) 0) = some r := h
 clear h
 have H' := Ya.mk H
 clear H
 go_enter Tryz.func55, Tryz.ntmps55
 go_wp2
 go_loopg [3, 4] k (fun kq v3 v4 w' => ∃ (aD : List Int) (aA : Int), v4 = .int .i64 aA ∧ Ya (Yn.l0 kq a0 aD aA = some r) ∧ Ya (kq ≤ k) ∧ Ya (Kd.R (Kd.int .u8) 5 w' w.heap.size (fun _ => True) v3 aD) ∧ Ya (Below w.heap.size w w'))
 case atStart => exact ⟨(([] : List Int)), (0), Zf, H', ⟨Kw _⟩, ⟨Zfa⟩, ⟨Za⟩⟩
 case round =>
  clear H'
  obtain ⟨aD, aA, rfl, HA, dB, HO_3, HB⟩ := hrel
  cases gk with
  | zero => exact absurd HA.out (by simp [Yn.l0])
  | succ k1 =>
   have H := HA.out
   clear HA
   simp only [Yn.l0] at H
   by_cases c2 : aA < (a0.size : Int)
   rotate_left
   ·rw [if_neg c2] at H
    have eS : decide (aA < (a0.size : Int)) = false := Ks c2
    clear c2
    obtain rfl := Kv H
    have aXl := Ygh (P := Tryz.prog) Tryz.underlying62 Tryz.underlying5 Tryz.underlying9 (Kd.own_of_R HO_3.out)
    go_wp2
    go_ret
    exact ⟨Zl, Za⟩
   rw [if_pos c2] at H
   have eS : decide (aA < (a0.size : Int)) = true := Kr c2
   clear c2
   have qN := Ya.mk H
   clear H
   go_upto_region 5 with (fail)
   go_cut [37] (fun v37 wc => ∃ (kq : Nat) (zB : Bool), v37 = .bool zB ∧ Ya (Yn.j1 kq a0 aD aA zB = some r) ∧ Ya (kq ≤ k1) ∧ Ya (Kd.R (Kd.int .u8) 5 wc w.heap.size (fun _ => True) u3 aD) ∧ Ya (Below w.heap.size w wc))
   case first =>
    have H := qN.out
    clear qN
    by_cases c4 : 0 ≤ aA
    rotate_left
    ·rw [if_neg c4] at H
     exact absurd H Zv
    rw [if_pos c4] at H
    have bX : decide (0 ≤ aA) = true := Kr c4
    clear c4
    (first | rw [bX] | (simp only [Yaa, Yda]; rw [bX]) | skip)
    by_cases c6 : (bt a0 aA) = 37
    rotate_left
    ·rw [if_neg c6] at H
     have dN : ((bt a0 aA) == 37) = false := Kz c6
     have jB : ((bt a0 aA) != 37) = true := Kaa c6
     have H' := Ya.mk H
     clear H
     have p5 : (0 ≤ (aA : Int)) = True := Kp
     have q5 : aA < (a0.size : Int) := Kq Zc
     have dV := Ybb a0 aA
     replace q5 := Kt q5
     go_wp2
     go_meet
     case rel => exact ⟨_, (false), Zf, H', ⟨Zia⟩, ⟨Zm⟩, ⟨Za⟩⟩
    rw [if_pos c6] at H
    have dN : ((bt a0 aA) == 37) = true := Kba c6
    have jB : ((bt a0 aA) != 37) = false := Ky c6
    clear c6
    by_cases c7 : (wrap64 (aA + 2)) < (a0.size : Int)
    rotate_left
    ·rw [if_neg c7] at H
     have cW : decide ((wrap64 (aA + 2)) < (a0.size : Int)) = false := Ks c7
     clear c7
     have H' := Ya.mk H
     clear H
     have p5 : (0 ≤ (aA : Int)) = True := Kp
     have q5 : aA < (a0.size : Int) := Kq Zc
     have dV := Ybb a0 aA
     replace q5 := Kt q5
     go_wp2
     go_meet
     case rel => exact ⟨_, (false), Zf, H', ⟨Zia⟩, ⟨Zm⟩, ⟨Za⟩⟩
    rw [if_pos c7] at H
    have cW : decide ((wrap64 (aA + 2)) < (a0.size : Int)) = true := Kr c7
    clear c7
    obtain ⟨ji8, qO⟩ : ∃ j_ : Int, (wrap64 (aA + 1)) = j_ := ⟨_, rfl⟩
    replace H : (if 0 ≤ (ji8) then (if (ji8) < (a0.size : Int) then ((Yga.f k1 (bt a0 (ji8))).bind fun rL => (if rL < 16 then (if 0 ≤ (wrap64 (aA + 2)) then ((Yga.f k1 (bt a0 (wrap64 (aA + 2)))).bind fun tY => (Yn.j1 k1 a0 aD aA (decide (tY < 16)))) else (none)) else (Yn.j1 k1 a0 aD aA false))) else (none)) else (none)) = some r := by first | (rw [qO] at H; exact H) | (simp only [qO] at H ⊢; exact H)
    have hji8w : (IntKind.i64.wrap (aA + 1)) = ji8 := (Yaa _).trans qO
    by_cases c9 : 0 ≤ (ji8)
    rotate_left
    ·rw [if_neg c9] at H
     exact absurd H Zv
    rw [if_pos c9] at H
    have iC : decide (0 ≤ (ji8)) = true := Kr c9
    clear c9
    by_cases dP : (ji8) < (a0.size : Int)
    rotate_left
    ·rw [if_neg dP] at H
     exact absurd H Zv
    rw [if_pos dP] at H
    have hD : decide ((ji8) < (a0.size : Int)) = true := Kr dP
    clear dP
    obtain ⟨rL, aBP, H⟩ := Ku H
    try dsimp -simprocs only at H
    have A12 := Ya.mk aBP
    clear aBP
    by_cases eM : rL < 16
    rotate_left
    ·rw [if_neg eM] at H
     have hG : decide (rL < 16) = false := Ks eM
     clear eM
     have H' := Ya.mk H
     clear H
     have p5 : (0 ≤ (aA : Int)) = True := Kp
     have q5 : aA < (a0.size : Int) := Kq Zc
     have dV := Ybb a0 aA
     replace q5 := Kt q5
     have iN : (0 ≤ ((ji8) : Int)) = True := Kp
     have iO : (ji8) < (a0.size : Int) := Kq Zc
     have lE := Ybb a0 (ji8)
     replace iO := Kt iO
     go_wp2_with (first | (go_at_call 97; (with_reducible refine (Yga.calls k1 (bt a0 (ji8)) rL _ ?z1 A12.out).mono ?_); (case z1 => exact Kh); rintro e w' ⟨rfl, ⟨nd, rfl⟩⟩))
     go_meet
     case rel => exact ⟨_, (false), Zf, H', ⟨Zia⟩, ⟨Zm⟩, ⟨Za⟩⟩
    rw [if_pos eM] at H
    have hG : decide (rL < 16) = true := Kr eM
    clear eM
    obtain ⟨ji14, tZ⟩ : ∃ j_ : Int, (wrap64 (aA + 2)) = j_ := ⟨_, rfl⟩
    replace H : (if 0 ≤ (ji14) then ((Yga.f k1 (bt a0 (ji14))).bind fun tY => (Yn.j1 k1 a0 aD aA (decide (tY < 16)))) else (none)) = some r := by first | (rw [tZ] at H; exact H) | (simp only [tZ] at H ⊢; exact H)
    (try rw [tZ] at cW)
    (try rw [tZ] at A12)
    have hji14w : (IntKind.i64.wrap (aA + 2)) = ji14 := (Yaa _).trans tZ
    by_cases dG : 0 ≤ (ji14)
    rotate_left
    ·rw [if_neg dG] at H
     exact absurd H Zv
    rw [if_pos dG] at H
    have eT : decide (0 ≤ (ji14)) = true := Kr dG
    clear dG
    obtain ⟨tY, oO, H⟩ := Ku H
    try dsimp -simprocs only at H
    have A17 := Ya.mk oO
    clear oO
    have H' := Ya.mk H
    clear H
    have p5 : (0 ≤ (aA : Int)) = True := Kp
    have q5 : aA < (a0.size : Int) := Kq Zc
    have dV := Ybb a0 aA
    replace q5 := Kt q5
    have iN : (0 ≤ ((ji8) : Int)) = True := Kp
    have iO : (ji8) < (a0.size : Int) := Kq Zc
    have lE := Ybb a0 (ji8)
    replace iO := Kt iO
    go_wp2_with (first | (go_at_call 97; (with_reducible refine (Yga.calls k1 (bt a0 (ji8)) rL _ ?z1 A12.out).mono ?_); (case z1 => exact Kh); rintro e w' ⟨rfl, ⟨nd, rfl⟩⟩; have p16 : (0 ≤ ((ji14) : Int)) = True := Kp; have q16 : (ji14) < (a0.size : Int) := Kq Zc; have aGf := Ybb a0 (ji14); replace q16 := Kt q16) | (go_at_call 97; (with_reducible refine (Yga.calls k1 (bt a0 (ji14)) tY _ ?z1 A17.out).mono ?_); (case z1 => exact Kh); rintro e w' ⟨rfl, ⟨nd, rfl⟩⟩))
    go_meet
    case rel => exact ⟨_, (decide (tY < 16)), Zf, H', ⟨Zia⟩, ⟨Zm⟩, ⟨Za⟩⟩
   case rest =>
    clear qN
    try clear c2
    try clear eS
    obtain ⟨kq, zB, rfl, HA, pL, HO_3, HB⟩ := hcut
    cases kq with
    | zero => exact absurd HA.out (by simp [Yn.j1])
    | succ nG =>
     have H := HA.out
     clear HA
     simp only [Yn.j1] at H
     by_cases eP : zB = true
     rotate_left
     ·replace eP := Kx eP
      subst eP
      rw [if_neg (show ¬ (false = true) by decide)] at H
      by_cases c32 : 0 ≤ aA
      rotate_left
      ·rw [if_neg c32] at H
       exact absurd H Zv
      rw [if_pos c32] at H
      have aIW : decide (0 ≤ aA) = true := Kr c32
      clear c32
      by_cases c33 : aA < (a0.size : Int)
      rotate_left
      ·rw [if_neg c33] at H
       exact absurd H Zv
      rw [if_pos c33] at H
      have aXm : decide (aA < (a0.size : Int)) = true := Kr c33
      clear c33
      by_cases c35 : aD.length < 140737488355328
      rotate_left
      ·rw [if_neg c35] at H
       exact absurd H Zv
      rw [if_pos c35] at H
      have aJA := Ya.mk c35
      clear c35
      obtain ⟨aJB, uA⟩ : ∃ y_ : List Int, y_ = (aD ++ [bt a0 aA]) := ⟨_, rfl⟩
      replace H : (Yn.l0 nG a0 aJB (wrap64 (aA + 1))) = some r := by first | (rw [uA]; with_reducible exact H) | (have dH := (Kfa _ _).symm.trans H; rw [uA]; with_reducible exact dH) | (have dH := (Kfa _ _).symm.trans H; with_reducible exact dH) | with_reducible exact H | (rw [uA]; exact H) | exact H
      have aJC := Ya.mk uA
      clear uA
      have H' := Ya.mk H
      clear H
      have p34 : (0 ≤ (aA : Int)) = True := Kp
      have q34 : aA < (a0.size : Int) := Kq Zc
      have aYf := Ybb a0 aA
      replace q34 := Kt q34
      go_wp2_with (first | ((with_reducible refine Yje (b := .append) (xs := #[.tmp 56, .tmp 60]) rfl ?_); (try (refine Yni Zga ?_; dsimp only)); at_builtin; refine Kd.R_append (Kd.int .u8) (w0 := w) w.heap.size rfl (.tmp 56) (.tmp 60) 62 5 (.int .u8 0) 1 rfl Tryz.underlying62 Yqm rfl Zca Zk u3 aD (bt a0 aA) [.int .u8 (bt a0 aA)] (fun _ => True) (fun _ => False) rfl rfl ?aP (fun _ hk => hk.elim) ?aF ?aO ?aB ?aS ?aL ?_; (case aP => exact rfl); (case aB => exact Za); (case aF => exact (fun _ _ => trivial)); (case aO => exact Zm); (case aS => exact Kg); (case aL => have := aJA.out; omega); intro aYg w36 ho hb hg hat; rw [← aJC.out] at ho; replace HB := Ya.mk (hb); have aJD := Ya.mk (ho); clear HO_3; clear ho hb hg hat))
      go_roundg nG
      case measure => have := dB.out; have := pL.out; omega
      case rel => exact ⟨(aJB), (wrap64 (aA + 1)), Zf, H', ⟨by have := dB.out; have := pL.out; omega⟩, ⟨by (with_reducible repeat (first | apply Kd.R_alloc | apply Kd.R_drewN | apply Kd.R_drew)); exact aJD.out⟩, ⟨Za⟩⟩
     subst eP
     rw [if_pos rfl] at H
     obtain ⟨ji19, zC⟩ : ∃ j_ : Int, (wrap64 (aA + 1)) = j_ := ⟨_, rfl⟩
     replace H : (if 0 ≤ (ji19) then (if (ji19) < (a0.size : Int) then ((Yga.f nG (bt a0 (ji19))).bind fun rM => (if 0 ≤ (wrap64 (aA + 2)) then (if (wrap64 (aA + 2)) < (a0.size : Int) then ((Yga.f nG (bt a0 (wrap64 (aA + 2)))).bind fun pE => (if aD.length < 140737488355328 then (Yn.l0 nG a0 (aD ++ [((((rM * 16) % 4294967296) + pE) % 4294967296) % 256]) (wrap64 ((wrap64 (aA + 2)) + 1))) else (none))) else (none)) else (none))) else (none)) else (none)) = some r := by first | (rw [zC] at H; exact H) | (simp only [zC] at H ⊢; exact H)
     have hji19w : (IntKind.i64.wrap (aA + 1)) = ji19 := (Yaa _).trans zC
     by_cases gX : 0 ≤ (ji19)
     rotate_left
     ·rw [if_neg gX] at H
      exact absurd H Zv
     rw [if_pos gX] at H
     have kE : decide (0 ≤ (ji19)) = true := Kr gX
     clear gX
     by_cases mN : (ji19) < (a0.size : Int)
     rotate_left
     ·rw [if_neg mN] at H
      exact absurd H Zv
     rw [if_pos mN] at H
     have zD : decide ((ji19) < (a0.size : Int)) = true := Kr mN
     clear mN
     obtain ⟨rM, aBQ, H⟩ := Ku H
     try dsimp -simprocs only at H
     have A23 := Ya.mk aBQ
     clear aBQ
     obtain ⟨ji24, qB⟩ : ∃ j_ : Int, (wrap64 (aA + 2)) = j_ := ⟨_, rfl⟩
     replace H : (if 0 ≤ (ji24) then (if (ji24) < (a0.size : Int) then ((Yga.f nG (bt a0 (ji24))).bind fun pE => (if aD.length < 140737488355328 then (Yn.l0 nG a0 (aD ++ [((((rM * 16) % 4294967296) + pE) % 4294967296) % 256]) (wrap64 ((ji24) + 1))) else (none))) else (none)) else (none)) = some r := by first | (rw [qB] at H; exact H) | (simp only [qB] at H ⊢; exact H)
     (try rw [qB] at A23)
     have hji24w : (IntKind.i64.wrap (aA + 2)) = ji24 := (Yaa _).trans qB
     by_cases pV : 0 ≤ (ji24)
     rotate_left
     ·rw [if_neg pV] at H
      exact absurd H Zv
     rw [if_pos pV] at H
     have tF : decide (0 ≤ (ji24)) = true := Kr pV
     clear pV
     by_cases vF : (ji24) < (a0.size : Int)
     rotate_left
     ·rw [if_neg vF] at H
      exact absurd H Zv
     rw [if_pos vF] at H
     have aIV : decide ((ji24) < (a0.size : Int)) = true := Kr vF
     clear vF
     obtain ⟨pE, tK, H⟩ := Ku H
     try dsimp -simprocs only at H
     have A28 := Ya.mk tK
     clear tK
     by_cases oS : aD.length < 140737488355328
     rotate_left
     ·rw [if_neg oS] at H
      exact absurd H Zv
     rw [if_pos oS] at H
     have aJE := Ya.mk oS
     clear oS
     obtain ⟨aJF, uB⟩ : ∃ y_ : List Int, y_ = (aD ++ [((((rM * 16) % 4294967296) + pE) % 4294967296) % 256]) := ⟨_, rfl⟩
     replace H : (Yn.l0 nG a0 aJF (wrap64 ((ji24) + 1))) = some r := by first | (rw [uB]; with_reducible exact H) | (have dH := (Kfa _ _).symm.trans H; rw [uB]; with_reducible exact dH) | (have dH := (Kfa _ _).symm.trans H; with_reducible exact dH) | with_reducible exact H | (rw [uB]; exact H) | exact H
     have aJG := Ya.mk uB
     clear uB
     have H' := Ya.mk H
     clear H
     try go_wp2
     have aH := Ya.mk (Kd.R_drew HO_3.out)
     have aR := Ya.mk (Yc HB.out)
     clear HO_3
     clear HB
     have HO_3 := aH
     have HB := aR
     clear aH aR
     have p22 : (0 ≤ ((ji19) : Int)) = True := Kp
     have q22 : (ji19) < (a0.size : Int) := Kq Zc
     have aVZ := Ybb a0 (ji19)
     replace q22 := Kt q22
     have p27 : (0 ≤ ((ji24) : Int)) = True := Kp
     have q27 : (ji24) < (a0.size : Int) := Kq Zc
     have aYh := Ybb a0 (ji24)
     replace q27 := Kt q27
     refine Ykg (n := 17) (S := fun w' => True) (ds := []) #[false, false, false, false, false, false, false, false, false, false, false, false, false, false, false, false, false] Zi rfl rfl trivial (fun hHeld => ?_); refine Ylf Yn.tab6 Yn.bits6 (fun HT_ HW_ => ?_)
     generalize wc.drew = w30 at HO_3 HB hHeld ⊢
     refine Yya (i := 0) (N := some 38) (v := ?_) (a' := ?_) #[true, false, false, false, false, false, false, false, false, false, false, false, false, false, false, false, false] rfl rfl (Ysa HT_.out Zi) (fun _ _ _ h => h) (Or.inl ⟨Zga, ?_⟩) ?_ ?_
     rotate_left
     ·exact Zyb
     rotate_left
     ·exact Zzb
     refine Yya (i := 1) (N := some 39) (v := ?_) (a' := ?_) #[true, true, false, false, false, false, false, false, false, false, false, false, false, false, false, false, false] rfl rfl (Ysa HT_.out Zi) (fun _ _ _ h => h) (Or.inl ⟨Zga, ?_⟩) ?_ ?_
     rotate_left
     ·exact Zyb
     rotate_left
     ·exact Zzb
     refine Yya (i := 2) (N := some 40) (v := ?_) (a' := ?_) #[true, true, true, false, false, false, false, false, false, false, false, false, false, false, false, false, false] rfl rfl (Ysa HT_.out Zi) (fun _ _ _ h => h) (Or.inl ⟨Zga, ?_⟩) ?_ ?_
     rotate_left
     ·exact Zyb
     rotate_left
     ·exact Zzb
     refine Yya (i := 3) (N := some 41) (v := ?_) (a' := ?_) #[true, true, true, true, false, false, false, false, false, false, false, false, false, false, false, false, false] rfl rfl (Ysa HT_.out Zi) (fun _ _ _ h => h) (Or.inl ⟨Zga, ?_⟩) ?_ ?_
     rotate_left
     ·exact Zyb
     rotate_left
     ·exact Zzb
     refine Yya (i := 7) (N := some 45) (v := ?_) (a' := ?_) #[true, true, true, true, false, false, false, true, false, false, false, false, false, false, false, false, false] rfl rfl (Ysa HT_.out Zi) (fun _ _ _ h => h) (Or.inl ⟨Zga, ?_⟩) ?_ ?_
     rotate_left
     ·exact Zyb
     rotate_left
     ·exact Zzb
     refine Yya (i := 8) (N := some 46) (v := ?_) (a' := ?_) #[true, true, true, true, false, false, false, true, true, false, false, false, false, false, false, false, false] rfl rfl (Ysa HT_.out Zi) (fun _ _ _ h => h) (Or.inl ⟨Zga, ?_⟩) ?_ ?_
     rotate_left
     ·exact Zyb
     rotate_left
     ·exact Zzb
     refine Yya (i := 9) (N := some 47) (v := ?_) (a' := ?_) #[true, true, true, true, false, false, false, true, true, true, false, false, false, false, false, false, false] rfl rfl (Ysa HT_.out Zi) (fun _ _ _ h => h) (Or.inl ⟨Zga, ?_⟩) ?_ ?_
     rotate_left
     ·exact Zyb
     rotate_left
     ·exact Zzb
     refine Ynf (i := 4) (N := some 42) (v := ?_) (a' := ?_) #[true, true, true, true, true, false, false, true, true, true, false, false, false, false, false, false, false] rfl rfl (Yae HT_.out HW_.out Zi) (fun _ _ _ h => h) (Or.inl ⟨Zga, ?_⟩) hHeld ?_ ?_
     rotate_left
     ·intro w' _
      go_simp
      with_reducible rfl
     rotate_left
     ·exact Zzb
     refine Ynf (i := 10) (N := some 48) (v := ?_) (a' := ?_) #[true, true, true, true, true, false, false, true, true, true, true, false, false, false, false, false, false] rfl rfl (Yae HT_.out HW_.out Zi) (fun _ _ _ h => h) (Or.inl ⟨Zga, ?_⟩) hHeld ?_ ?_
     rotate_left
     ·intro w' _
      go_simp
      with_reducible rfl
     rotate_left
     ·exact Zzb
     refine one_ (i := 5) (N := some 43) #[true, true, true, true, true, true, false, true, true, true, true, false, false, false, false, false, false] rfl rfl (Yne HT_.out Zi) Zca (fun K hK => ?_)
     refine Yvh Tryz.func97 Zi rfl #[.int .u8 (bt a0 (ji19))] Zga rfl rfl (by (try simp only [List.map_toArray, List.map_cons, List.map_nil]); first | done | (simp only [zC]; rfl) | rfl | (simp only [List.length_drop, List.length_take]; rfl)) ?_
     with_reducible refine (Yga.calls nG (bt a0 (ji19)) rM _ ?z1 A23.out).mono ?_
     (case z1 => exact Kh)
     rintro e w' ⟨rfl, ⟨nd, rfl⟩⟩
     refine ⟨_, rfl, ?_⟩
     refine hK.out _ _ trivial (fun hHeld => ?_)
     clear hK K
     refine Yeg (a' := ?_) ?_ ?_
     rotate_left
     ·show Act.put _ (some 43) _ = _
      simp only [Act.put, Kca, Yaa, Yda]
      rfl
     refine Yya (i := 6) (N := some 44) (v := ?_) (a' := ?_) #[true, true, true, true, true, true, true, true, true, true, true, false, false, false, false, false, false] rfl rfl (Ysa HT_.out Zi) (fun _ _ _ h => h) (Or.inl ⟨Zga, ?_⟩) ?_ ?_
     rotate_left
     ·exact Zyb
     rotate_left
     ·exact Zzb
     refine one_ (i := 11) (N := some 49) #[true, true, true, true, true, true, true, true, true, true, true, true, false, false, false, false, false] rfl rfl (Yne HT_.out Zi) Zca (fun K hK => ?_)
     refine Yvh Tryz.func97 Zi rfl #[.int .u8 (bt a0 (ji24))] Zga rfl rfl (by (try simp only [List.map_toArray, List.map_cons, List.map_nil]); first | done | (simp only [qB]; rfl) | rfl | (simp only [List.length_drop, List.length_take]; rfl)) ?_
     with_reducible refine (Yga.calls nG (bt a0 (ji24)) pE _ ?z1 A28.out).mono ?_
     (case z1 => exact Kh)
     rintro e w' ⟨rfl, ⟨nd, rfl⟩⟩
     refine ⟨_, rfl, ?_⟩
     refine hK.out _ _ trivial (fun hHeld => ?_)
     clear hK K
     refine Yeg (a' := ?_) ?_ ?_
     rotate_left
     ·show Act.put _ (some 49) _ = _
      simp only [Act.put, Kca, Yaa, Yda]
      rfl
     refine Yya (i := 12) (N := some 50) (v := ?_) (a' := ?_) #[true, true, true, true, true, true, true, true, true, true, true, true, true, false, false, false, false] rfl rfl (Ysa HT_.out Zi) (fun _ _ _ h => h) (Or.inl ⟨Zga, ?_⟩) ?_ ?_
     rotate_left
     ·exact Zyb
     rotate_left
     ·exact Zzb
     refine Yya (i := 13) (N := some 51) (v := ?_) (a' := ?_) #[true, true, true, true, true, true, true, true, true, true, true, true, true, true, false, false, false] rfl rfl (Ysa HT_.out Zi) (fun _ _ _ h => h) (Or.inl ⟨Zga, ?_⟩) ?_ ?_
     rotate_left
     ·exact Zyb
     rotate_left
     ·exact Zzb
     refine one_ (i := 14) (N := some 52) #[true, true, true, true, true, true, true, true, true, true, true, true, true, true, true, false, false] rfl rfl (Yne HT_.out Zi) Zca (fun K hK => ?_)
     refine value_ (w1 := ?_) (v := ?_) Zga rfl ?_ ?_
     rotate_left 2
     ·go_simp
      constructor
      ·rfl
      ·rfl
     refine hK.out _ _ trivial (fun hHeld => ?_)
     clear hK K
     refine Yeg (a' := ?_) ?_ ?_
     rotate_left
     ·show Act.put _ (some 52) _ = _
      simp only [Act.put, Kca, Yaa, Yda]
      rfl
     refine one_ (i := 15) (N := some 53) #[true, true, true, true, true, true, true, true, true, true, true, true, true, true, true, true, false] rfl rfl (Yne HT_.out Zi) Zca (fun K hK => ?_)
     refine Kd.R_append_step (Kd.int .u8) (w0 := w) w.heap.size Zga (.tmp 38) (.tmp 52) 62 5 (.int .u8 0) 1 rfl Tryz.underlying62 Yqm rfl Zca Zk u3 aD (((((rM * 16) % 4294967296) + pE) % 4294967296) % 256) [.int .u8 (((((rM * 16) % 4294967296) + pE) % 4294967296) % 256)] (fun _ => True) (fun _ => False) rfl rfl ?aP (fun _ hk => hk.elim) ?aF ?aO ?aB ?aS ?aL ?_
     (case aP => exact rfl)
     (case aB => exact Za)
     (case aF => exact (fun _ _ => trivial))
     (case aO => exact Zm)
     (case aS => exact Kg)
     (case aL => have := aJE.out; omega)
     intro aYi w31 ho hb hg hat
     rw [← aJG.out] at ho
     have aH := Ya.mk (hb)
     have aR := Ya.mk (ho)
     clear HB
     clear HO_3
     have HB := aH
     have aJH := aR
     clear aH aR
     clear ho hb hg hat
     refine hK.out _ _ trivial (fun hHeld => ?_)
     clear hK K
     refine Yeg (a' := ?_) ?_ ?_
     rotate_left
     ·show Act.put _ (some 53) _ = _
      simp only [Act.put, Kca, Yaa, Yda]
      rfl
     refine Yya (i := 16) (N := some 3) (v := ?_) (a' := ?_) #[true, true, true, true, true, true, true, true, true, true, true, true, true, true, true, true, true] rfl rfl (Ysa HT_.out Zi) (fun _ _ _ h => h) (Or.inl ⟨Zga, ?_⟩) ?_ ?_
     rotate_left
     ·exact Zyb
     rotate_left
     ·exact Zzb
     refine Yoh (Yvg HT_.out Zi) ?_
     try go_wp2
     go_roundg nG
     case measure => have := dB.out; have := pL.out; omega
     case rel => exact ⟨(aJF), (wrap64 ((ji24) + 1)), (by first | rfl | (simp; done) | (simp only [← qB] <;> (first | rfl | simp)) | (simp [*]; done)), H', ⟨by have := dB.out; have := pL.out; omega⟩, ⟨by (with_reducible repeat (first | apply Kd.R_alloc | apply Kd.R_drewN | apply Kd.R_drew)); exact aJH.out⟩, ⟨Za⟩⟩
mutual
def Yz.l0 : Nat → Y → Int → Int → Option (Int × Int)
 | 0, _, _, _ => none
 | k + 1, x0, x1, x6 => if x6 < (x0.size : Int) then (if 0 ≤ x6 then ((Yw.f (bt x0 x6)).bind fun aGg => (if aGg = true then (Yz.l0 k x0 x1 (wrap64 (x6 + 1))) else (some (0, 3)))) else (none)) else (if x0.toList = ([] : List UInt8) then (some (0, 3)) else (Yz.l1 k x0 x1 0 0))
def Yz.l1 : Nat → Y → Int → Int → Int → Option (Int × Int)
 | 0, _, _, _, _ => none
 | k + 1, x0, x1, x7, x8 => if x8 < (x0.size : Int) then (if 0 ≤ x8 then (if x7 > (wrap64 (Int.tdiv x1 10)) then (some (0, 5)) else (if x7 = (wrap64 (Int.tdiv x1 10)) then (if (((bt x0 x8) - 48) % 256) > (Int.tmod x1 10) then (some (0, 5)) else (if x1 < 0 then (some (0, 5)) else (Yz.l1 k x0 x1 (wrap64 ((wrap64 (x7 * 10)) + (((bt x0 x8) - 48) % 256))) (wrap64 (x8 + 1))))) else (if x1 < 0 then (some (0, 5)) else (Yz.l1 k x0 x1 (wrap64 ((wrap64 (x7 * 10)) + (((bt x0 x8) - 48) % 256))) (wrap64 (x8 + 1)))))) else (none)) else (some (x7, 0))
end
def Yz.f (k : Nat) (a0 : Y) (a1 : Int) : Option (Int × Int) := Yz.l0 k a0 a1 0
theorem Yz.calls (k : Nat) (a0 : Y) (a1 r1 r2 : Int) (w : World) (hE : EnvOk w) (h : Yz.f k a0 a1 = some (r1, r2)) :
  Calls Tryz.prog 89 #[.string a0, .int .i64 a1] w fun e w' => e = .returned (.tuple #[.int .i64 r1, .int .i64 r2]) ∧ Drawn0 w w' := by
 have HE := Ya.mk hE
 clear hE
 have H : (Yz.l0 k a0 a1 0) = some (r1, r2) := h
 clear h
 have H' := Ya.mk H
 clear H
 go_enter Tryz.func89, Tryz.ntmps89
 go_wp2
 go_loopg [6] k (fun kq v6 w' => ∃ (aC : Int), v6 = .int .i64 aC ∧ Ya (Yz.l0 kq a0 a1 aC = some (r1, r2)) ∧ Ya (kq ≤ k) ∧ Drawn0 w w')
 case atStart => exact ⟨(0), Zf, H', ⟨Kw _⟩, Zh⟩
 case round =>
  clear H'
  try clear p2
  obtain ⟨aC, rfl, HA, dB, ⟨m1, rfl⟩⟩ := hrel
  cases gk with
  | zero => exact absurd HA.out (by simp [Yz.l0])
  | succ k1 =>
   have H := HA.out
   clear HA
   simp only [Yz.l0] at H
   by_cases c3 : aC < (a0.size : Int)
   ·rw [if_pos c3] at H
    have cC : decide (aC < (a0.size : Int)) = true := Kr c3
    clear c3
    by_cases c4 : 0 ≤ aC
    rotate_left
    ·rw [if_neg c4] at H
     exact absurd H Zv
    rw [if_pos c4] at H
    have bX : decide (0 ≤ aC) = true := Kr c4
    clear c4
    obtain ⟨aGg, pQ, H⟩ := Ku H
    try dsimp -simprocs only at H
    have A6 := Ya.mk pQ
    clear pQ
    by_cases c7 : aGg = true
    ·subst c7
     rw [if_pos rfl] at H
     have H' := Ya.mk H
     clear H
     have p5 : (0 ≤ (aC : Int)) = True := Kp
     have q5 : aC < (a0.size : Int) := Kq Zc
     have dV := Ybb a0 aC
     replace q5 := Kt q5
     go_wp2_with (first | ((with_reducible refine Yh (f := 87) rfl ?_); refine Yca (some 19) rfl rfl Tryz.func87 Zi rfl #[.int .u8 (bt a0 aC)] rfl Zb ?_; (with_reducible refine (Yw.calls (bt a0 aC) true _ ?z1 A6.out).mono ?_); (case z1 => exact Kj); rintro e w' ⟨rfl, ⟨nd, rfl⟩⟩; refine ⟨_, rfl, ?_⟩))
     go_roundg k1
     case measure => have := dB.out; omega
     case rel => exact ⟨(wrap64 (aC + 1)), Zf, H', ⟨Zba⟩, Zh⟩
    replace c7 := Kx c7
    subst c7
    rw [if_neg (show ¬ (false = true) by decide)] at H
    simp only [Kda, Kea] at H
    obtain ⟨rfl, rfl⟩ := H
    have p5 : (0 ≤ (aC : Int)) = True := Kp
    have q5 : aC < (a0.size : Int) := Kq Zc
    have dV := Ybb a0 aC
    replace q5 := Kt q5
    go_wp2_with (first | ((with_reducible refine Yh (f := 87) rfl ?_); refine Yca (some 19) rfl rfl Tryz.func87 Zi rfl #[.int .u8 (bt a0 aC)] rfl Zb ?_; (with_reducible refine (Yw.calls (bt a0 aC) false _ ?z1 A6.out).mono ?_); (case z1 => exact Kj); rintro e w' ⟨rfl, ⟨nd, rfl⟩⟩; refine ⟨_, rfl, ?_⟩))
    go_ret2
    exact ⟨Zf, Zh⟩
   rw [if_neg c3] at H
   have cC : decide (aC < (a0.size : Int)) = false := Ks c3
   clear c3
   by_cases c8 : a0.toList = ([] : List UInt8)
   ·rw [if_pos c8] at H
    have gS : (a0.toList == ([] : List UInt8)) = true := Kba c8
    have jA : (a0.toList != ([] : List UInt8)) = false := Ky c8
    clear c8
    simp only [Kda, Kea] at H
    obtain ⟨rfl, rfl⟩ := H
    go_wp2
    go_ret2
    exact ⟨Zf, Zh⟩
   rw [if_neg c8] at H
   have gS : (a0.toList == ([] : List UInt8)) = false := Kz c8
   have jA : (a0.toList != ([] : List UInt8)) = true := Kaa c8
   have H' := Ya.mk H
   clear H
   go_wp2
   go_loopg [7, 8] k1 (fun kq v7 v8 w' => ∃ (iP : Int) (cS : Int), v7 = .int .i64 iP ∧ v8 = .int .i64 cS ∧ Ya (Yz.l1 kq a0 a1 iP cS = some (r1, r2)) ∧ Ya (kq ≤ k1) ∧ Drawn0 w w')
   case atStart => exact ⟨(0), (0), Zf, Zf, H', ⟨Kw _⟩, Zh⟩
   case round =>
    clear H'
    try clear p2
    try clear c3
    try clear cC
    try clear c4
    try clear bX
    try clear p5
    try clear q5
    try clear dV
    try clear p6
    try clear c7
    try clear c8
    try clear gS
    try clear jA
    try clear p2
    try clear p5
    try clear q5
    obtain ⟨iP, cS, rfl, rfl, HA, jX, ⟨m2, rfl⟩⟩ := hrel
    cases gk with
    | zero => exact absurd HA.out (by simp [Yz.l1])
    | succ k2 =>
     have H := HA.out
     clear HA
     simp only [Yz.l1] at H
     by_cases c9 : cS < (a0.size : Int)
     rotate_left
     ·rw [if_neg c9] at H
      have iC : decide (cS < (a0.size : Int)) = false := Ks c9
      clear c9
      simp only [Kda, Kea] at H
      obtain ⟨rfl, rfl⟩ := H
      go_wp2
      go_ret2
      exact ⟨Zf, Zh⟩
     rw [if_pos c9] at H
     have iC : decide (cS < (a0.size : Int)) = true := Kr c9
     clear c9
     by_cases dP : 0 ≤ cS
     rotate_left
     ·rw [if_neg dP] at H
      exact absurd H Zv
     rw [if_pos dP] at H
     have hD : decide (0 ≤ cS) = true := Kr dP
     clear dP
     by_cases dD : iP > (wrap64 (Int.tdiv a1 10))
     ·rw [if_pos dD] at H
      have dS : decide ((wrap64 (Int.tdiv a1 10)) < iP) = true := Kr dD
      clear dD
      simp only [Kda, Kea] at H
      obtain ⟨rfl, rfl⟩ := H
      have iN : (0 ≤ (cS : Int)) = True := Kp
      have iO : cS < (a0.size : Int) := Kq Zc
      have lE := Ybb a0 cS
      replace iO := Kt iO
      go_wp2
      go_ret2
      exact ⟨Zf, Zh⟩
     rw [if_neg dD] at H
     have dS : decide ((wrap64 (Int.tdiv a1 10)) < iP) = false := Ks dD
     clear dD
     by_cases eM : iP = (wrap64 (Int.tdiv a1 10))
     rotate_left
     ·rw [if_neg eM] at H
      have hG : (iP == (wrap64 (Int.tdiv a1 10))) = false := Kz eM
      have aEX : (iP != (wrap64 (Int.tdiv a1 10))) = true := Kaa eM
      by_cases eO : a1 < 0
      ·rw [if_pos eO] at H
       have hF : decide (a1 < 0) = true := Kr eO
       clear eO
       simp only [Kda, Kea] at H
       obtain ⟨rfl, rfl⟩ := H
       have iN : (0 ≤ (cS : Int)) = True := Kp
       have iO : cS < (a0.size : Int) := Kq Zc
       have lE := Ybb a0 cS
       replace iO := Kt iO
       go_wp2
       go_ret2
       exact ⟨Zf, Zh⟩
      rw [if_neg eO] at H
      have hF : decide (a1 < 0) = false := Ks eO
      clear eO
      have H' := Ya.mk H
      clear H
      have iN : (0 ≤ (cS : Int)) = True := Kp
      have iO : cS < (a0.size : Int) := Kq Zc
      have lE := Ybb a0 cS
      replace iO := Kt iO
      go_wp2
      go_roundg k2
      case measure => have := dB.out; have := jX.out; omega
      case rel => exact ⟨(wrap64 ((wrap64 (iP * 10)) + (((bt a0 cS) - 48) % 256))), (wrap64 (cS + 1)), Zf, Zf, H', ⟨Zdb⟩, Zh⟩
     rw [if_pos eM] at H
     have hG : (iP == (wrap64 (Int.tdiv a1 10))) = true := Kba eM
     have aEX : (iP != (wrap64 (Int.tdiv a1 10))) = false := Ky eM
     clear eM
     by_cases gQ : (((bt a0 cS) - 48) % 256) > (Int.tmod a1 10)
     ·rw [if_pos gQ] at H
      have iE : decide ((Int.tmod a1 10) < (((bt a0 cS) - 48) % 256)) = true := Kr gQ
      clear gQ
      simp only [Kda, Kea] at H
      obtain ⟨rfl, rfl⟩ := H
      have iN : (0 ≤ (cS : Int)) = True := Kp
      have iO : cS < (a0.size : Int) := Kq Zc
      have lE := Ybb a0 cS
      replace iO := Kt iO
      go_wp2
      go_ret2
      exact ⟨Zf, Zh⟩
     rw [if_neg gQ] at H
     have iE : decide ((Int.tmod a1 10) < (((bt a0 cS) - 48) % 256)) = false := Ks gQ
     clear gQ
     by_cases dG : a1 < 0
     ·rw [if_pos dG] at H
      have eT : decide (a1 < 0) = true := Kr dG
      clear dG
      simp only [Kda, Kea] at H
      obtain ⟨rfl, rfl⟩ := H
      have iN : (0 ≤ (cS : Int)) = True := Kp
      have iO : cS < (a0.size : Int) := Kq Zc
      have lE := Ybb a0 cS
      replace iO := Kt iO
      go_wp2
      go_ret2
      exact ⟨Zf, Zh⟩
     rw [if_neg dG] at H
     have eT : decide (a1 < 0) = false := Ks dG
     clear dG
     have H' := Ya.mk H
     clear H
     have iN : (0 ≤ (cS : Int)) = True := Kp
     have iO : cS < (a0.size : Int) := Kq Zc
     have lE := Ybb a0 cS
     replace iO := Kt iO
     go_wp2
     go_roundg k2
     case measure => have := dB.out; have := jX.out; omega
     case rel => exact ⟨(wrap64 ((wrap64 (iP * 10)) + (((bt a0 cS) - 48) % 256))), (wrap64 (cS + 1)), Zf, Zf, H', ⟨Zdb⟩, Zh⟩
end Go.Proofs.YtnmglnglbdpjjaaGreatDoor.X
