import Derived.Test.YtihaeeldgimdiaaGreatDoorIUX11
set_option linter.all false
namespace Go.Proofs.YtihaeeldgimdiaaGreatDoor.X
open Go.RowKit Go.Yw.PrintWords Go.Yw.PrintLast Go.Yw.PrintMore
attribute [local go_sem] Yxd Yvd Yze Yye Ymd Yld Yyd Ywd
set_option maxHeartbeats 8000000
set_option maxRecDepth 100000
mutual
def Yk.l0 : Nat → Y → List Int → Int → Option (Y)
 | 0, _, _, _ => none
 | k + 1, x0, x3, x4 => if x4 < (x0.size : Int) then (if 0 ≤ x4 then (if (bt x0 x4) = 37 then (if (wrap64 (x4 + 2)) < (x0.size : Int) then (if 0 ≤ (wrap64 (x4 + 1)) then (if (wrap64 (x4 + 1)) < (x0.size : Int) then ((Yw.f k (bt x0 (wrap64 (x4 + 1)))).bind fun qO => (if qO < 16 then (if 0 ≤ (wrap64 (x4 + 2)) then ((Yw.f k (bt x0 (wrap64 (x4 + 2)))).bind fun tI => (Yk.j1 k x0 x3 x4 (decide (tI < 16)))) else (none)) else (Yk.j1 k x0 x3 x4 false))) else (none)) else (none)) else (Yk.j1 k x0 x3 x4 false)) else (Yk.j1 k x0 x3 x4 false)) else (none)) else (some (strOfNums x3))
def Yk.j1 : Nat → Y → List Int → Int → Bool → Option (Y)
 | 0, _, _, _, _ => none
 | k + 1, x0, x3, x4, zE => if zE = true then (if 0 ≤ (wrap64 (x4 + 1)) then (if (wrap64 (x4 + 1)) < (x0.size : Int) then ((Yw.f k (bt x0 (wrap64 (x4 + 1)))).bind fun qP => (if 0 ≤ (wrap64 (x4 + 2)) then (if (wrap64 (x4 + 2)) < (x0.size : Int) then ((Yw.f k (bt x0 (wrap64 (x4 + 2)))).bind fun oZ => (if x3.length < 140737488355328 then (Yk.l0 k x0 (x3 ++ [((((qP * 16) % 4294967296) + oZ) % 4294967296) % 256]) (wrap64 ((wrap64 (x4 + 2)) + 1))) else (none))) else (none)) else (none))) else (none)) else (none)) else (if 0 ≤ x4 then (if x4 < (x0.size : Int) then (if x3.length < 140737488355328 then (Yk.l0 k x0 (x3 ++ [bt x0 x4]) (wrap64 (x4 + 1))) else (none)) else (none)) else (none))
end
def Yk.f (k : Nat) (a0 : Y) : Option (Y) := Yk.l0 k a0 ([] : List Int) 0
def Yk.T6 : Bool × List (List Nat × List Nat) := (true, [([], []), ([], []), ([], []), ([2], [2]), ([1, 3], [1, 3]), ([4], [4]), ([5], [5]), ([], []), ([], []), ([8], [8]), ([7, 9], [7, 9]), ([10, 5], [10]), ([6, 11], [6, 11]), ([12], [12]), ([13], [13]), ([0, 14, 11], [0, 14]), ([15, 15, 0, 1, 2, 3, 4, 5, 6, 7, 8, 9, 10, 11, 12, 13, 14, 15], [0, 15])])
def Yk.B6 : List Nat := [0, 0, 0, 4, 14, 30, 62, 0, 0, 256, 896, 1982, 4094, 8190, 16382, 32767, 65535]
theorem Yk.tab6 : rtab .any (opsOf Tryz.f83 6) = Yk.T6 := by kernel_rfl
theorem Yk.bits6 : Yvg Yk.T6.2 Yk.B6 = true := by kernel_rfl
theorem Yk.calls (k : Nat) (a0 r : Y) (w : World) (hE : EnvOk w) (h : Yk.f k a0 = some r) :
  Calls Tryz.prog 83 #[.string a0] w fun e w' => e = .returned (.string r) ∧ Below w.heap.size w w' := by
 have HE := Ya.mk hE
 clear hE
 have HB := Ya.mk (Below.refl w.heap.size w)
 have H : (Yk.l0 k a0 ([] : List Int) 0) = some r := h
 clear h
 have H' := Ya.mk H
 clear H
 go_enter Tryz.func83, Tryz.ntmps83
 go_wp2
 go_loopg [3, 4] k (fun kq v3 v4 w' => ∃ (aE : List Int) (aC : Int), v4 = .int .i64 aC ∧ Ya (Yk.l0 kq a0 aE aC = some r) ∧ Ya (kq ≤ k) ∧ Ya (Kd.R (Kd.int .u8) 5 w' w.heap.size (fun _ => True) v3 aE) ∧ Ya (Below w.heap.size w w'))
 case atStart => exact ⟨(([] : List Int)), (0), Zf, H', ⟨Ks _⟩, ⟨Zv⟩, ⟨Za⟩⟩
 case round =>
  clear H'
  obtain ⟨aE, aC, rfl, HA, cC, HO_3, HB⟩ := hrel
  cases gk with
  | zero => exact absurd HA.out (by simp [Yk.l0])
  | succ k1 =>
   have H := HA.out
   clear HA
   simp only [Yk.l0] at H
   by_cases c2 : aC < (a0.size : Int)
   rotate_left
   ·rw [if_neg c2] at H
    have dS : decide (aC < (a0.size : Int)) = false := Ko c2
    clear c2
    obtain rfl := Kr H
    have aZF := Yzf (P := Tryz.prog) Tryz.underlying67 Tryz.underlying5 Tryz.underlying9 (Kd.own_of_R HO_3.out)
    go_wp2
    go_ret
    exact ⟨Zk, Za⟩
   rw [if_pos c2] at H
   have dS : decide (aC < (a0.size : Int)) = true := Kn c2
   clear c2
   have uQ := Ya.mk H
   clear H
   go_upto_region 5 with (fail)
   go_cut [37] (fun v37 wc => ∃ (kq : Nat) (yU : Bool), v37 = .bool yU ∧ Ya (Yk.j1 kq a0 aE aC yU = some r) ∧ Ya (kq ≤ k1) ∧ Ya (Kd.R (Kd.int .u8) 5 wc w.heap.size (fun _ => True) u3 aE) ∧ Ya (Below w.heap.size w wc))
   case first =>
    have H := uQ.out
    clear uQ
    by_cases c4 : 0 ≤ aC
    rotate_left
    ·rw [if_neg c4] at H
     exact absurd H Zq
    rw [if_pos c4] at H
    have bM : decide (0 ≤ aC) = true := Kn c4
    clear c4
    (first | rw [bM] | (simp only [Yha, Yka]; rw [bM]) | skip)
    by_cases c6 : (bt a0 aC) = 37
    rotate_left
    ·rw [if_neg c6] at H
     have dN : ((bt a0 aC) == 37) = false := Kv c6
     have lF : ((bt a0 aC) != 37) = true := Kw c6
     have H' := Ya.mk H
     clear H
     have p5 : (0 ≤ (aC : Int)) = True := Kl
     have q5 : aC < (a0.size : Int) := Km Zc
     have gJ := Ypa a0 aC
     replace q5 := Kp q5
     go_wp2
     go_meet
     case rel => exact ⟨_, (false), Zf, H', ⟨Zfa⟩, ⟨Zl⟩, ⟨Za⟩⟩
    rw [if_pos c6] at H
    have dN : ((bt a0 aC) == 37) = true := Kx c6
    have lF : ((bt a0 aC) != 37) = false := Ku c6
    clear c6
    by_cases c7 : (wrap64 (aC + 2)) < (a0.size : Int)
    rotate_left
    ·rw [if_neg c7] at H
     have cM : decide ((wrap64 (aC + 2)) < (a0.size : Int)) = false := Ko c7
     clear c7
     have H' := Ya.mk H
     clear H
     have p5 : (0 ≤ (aC : Int)) = True := Kl
     have q5 : aC < (a0.size : Int) := Km Zc
     have gJ := Ypa a0 aC
     replace q5 := Kp q5
     go_wp2
     go_meet
     case rel => exact ⟨_, (false), Zf, H', ⟨Zfa⟩, ⟨Zl⟩, ⟨Za⟩⟩
    rw [if_pos c7] at H
    have cM : decide ((wrap64 (aC + 2)) < (a0.size : Int)) = true := Kn c7
    clear c7
    obtain ⟨ji8, lE⟩ : ∃ j_ : Int, (wrap64 (aC + 1)) = j_ := ⟨_, rfl⟩
    replace H : (if 0 ≤ (ji8) then (if (ji8) < (a0.size : Int) then ((Yw.f k1 (bt a0 (ji8))).bind fun qO => (if qO < 16 then (if 0 ≤ (wrap64 (aC + 2)) then ((Yw.f k1 (bt a0 (wrap64 (aC + 2)))).bind fun tI => (Yk.j1 k1 a0 aE aC (decide (tI < 16)))) else (none)) else (Yk.j1 k1 a0 aE aC false))) else (none)) else (none)) = some r := by first | (rw [lE] at H; exact H) | (simp only [lE] at H ⊢; exact H)
    have hji8w : (IntKind.i64.wrap (aC + 1)) = ji8 := (Yha _).trans lE
    by_cases c9 : 0 ≤ (ji8)
    rotate_left
    ·rw [if_neg c9] at H
     exact absurd H Zq
    rw [if_pos c9] at H
    have gN : decide (0 ≤ (ji8)) = true := Kn c9
    clear c9
    by_cases dK : (ji8) < (a0.size : Int)
    rotate_left
    ·rw [if_neg dK] at H
     exact absurd H Zq
    rw [if_pos dK] at H
    have iJ : decide ((ji8) < (a0.size : Int)) = true := Kn dK
    clear dK
    obtain ⟨qO, aBC, H⟩ := Kq H
    try dsimp -simprocs only at H
    have bW := Ya.mk aBC
    clear aBC
    by_cases cI : qO < 16
    rotate_left
    ·rw [if_neg cI] at H
     have hJ : decide (qO < 16) = false := Ko cI
     clear cI
     have H' := Ya.mk H
     clear H
     have p5 : (0 ≤ (aC : Int)) = True := Kl
     have q5 : aC < (a0.size : Int) := Km Zc
     have gJ := Ypa a0 aC
     replace q5 := Kp q5
     have gW : (0 ≤ ((ji8) : Int)) = True := Kl
     have fG : (ji8) < (a0.size : Int) := Km Zc
     have lR := Ypa a0 (ji8)
     replace fG := Kp fG
     go_wp2_with (first | (go_at_call 113; (with_reducible refine (Yw.calls k1 (bt a0 (ji8)) qO _ ?z1 bW.out).mono ?_); (case z1 => exact Kh); rintro e w' ⟨rfl, ⟨nd, rfl⟩⟩))
     go_meet
     case rel => exact ⟨_, (false), Zf, H', ⟨Zfa⟩, ⟨Zl⟩, ⟨Za⟩⟩
    rw [if_pos cI] at H
    have hJ : decide (qO < 16) = true := Kn cI
    clear cI
    obtain ⟨ji14, tJ⟩ : ∃ j_ : Int, (wrap64 (aC + 2)) = j_ := ⟨_, rfl⟩
    replace H : (if 0 ≤ (ji14) then ((Yw.f k1 (bt a0 (ji14))).bind fun tI => (Yk.j1 k1 a0 aE aC (decide (tI < 16)))) else (none)) = some r := by first | (rw [tJ] at H; exact H) | (simp only [tJ] at H ⊢; exact H)
    (try rw [tJ] at cM)
    (try rw [tJ] at bW)
    have hji14w : (IntKind.i64.wrap (aC + 2)) = ji14 := (Yha _).trans tJ
    by_cases bN : 0 ≤ (ji14)
    rotate_left
    ·rw [if_neg bN] at H
     exact absurd H Zq
    rw [if_pos bN] at H
    have eA : decide (0 ≤ (ji14)) = true := Kn bN
    clear bN
    obtain ⟨tI, oC, H⟩ := Kq H
    try dsimp -simprocs only at H
    have zY := Ya.mk oC
    clear oC
    have H' := Ya.mk H
    clear H
    have p5 : (0 ≤ (aC : Int)) = True := Kl
    have q5 : aC < (a0.size : Int) := Km Zc
    have gJ := Ypa a0 aC
    replace q5 := Kp q5
    have gW : (0 ≤ ((ji8) : Int)) = True := Kl
    have fG : (ji8) < (a0.size : Int) := Km Zc
    have lR := Ypa a0 (ji8)
    replace fG := Kp fG
    go_wp2_with (first | (go_at_call 113; (with_reducible refine (Yw.calls k1 (bt a0 (ji8)) qO _ ?z1 bW.out).mono ?_); (case z1 => exact Kh); rintro e w' ⟨rfl, ⟨nd, rfl⟩⟩; have p16 : (0 ≤ ((ji14) : Int)) = True := Kl; have q16 : (ji14) < (a0.size : Int) := Km Zc; have aGA := Ypa a0 (ji14); replace q16 := Kp q16) | (go_at_call 113; (with_reducible refine (Yw.calls k1 (bt a0 (ji14)) tI _ ?z1 zY.out).mono ?_); (case z1 => exact Kh); rintro e w' ⟨rfl, ⟨nd, rfl⟩⟩))
    go_meet
    case rel => exact ⟨_, (decide (tI < 16)), Zf, H', ⟨Zfa⟩, ⟨Zl⟩, ⟨Za⟩⟩
   case rest =>
    clear uQ
    try clear c2
    try clear dS
    obtain ⟨kq, yU, rfl, HA, tW, HO_3, HB⟩ := hcut
    cases kq with
    | zero => exact absurd HA.out (by simp [Yk.j1])
    | succ pH =>
     have H := HA.out
     clear HA
     simp only [Yk.j1] at H
     by_cases dR : yU = true
     rotate_left
     ·replace dR := Kt dR
      subst dR
      rw [if_neg (show ¬ (false = true) by decide)] at H
      by_cases c32 : 0 ≤ aC
      rotate_left
      ·rw [if_neg c32] at H
       exact absurd H Zq
      rw [if_pos c32] at H
      have aLO : decide (0 ≤ aC) = true := Kn c32
      clear c32
      by_cases c33 : aC < (a0.size : Int)
      rotate_left
      ·rw [if_neg c33] at H
       exact absurd H Zq
      rw [if_pos c33] at H
      have aZG : decide (aC < (a0.size : Int)) = true := Kn c33
      clear c33
      by_cases c35 : aE.length < 140737488355328
      rotate_left
      ·rw [if_neg c35] at H
       exact absurd H Zq
      rw [if_pos c35] at H
      have aMf := Ya.mk c35
      clear c35
      obtain ⟨aMg, tK⟩ : ∃ y_ : List Int, y_ = (aE ++ [bt a0 aC]) := ⟨_, rfl⟩
      replace H : (Yk.l0 pH a0 aMg (wrap64 (aC + 1))) = some r := by first | (rw [tK]; with_reducible exact H) | (have cO := (Kba _ _).symm.trans H; rw [tK]; with_reducible exact cO) | (have cO := (Kba _ _).symm.trans H; with_reducible exact cO) | with_reducible exact H | (rw [tK]; exact H) | exact H
      have aMh := Ya.mk tK
      clear tK
      have H' := Ya.mk H
      clear H
      have p34 : (0 ≤ (aC : Int)) = True := Kl
      have q34 : aC < (a0.size : Int) := Km Zc
      have bAy := Ypa a0 aC
      replace q34 := Kp q34
      go_wp2_with (first | ((with_reducible refine Yic (b := .append) (xs := #[.tmp 56, .tmp 60]) rfl ?_); (try (refine Yah Zda ?_; dsimp only)); at_builtin; refine Kd.R_append (Kd.int .u8) (w0 := w) w.heap.size rfl (.tmp 56) (.tmp 60) 67 5 (.int .u8 0) 1 rfl Tryz.underlying67 Yaj rfl Zw Zj u3 aE (bt a0 aC) [.int .u8 (bt a0 aC)] (fun _ => True) (fun _ => False) rfl rfl ?aP (fun _ hk => hk.elim) ?aF ?aO ?aB ?aS ?aL ?_; (case aP => exact rfl); (case aB => exact Za); (case aF => exact (fun _ _ => trivial)); (case aO => exact Zl); (case aS => exact Ki); (case aL => have := aMf.out; omega); intro bAz w36 ho hb hg hat; rw [← aMh.out] at ho; replace HB := Ya.mk (hb); have aMi := Ya.mk (ho); clear HO_3; clear ho hb hg hat))
      go_roundg pH
      case measure => have := cC.out; have := tW.out; omega
      case rel => exact ⟨(aMg), (wrap64 (aC + 1)), Zf, H', ⟨by have := cC.out; have := tW.out; omega⟩, ⟨by (with_reducible repeat (first | apply Kd.R_alloc | apply Kd.R_drewN | apply Kd.R_drew)); exact aMi.out⟩, ⟨Za⟩⟩
     subst dR
     rw [if_pos rfl] at H
     obtain ⟨ji19, yV⟩ : ∃ j_ : Int, (wrap64 (aC + 1)) = j_ := ⟨_, rfl⟩
     replace H : (if 0 ≤ (ji19) then (if (ji19) < (a0.size : Int) then ((Yw.f pH (bt a0 (ji19))).bind fun qP => (if 0 ≤ (wrap64 (aC + 2)) then (if (wrap64 (aC + 2)) < (a0.size : Int) then ((Yw.f pH (bt a0 (wrap64 (aC + 2)))).bind fun oZ => (if aE.length < 140737488355328 then (Yk.l0 pH a0 (aE ++ [((((qP * 16) % 4294967296) + oZ) % 4294967296) % 256]) (wrap64 ((wrap64 (aC + 2)) + 1))) else (none))) else (none)) else (none))) else (none)) else (none)) = some r := by first | (rw [yV] at H; exact H) | (simp only [yV] at H ⊢; exact H)
     have hji19w : (IntKind.i64.wrap (aC + 1)) = ji19 := (Yha _).trans yV
     by_cases jD : 0 ≤ (ji19)
     rotate_left
     ·rw [if_neg jD] at H
      exact absurd H Zq
     rw [if_pos jD] at H
     have lG : decide (0 ≤ (ji19)) = true := Kn jD
     clear jD
     by_cases sX : (ji19) < (a0.size : Int)
     rotate_left
     ·rw [if_neg sX] at H
      exact absurd H Zq
     rw [if_pos sX] at H
     have aEK : decide ((ji19) < (a0.size : Int)) = true := Kn sX
     clear sX
     obtain ⟨qP, aMj, H⟩ := Kq H
     try dsimp -simprocs only at H
     have A23 := Ya.mk aMj
     clear aMj
     obtain ⟨ji24, pS⟩ : ∃ j_ : Int, (wrap64 (aC + 2)) = j_ := ⟨_, rfl⟩
     replace H : (if 0 ≤ (ji24) then (if (ji24) < (a0.size : Int) then ((Yw.f pH (bt a0 (ji24))).bind fun oZ => (if aE.length < 140737488355328 then (Yk.l0 pH a0 (aE ++ [((((qP * 16) % 4294967296) + oZ) % 4294967296) % 256]) (wrap64 ((ji24) + 1))) else (none))) else (none)) else (none)) = some r := by first | (rw [pS] at H; exact H) | (simp only [pS] at H ⊢; exact H)
     (try rw [pS] at A23)
     have hji24w : (IntKind.i64.wrap (aC + 2)) = ji24 := (Yha _).trans pS
     by_cases pM : 0 ≤ (ji24)
     rotate_left
     ·rw [if_neg pM] at H
      exact absurd H Zq
     rw [if_pos pM] at H
     have sN : decide (0 ≤ (ji24)) = true := Kn pM
     clear pM
     by_cases wH : (ji24) < (a0.size : Int)
     rotate_left
     ·rw [if_neg wH] at H
      exact absurd H Zq
     rw [if_pos wH] at H
     have aLN : decide ((ji24) < (a0.size : Int)) = true := Kn wH
     clear wH
     obtain ⟨oZ, sQ, H⟩ := Kq H
     try dsimp -simprocs only at H
     have A28 := Ya.mk sQ
     clear sQ
     by_cases oG : aE.length < 140737488355328
     rotate_left
     ·rw [if_neg oG] at H
      exact absurd H Zq
     rw [if_pos oG] at H
     have aMk := Ya.mk oG
     clear oG
     obtain ⟨aMl, tL⟩ : ∃ y_ : List Int, y_ = (aE ++ [((((qP * 16) % 4294967296) + oZ) % 4294967296) % 256]) := ⟨_, rfl⟩
     replace H : (Yk.l0 pH a0 aMl (wrap64 ((ji24) + 1))) = some r := by first | (rw [tL]; with_reducible exact H) | (have cO := (Kba _ _).symm.trans H; rw [tL]; with_reducible exact cO) | (have cO := (Kba _ _).symm.trans H; with_reducible exact cO) | with_reducible exact H | (rw [tL]; exact H) | exact H
     have aMm := Ya.mk tL
     clear tL
     have H' := Ya.mk H
     clear H
     try go_wp2
     have aJ := Ya.mk (Kd.R_drew HO_3.out)
     have aU := Ya.mk (Yc HB.out)
     clear HO_3
     clear HB
     have HO_3 := aJ
     have HB := aU
     clear aJ aU
     have p22 : (0 ≤ ((ji19) : Int)) = True := Kl
     have q22 : (ji19) < (a0.size : Int) := Km Zc
     have bAA := Ypa a0 (ji19)
     replace q22 := Kp q22
     have p27 : (0 ≤ ((ji24) : Int)) = True := Kl
     have q27 : (ji24) < (a0.size : Int) := Km Zc
     have aYi := Ypa a0 (ji24)
     replace q27 := Kp q27
     refine Ydh (n := 17) (S := fun w' => True) (ds := []) #[false, false, false, false, false, false, false, false, false, false, false, false, false, false, false, false, false] Zi rfl rfl trivial (fun hHeld => ?_); refine Yzg Yk.tab6 Yk.bits6 (fun HT_ HW_ => ?_)
     generalize wc.drew = w30 at HO_3 HB hHeld ⊢
     refine Yjb (i := 0) (N := some 38) (v := ?_) (a' := ?_) #[true, false, false, false, false, false, false, false, false, false, false, false, false, false, false, false, false] rfl rfl (Yfb HT_.out Zi) (fun _ _ _ h => h) (Or.inl ⟨Zda, ?_⟩) ?_ ?_
     rotate_left
     ·exact Zsb
     rotate_left
     ·exact Ztb
     refine Yjb (i := 1) (N := some 39) (v := ?_) (a' := ?_) #[true, true, false, false, false, false, false, false, false, false, false, false, false, false, false, false, false] rfl rfl (Yfb HT_.out Zi) (fun _ _ _ h => h) (Or.inl ⟨Zda, ?_⟩) ?_ ?_
     rotate_left
     ·exact Zsb
     rotate_left
     ·exact Ztb
     refine Yjb (i := 2) (N := some 40) (v := ?_) (a' := ?_) #[true, true, true, false, false, false, false, false, false, false, false, false, false, false, false, false, false] rfl rfl (Yfb HT_.out Zi) (fun _ _ _ h => h) (Or.inl ⟨Zda, ?_⟩) ?_ ?_
     rotate_left
     ·exact Zsb
     rotate_left
     ·exact Ztb
     refine Yjb (i := 3) (N := some 41) (v := ?_) (a' := ?_) #[true, true, true, true, false, false, false, false, false, false, false, false, false, false, false, false, false] rfl rfl (Yfb HT_.out Zi) (fun _ _ _ h => h) (Or.inl ⟨Zda, ?_⟩) ?_ ?_
     rotate_left
     ·exact Zsb
     rotate_left
     ·exact Ztb
     refine Yjb (i := 7) (N := some 45) (v := ?_) (a' := ?_) #[true, true, true, true, false, false, false, true, false, false, false, false, false, false, false, false, false] rfl rfl (Yfb HT_.out Zi) (fun _ _ _ h => h) (Or.inl ⟨Zda, ?_⟩) ?_ ?_
     rotate_left
     ·exact Zsb
     rotate_left
     ·exact Ztb
     refine Yjb (i := 8) (N := some 46) (v := ?_) (a' := ?_) #[true, true, true, true, false, false, false, true, true, false, false, false, false, false, false, false, false] rfl rfl (Yfb HT_.out Zi) (fun _ _ _ h => h) (Or.inl ⟨Zda, ?_⟩) ?_ ?_
     rotate_left
     ·exact Zsb
     rotate_left
     ·exact Ztb
     refine Yjb (i := 9) (N := some 47) (v := ?_) (a' := ?_) #[true, true, true, true, false, false, false, true, true, true, false, false, false, false, false, false, false] rfl rfl (Yfb HT_.out Zi) (fun _ _ _ h => h) (Or.inl ⟨Zda, ?_⟩) ?_ ?_
     rotate_left
     ·exact Zsb
     rotate_left
     ·exact Ztb
     refine Yxf (i := 4) (N := some 42) (v := ?_) (a' := ?_) #[true, true, true, true, true, false, false, true, true, true, false, false, false, false, false, false, false] rfl rfl (Yif HT_.out HW_.out Zi) (fun _ _ _ h => h) (Or.inl ⟨Zda, ?_⟩) hHeld ?_ ?_
     rotate_left
     ·intro w' _
      go_simp
      with_reducible rfl
     rotate_left
     ·exact Ztb
     refine Yxf (i := 10) (N := some 48) (v := ?_) (a' := ?_) #[true, true, true, true, true, false, false, true, true, true, true, false, false, false, false, false, false] rfl rfl (Yif HT_.out HW_.out Zi) (fun _ _ _ h => h) (Or.inl ⟨Zda, ?_⟩) hHeld ?_ ?_
     rotate_left
     ·intro w' _
      go_simp
      with_reducible rfl
     rotate_left
     ·exact Ztb
     refine one_ (i := 5) (N := some 43) #[true, true, true, true, true, true, false, true, true, true, true, false, false, false, false, false, false] rfl rfl (Yhg HT_.out Zi) Zw (fun K hK => ?_)
     refine Ydi Tryz.func113 Zi rfl #[.int .u8 (bt a0 (ji19))] Zda rfl rfl (by (try simp only [List.map_toArray, List.map_cons, List.map_nil]); first | done | (simp only [yV]; rfl) | rfl | (simp only [List.length_drop, List.length_take]; rfl)) ?_
     with_reducible refine (Yw.calls pH (bt a0 (ji19)) qP _ ?z1 A23.out).mono ?_
     (case z1 => exact Kh)
     rintro e w' ⟨rfl, ⟨nd, rfl⟩⟩
     refine ⟨_, rfl, ?_⟩
     refine hK.out _ _ trivial (fun hHeld => ?_)
     clear hK K
     refine Yth (a' := ?_) ?_ ?_
     rotate_left
     ·show Act.put _ (some 43) _ = _
      simp only [Act.put, Ky, Yha, Yka]
      rfl
     refine Yjb (i := 6) (N := some 44) (v := ?_) (a' := ?_) #[true, true, true, true, true, true, true, true, true, true, true, false, false, false, false, false, false] rfl rfl (Yfb HT_.out Zi) (fun _ _ _ h => h) (Or.inl ⟨Zda, ?_⟩) ?_ ?_
     rotate_left
     ·exact Zsb
     rotate_left
     ·exact Ztb
     refine one_ (i := 11) (N := some 49) #[true, true, true, true, true, true, true, true, true, true, true, true, false, false, false, false, false] rfl rfl (Yhg HT_.out Zi) Zw (fun K hK => ?_)
     refine Ydi Tryz.func113 Zi rfl #[.int .u8 (bt a0 (ji24))] Zda rfl rfl (by (try simp only [List.map_toArray, List.map_cons, List.map_nil]); first | done | (simp only [pS]; rfl) | rfl | (simp only [List.length_drop, List.length_take]; rfl)) ?_
     with_reducible refine (Yw.calls pH (bt a0 (ji24)) oZ _ ?z1 A28.out).mono ?_
     (case z1 => exact Kh)
     rintro e w' ⟨rfl, ⟨nd, rfl⟩⟩
     refine ⟨_, rfl, ?_⟩
     refine hK.out _ _ trivial (fun hHeld => ?_)
     clear hK K
     refine Yth (a' := ?_) ?_ ?_
     rotate_left
     ·show Act.put _ (some 49) _ = _
      simp only [Act.put, Ky, Yha, Yka]
      rfl
     refine Yjb (i := 12) (N := some 50) (v := ?_) (a' := ?_) #[true, true, true, true, true, true, true, true, true, true, true, true, true, false, false, false, false] rfl rfl (Yfb HT_.out Zi) (fun _ _ _ h => h) (Or.inl ⟨Zda, ?_⟩) ?_ ?_
     rotate_left
     ·exact Zsb
     rotate_left
     ·exact Ztb
     refine Yjb (i := 13) (N := some 51) (v := ?_) (a' := ?_) #[true, true, true, true, true, true, true, true, true, true, true, true, true, true, false, false, false] rfl rfl (Yfb HT_.out Zi) (fun _ _ _ h => h) (Or.inl ⟨Zda, ?_⟩) ?_ ?_
     rotate_left
     ·exact Zsb
     rotate_left
     ·exact Ztb
     refine one_ (i := 14) (N := some 52) #[true, true, true, true, true, true, true, true, true, true, true, true, true, true, true, false, false] rfl rfl (Yhg HT_.out Zi) Zw (fun K hK => ?_)
     refine value_ (w1 := ?_) (v := ?_) Zda rfl ?_ ?_
     rotate_left 2
     ·go_simp
      constructor
      ·rfl
      ·rfl
     refine hK.out _ _ trivial (fun hHeld => ?_)
     clear hK K
     refine Yth (a' := ?_) ?_ ?_
     rotate_left
     ·show Act.put _ (some 52) _ = _
      simp only [Act.put, Ky, Yha, Yka]
      rfl
     refine one_ (i := 15) (N := some 53) #[true, true, true, true, true, true, true, true, true, true, true, true, true, true, true, true, false] rfl rfl (Yhg HT_.out Zi) Zw (fun K hK => ?_)
     refine Kd.R_append_step (Kd.int .u8) (w0 := w) w.heap.size Zda (.tmp 38) (.tmp 52) 67 5 (.int .u8 0) 1 rfl Tryz.underlying67 Yaj rfl Zw Zj u3 aE (((((qP * 16) % 4294967296) + oZ) % 4294967296) % 256) [.int .u8 (((((qP * 16) % 4294967296) + oZ) % 4294967296) % 256)] (fun _ => True) (fun _ => False) rfl rfl ?aP (fun _ hk => hk.elim) ?aF ?aO ?aB ?aS ?aL ?_
     (case aP => exact rfl)
     (case aB => exact Za)
     (case aF => exact (fun _ _ => trivial))
     (case aO => exact Zl)
     (case aS => exact Ki)
     (case aL => have := aMk.out; omega)
     intro bAB w31 ho hb hg hat
     rw [← aMm.out] at ho
     have aJ := Ya.mk (hb)
     have aU := Ya.mk (ho)
     clear HB
     clear HO_3
     have HB := aJ
     have aMn := aU
     clear aJ aU
     clear ho hb hg hat
     refine hK.out _ _ trivial (fun hHeld => ?_)
     clear hK K
     refine Yth (a' := ?_) ?_ ?_
     rotate_left
     ·show Act.put _ (some 53) _ = _
      simp only [Act.put, Ky, Yha, Yka]
      rfl
     refine Yjb (i := 16) (N := some 3) (v := ?_) (a' := ?_) #[true, true, true, true, true, true, true, true, true, true, true, true, true, true, true, true, true] rfl rfl (Yfb HT_.out Zi) (fun _ _ _ h => h) (Or.inl ⟨Zda, ?_⟩) ?_ ?_
     rotate_left
     ·exact Zsb
     rotate_left
     ·exact Ztb
     refine Yoi (Yti HT_.out Zi) ?_
     try go_wp2
     go_roundg pH
     case measure => have := cC.out; have := tW.out; omega
     case rel => exact ⟨(aMl), (wrap64 ((ji24) + 1)), (by first | rfl | (simp; done) | (simp only [← pS] <;> (first | rfl | simp)) | (simp [*]; done)), H', ⟨by have := cC.out; have := tW.out; omega⟩, ⟨by (with_reducible repeat (first | apply Kd.R_alloc | apply Kd.R_drewN | apply Kd.R_drew)); exact aMn.out⟩, ⟨Za⟩⟩
mutual
def Yv.l0 : Nat → Y → Int → Int → Option (Int × Int)
 | 0, _, _, _ => none
 | k + 1, x0, x1, x6 => if x6 < (x0.size : Int) then (if 0 ≤ x6 then ((Yt.f (bt x0 x6)).bind fun aGU => (if aGU = true then (Yv.l0 k x0 x1 (wrap64 (x6 + 1))) else (some (0, 3)))) else (none)) else (if x0.toList = ([] : List UInt8) then (some (0, 3)) else (Yv.l1 k x0 x1 0 0))
def Yv.l1 : Nat → Y → Int → Int → Int → Option (Int × Int)
 | 0, _, _, _, _ => none
 | k + 1, x0, x1, x7, x8 => if x8 < (x0.size : Int) then (if 0 ≤ x8 then (if x7 > (wrap64 (Int.tdiv x1 10)) then (some (0, 5)) else (if x7 = (wrap64 (Int.tdiv x1 10)) then (if (((bt x0 x8) - 48) % 256) > (Int.tmod x1 10) then (some (0, 5)) else (if x1 < 0 then (some (0, 5)) else (Yv.l1 k x0 x1 (wrap64 ((wrap64 (x7 * 10)) + (((bt x0 x8) - 48) % 256))) (wrap64 (x8 + 1))))) else (if x1 < 0 then (some (0, 5)) else (Yv.l1 k x0 x1 (wrap64 ((wrap64 (x7 * 10)) + (((bt x0 x8) - 48) % 256))) (wrap64 (x8 + 1)))))) else (none)) else (some (x7, 0))
end
def Yv.f (k : Nat) (a0 : Y) (a1 : Int) : Option (Int × Int) := Yv.l0 k a0 a1 0
theorem Yv.calls (k : Nat) (a0 : Y) (a1 r1 r2 : Int) (w : World) (hE : EnvOk w) (h : Yv.f k a0 a1 = some (r1, r2)) :
  Calls Tryz.prog 59 #[.string a0, .int .i64 a1] w fun e w' => e = .returned (.tuple #[.int .i64 r1, .int .i64 r2]) ∧ Drawn0 w w' := by
 have HE := Ya.mk hE
 clear hE
 have H : (Yv.l0 k a0 a1 0) = some (r1, r2) := h
 clear h
 have H' := Ya.mk H
 clear H
 go_enter Tryz.func59, Tryz.ntmps59
 go_wp2
 go_loopg [6] k (fun kq v6 w' => ∃ (aD : Int), v6 = .int .i64 aD ∧ Ya (Yv.l0 kq a0 a1 aD = some (r1, r2)) ∧ Ya (kq ≤ k) ∧ Drawn0 w w')
 case atStart => exact ⟨(0), Zf, H', ⟨Ks _⟩, Zh⟩
 case round =>
  clear H'
  try clear p2
  obtain ⟨aD, rfl, HA, cC, ⟨m1, rfl⟩⟩ := hrel
  cases gk with
  | zero => exact absurd HA.out (by simp [Yv.l0])
  | succ k1 =>
   have H := HA.out
   clear HA
   simp only [Yv.l0] at H
   by_cases c3 : aD < (a0.size : Int)
   ·rw [if_pos c3] at H
    have bV : decide (aD < (a0.size : Int)) = true := Kn c3
    clear c3
    by_cases c4 : 0 ≤ aD
    rotate_left
    ·rw [if_neg c4] at H
     exact absurd H Zq
    rw [if_pos c4] at H
    have bM : decide (0 ≤ aD) = true := Kn c4
    clear c4
    obtain ⟨aGU, sC, H⟩ := Kq H
    try dsimp -simprocs only at H
    have A6 := Ya.mk sC
    clear sC
    by_cases c7 : aGU = true
    ·subst c7
     rw [if_pos rfl] at H
     have H' := Ya.mk H
     clear H
     have p5 : (0 ≤ (aD : Int)) = True := Kl
     have q5 : aD < (a0.size : Int) := Km Zc
     have gJ := Ypa a0 aD
     replace q5 := Kp q5
     go_wp2_with (first | ((with_reducible refine Yh (f := 56) rfl ?_); refine Yy (some 19) rfl rfl Tryz.func56 Zi rfl #[.int .u8 (bt a0 aD)] rfl Zb ?_; (with_reducible refine (Yt.calls (bt a0 aD) true _ ?z1 A6.out).mono ?_); (case z1 => exact Kg); rintro e w' ⟨rfl, ⟨nd, rfl⟩⟩; refine ⟨_, rfl, ?_⟩))
     go_roundg k1
     case measure => have := cC.out; omega
     case rel => exact ⟨(wrap64 (aD + 1)), Zf, H', ⟨Zu⟩, Zh⟩
    replace c7 := Kt c7
    subst c7
    rw [if_neg (show ¬ (false = true) by decide)] at H
    simp only [Kz, Kaa] at H
    obtain ⟨rfl, rfl⟩ := H
    have p5 : (0 ≤ (aD : Int)) = True := Kl
    have q5 : aD < (a0.size : Int) := Km Zc
    have gJ := Ypa a0 aD
    replace q5 := Kp q5
    go_wp2_with (first | ((with_reducible refine Yh (f := 56) rfl ?_); refine Yy (some 19) rfl rfl Tryz.func56 Zi rfl #[.int .u8 (bt a0 aD)] rfl Zb ?_; (with_reducible refine (Yt.calls (bt a0 aD) false _ ?z1 A6.out).mono ?_); (case z1 => exact Kg); rintro e w' ⟨rfl, ⟨nd, rfl⟩⟩; refine ⟨_, rfl, ?_⟩))
    go_ret2
    exact ⟨Zf, Zh⟩
   rw [if_neg c3] at H
   have bV : decide (aD < (a0.size : Int)) = false := Ko c3
   clear c3
   by_cases c8 : a0.toList = ([] : List UInt8)
   ·rw [if_pos c8] at H
    have fS : (a0.toList == ([] : List UInt8)) = true := Kx c8
    have jA : (a0.toList != ([] : List UInt8)) = false := Ku c8
    clear c8
    simp only [Kz, Kaa] at H
    obtain ⟨rfl, rfl⟩ := H
    go_wp2
    go_ret2
    exact ⟨Zf, Zh⟩
   rw [if_neg c8] at H
   have fS : (a0.toList == ([] : List UInt8)) = false := Kv c8
   have jA : (a0.toList != ([] : List UInt8)) = true := Kw c8
   have H' := Ya.mk H
   clear H
   go_wp2
   go_loopg [7, 8] k1 (fun kq v7 v8 w' => ∃ (jH : Int) (cR : Int), v7 = .int .i64 jH ∧ v8 = .int .i64 cR ∧ Ya (Yv.l1 kq a0 a1 jH cR = some (r1, r2)) ∧ Ya (kq ≤ k1) ∧ Drawn0 w w')
   case atStart => exact ⟨(0), (0), Zf, Zf, H', ⟨Ks _⟩, Zh⟩
   case round =>
    clear H'
    try clear p2
    try clear c3
    try clear bV
    try clear c4
    try clear bM
    try clear c5
    try clear p5
    try clear q5
    try clear gJ
    try clear p6
    try clear c7
    try clear c8
    try clear fS
    try clear jA
    try clear p2
    try clear p5
    try clear q5
    obtain ⟨jH, cR, rfl, rfl, HA, kU, ⟨m2, rfl⟩⟩ := hrel
    cases gk with
    | zero => exact absurd HA.out (by simp [Yv.l1])
    | succ k2 =>
     have H := HA.out
     clear HA
     simp only [Yv.l1] at H
     by_cases c9 : cR < (a0.size : Int)
     rotate_left
     ·rw [if_neg c9] at H
      have gN : decide (cR < (a0.size : Int)) = false := Ko c9
      clear c9
      simp only [Kz, Kaa] at H
      obtain ⟨rfl, rfl⟩ := H
      go_wp2
      go_ret2
      exact ⟨Zf, Zh⟩
     rw [if_pos c9] at H
     have gN : decide (cR < (a0.size : Int)) = true := Kn c9
     clear c9
     by_cases dK : 0 ≤ cR
     rotate_left
     ·rw [if_neg dK] at H
      exact absurd H Zq
     rw [if_pos dK] at H
     have iJ : decide (0 ≤ cR) = true := Kn dK
     clear dK
     by_cases bT : jH > (wrap64 (Int.tdiv a1 10))
     ·rw [if_pos bT] at H
      have dZ : decide ((wrap64 (Int.tdiv a1 10)) < jH) = true := Kn bT
      clear bT
      simp only [Kz, Kaa] at H
      obtain ⟨rfl, rfl⟩ := H
      have gW : (0 ≤ (cR : Int)) = True := Kl
      have fG : cR < (a0.size : Int) := Km Zc
      have lR := Ypa a0 cR
      replace fG := Kp fG
      go_wp2
      go_ret2
      exact ⟨Zf, Zh⟩
     rw [if_neg bT] at H
     have dZ : decide ((wrap64 (Int.tdiv a1 10)) < jH) = false := Ko bT
     clear bT
     by_cases cI : jH = (wrap64 (Int.tdiv a1 10))
     rotate_left
     ·rw [if_neg cI] at H
      have hJ : (jH == (wrap64 (Int.tdiv a1 10))) = false := Kv cI
      have aEO : (jH != (wrap64 (Int.tdiv a1 10))) = true := Kw cI
      by_cases dF : a1 < 0
      ·rw [if_pos dF] at H
       have gD : decide (a1 < 0) = true := Kn dF
       clear dF
       simp only [Kz, Kaa] at H
       obtain ⟨rfl, rfl⟩ := H
       have gW : (0 ≤ (cR : Int)) = True := Kl
       have fG : cR < (a0.size : Int) := Km Zc
       have lR := Ypa a0 cR
       replace fG := Kp fG
       go_wp2
       go_ret2
       exact ⟨Zf, Zh⟩
      rw [if_neg dF] at H
      have gD : decide (a1 < 0) = false := Ko dF
      clear dF
      have H' := Ya.mk H
      clear H
      have gW : (0 ≤ (cR : Int)) = True := Kl
      have fG : cR < (a0.size : Int) := Km Zc
      have lR := Ypa a0 cR
      replace fG := Kp fG
      go_wp2
      go_roundg k2
      case measure => have := cC.out; have := kU.out; omega
      case rel => exact ⟨(wrap64 ((wrap64 (jH * 10)) + (((bt a0 cR) - 48) % 256))), (wrap64 (cR + 1)), Zf, Zf, H', ⟨Zpa⟩, Zh⟩
     rw [if_pos cI] at H
     have hJ : (jH == (wrap64 (Int.tdiv a1 10))) = true := Kx cI
     have aEO : (jH != (wrap64 (Int.tdiv a1 10))) = false := Ku cI
     clear cI
     by_cases cD : (((bt a0 cR) - 48) % 256) > (Int.tmod a1 10)
     ·rw [if_pos cD] at H
      have gC : decide ((Int.tmod a1 10) < (((bt a0 cR) - 48) % 256)) = true := Kn cD
      clear cD
      simp only [Kz, Kaa] at H
      obtain ⟨rfl, rfl⟩ := H
      have gW : (0 ≤ (cR : Int)) = True := Kl
      have fG : cR < (a0.size : Int) := Km Zc
      have lR := Ypa a0 cR
      replace fG := Kp fG
      go_wp2
      go_ret2
      exact ⟨Zf, Zh⟩
     rw [if_neg cD] at H
     have gC : decide ((Int.tmod a1 10) < (((bt a0 cR) - 48) % 256)) = false := Ko cD
     clear cD
     by_cases bN : a1 < 0
     ·rw [if_pos bN] at H
      have eA : decide (a1 < 0) = true := Kn bN
      clear bN
      simp only [Kz, Kaa] at H
      obtain ⟨rfl, rfl⟩ := H
      have gW : (0 ≤ (cR : Int)) = True := Kl
      have fG : cR < (a0.size : Int) := Km Zc
      have lR := Ypa a0 cR
      replace fG := Kp fG
      go_wp2
      go_ret2
      exact ⟨Zf, Zh⟩
     rw [if_neg bN] at H
     have eA : decide (a1 < 0) = false := Ko bN
     clear bN
     have H' := Ya.mk H
     clear H
     have gW : (0 ≤ (cR : Int)) = True := Kl
     have fG : cR < (a0.size : Int) := Km Zc
     have lR := Ypa a0 cR
     replace fG := Kp fG
     go_wp2
     go_roundg k2
     case measure => have := cC.out; have := kU.out; omega
     case rel => exact ⟨(wrap64 ((wrap64 (jH * 10)) + (((bt a0 cR) - 48) % 256))), (wrap64 (cR + 1)), Zf, Zf, H', ⟨Zpa⟩, Zh⟩
end Go.Proofs.YtihaeeldgimdiaaGreatDoor.X
