import Derived.Test.YtnmglnglbdpjjaaGreatDoorUfX5
set_option linter.all false
namespace Go.Proofs.YtnmglnglbdpjjaaGreatDoor.X
open Go.RowKit Go.Yw.PrintWords Go.Yw.PrintLast Go.Yw.PrintMore
attribute [local go_sem] Yfe Ybe Yre Yue Yld Ykd Yee Yde
set_option maxHeartbeats 8000000
set_option maxRecDepth 100000
def Ys.l0 : Nat → Y → Y → Y → Int → Option (Y)
 | 0, _, _, _, _ => none
 | k + 1, x0, x1, x5, x6 => if x6 < (x0.size : Int) then (if 0 ≤ x6 then (if (bt x0 x6) ≤ 32 then (if x6 ≤ (wrap64 (x6 + 1)) then (if (wrap64 (x6 + 1)) ≤ (x0.size : Int) then ((Yv.f k (x0.extract (x6 : Int).toNat ((wrap64 (x6 + 1)) : Int).toNat) (⟨#[]⟩ : Y)).bind fun eI => (if x5.size + eI.size ≤ 9223372036854775807 then (Ys.l0 k x0 x1 (x5 ++ eI) (wrap64 (x6 + 1))) else (none))) else (none)) else (none)) else (if (bt x0 x6) > 126 then (if x6 ≤ (wrap64 (x6 + 1)) then (if (wrap64 (x6 + 1)) ≤ (x0.size : Int) then ((Yv.f k (x0.extract (x6 : Int).toNat ((wrap64 (x6 + 1)) : Int).toNat) (⟨#[]⟩ : Y)).bind fun tM => (if x5.size + tM.size ≤ 9223372036854775807 then (Ys.l0 k x0 x1 (x5 ++ tM) (wrap64 (x6 + 1))) else (none))) else (none)) else (none)) else ((Yia.f k (bt x0 x6) (⟨#[34, 60, 62]⟩ : Y)).bind fun vE => (if vE = true then (if x6 ≤ (wrap64 (x6 + 1)) then (if (wrap64 (x6 + 1)) ≤ (x0.size : Int) then ((Yv.f k (x0.extract (x6 : Int).toNat ((wrap64 (x6 + 1)) : Int).toNat) (⟨#[]⟩ : Y)).bind fun tN => (if x5.size + tN.size ≤ 9223372036854775807 then (Ys.l0 k x0 x1 (x5 ++ tN) (wrap64 (x6 + 1))) else (none))) else (none)) else (none)) else ((Yia.f k (bt x0 x6) x1).bind fun oU => (if oU = true then (if x6 ≤ (wrap64 (x6 + 1)) then (if (wrap64 (x6 + 1)) ≤ (x0.size : Int) then ((Yv.f k (x0.extract (x6 : Int).toNat ((wrap64 (x6 + 1)) : Int).toNat) (⟨#[]⟩ : Y)).bind fun tO => (if x5.size + tO.size ≤ 9223372036854775807 then (Ys.l0 k x0 x1 (x5 ++ tO) (wrap64 (x6 + 1))) else (none))) else (none)) else (none)) else (if x6 ≤ (wrap64 (x6 + 1)) then (if (wrap64 (x6 + 1)) ≤ (x0.size : Int) then (if x5.size + (x0.extract (x6 : Int).toNat ((wrap64 (x6 + 1)) : Int).toNat).size ≤ 9223372036854775807 then (Ys.l0 k x0 x1 (x5 ++ (x0.extract (x6 : Int).toNat ((wrap64 (x6 + 1)) : Int).toNat)) (wrap64 (x6 + 1))) else (none)) else (none)) else (none)))))))) else (none)) else (some x5)
def Ys.f (k : Nat) (a0 a1 : Y) : Option (Y) := Ys.l0 k a0 a1 (⟨#[]⟩ : Y) 0
theorem Ys.calls (k : Nat) (a0 a1 r : Y) (w : World) (hE : EnvOk w) (h : Ys.f k a0 a1 = some r) :
  Calls Tryz.prog 51 #[.string a0, .string a1] w fun e w' => e = .returned (.string r) ∧ Below w.heap.size w w' := by
 have HE := Ya.mk hE
 clear hE
 have HB := Ya.mk (Below.refl w.heap.size w)
 have H : (Ys.l0 k a0 a1 (⟨#[]⟩ : Y) 0) = some r := h
 clear h
 have H' := Ya.mk H
 clear H
 go_enter Tryz.func51, Tryz.ntmps51
 go_wp2
 go_loopg [5, 6] k (fun kq v5 v6 w' => ∃ (bA : Y) (aC : Int), v5 = .string bA ∧ v6 = .int .i64 aC ∧ Ya (Ys.l0 kq a0 a1 bA aC = some r) ∧ Ya (kq ≤ k) ∧ Ya (Below w.heap.size w w'))
 case atStart => exact ⟨((⟨#[]⟩ : Y)), (0), Zf, Zf, H', ⟨Kw _⟩, ⟨Za⟩⟩
 case round =>
  clear H'
  try clear p2
  obtain ⟨bA, aC, rfl, rfl, HA, dB, HB⟩ := hrel
  cases gk with
  | zero => exact absurd HA.out (by simp [Ys.l0])
  | succ k1 =>
   have H := HA.out
   clear HA
   simp only [Ys.l0] at H
   by_cases c3 : aC < (a0.size : Int)
   rotate_left
   ·rw [if_neg c3] at H
    have cC : decide (aC < (a0.size : Int)) = false := Ks c3
    clear c3
    obtain rfl := Kv H
    go_wp2
    go_ret
    exact ⟨Zl, Za⟩
   rw [if_pos c3] at H
   have cC : decide (aC < (a0.size : Int)) = true := Kr c3
   clear c3
   by_cases c4 : 0 ≤ aC
   rotate_left
   ·rw [if_neg c4] at H
    exact absurd H Zv
   rw [if_pos c4] at H
   have bX : decide (0 ≤ aC) = true := Kr c4
   clear c4
   by_cases c6 : (bt a0 aC) ≤ 32
   ·rw [if_pos c6] at H
    have dN : decide ((bt a0 aC) ≤ 32) = true := Kr c6
    clear c6
    have cW := Kt (Kq Zc : 0 ≤ aC)
    by_cases c8 : aC ≤ (wrap64 (aC + 1))
    rotate_left
    ·rw [if_neg c8] at H
     exact absurd H Zv
    rw [if_pos c8] at H
    have gS := Kt c8
    have jA : decide (aC ≤ (wrap64 (aC + 1))) = true := Kr c8
    by_cases c9 : (wrap64 (aC + 1)) ≤ (a0.size : Int)
    rotate_left
    ·rw [if_neg c9] at H
     exact absurd H Zv
    rw [if_pos c9] at H
    have iC := Kt c9
    have lT : decide ((wrap64 (aC + 1)) ≤ (a0.size : Int)) = true := Kr c9
    obtain ⟨eI, aBD, H⟩ := Ku H
    try dsimp -simprocs only at H
    have A10 := Ya.mk aBD
    clear aBD
    by_cases c11 : bA.size + eI.size ≤ 9223372036854775807
    rotate_left
    ·rw [if_neg c11] at H
     exact absurd H Zv
    rw [if_pos c11] at H
    have gT := Kt c11
    have pU : decide (bA.size + eI.size ≤ 9223372036854775807) = true := Kr c11
    try have aIS : (9223372036854775807 < bA.size + eI.size) = False := eq_false (Nat.not_lt.2 c11)
    have H' := Ya.mk H
    clear H
    have p5 : (0 ≤ (aC : Int)) = True := Kp
    have q5 : aC < (a0.size : Int) := Kq Zc
    have dV := Ybb a0 aC
    replace q5 := Kt q5
    go_wp2_with (first | ((with_reducible refine Yh (f := 90) rfl ?_); refine Yca (some 38) rfl rfl Tryz.func90 Zi rfl #[.string (a0.extract (aC : Int).toNat ((wrap64 (aC + 1)) : Int).toNat), .string (⟨#[]⟩ : Y)] rfl Zb ?_; (with_reducible refine (Yv.calls k1 (a0.extract (aC : Int).toNat ((wrap64 (aC + 1)) : Int).toNat) (⟨#[]⟩ : Y) eI _ ?z1 A10.out).mono ?_); (case z1 => exact Kh); rintro e uS ⟨rfl, hb⟩; refine ⟨_, rfl, ?_⟩; replace HB := Ya.mk (Yt Za hb); (try clear hb)))
    go_roundg k1
    case measure => have := dB.out; omega
    case rel => exact ⟨(bA ++ eI), (wrap64 (aC + 1)), Zf, Zf, H', ⟨Zba⟩, ⟨Za⟩⟩
   rw [if_neg c6] at H
   have dN : decide ((bt a0 aC) ≤ 32) = false := Ks c6
   clear c6
   by_cases eM : (bt a0 aC) > 126
   ·rw [if_pos eM] at H
    have hG : decide (126 < (bt a0 aC)) = true := Kr eM
    clear eM
    have iE := Kt (Kq Zc : 0 ≤ aC)
    by_cases dG : aC ≤ (wrap64 (aC + 1))
    rotate_left
    ·rw [if_neg dG] at H
     exact absurd H Zv
    rw [if_pos dG] at H
    have eT := Kt dG
    have pR : decide (aC ≤ (wrap64 (aC + 1))) = true := Kr dG
    by_cases eO : (wrap64 (aC + 1)) ≤ (a0.size : Int)
    rotate_left
    ·rw [if_neg eO] at H
     exact absurd H Zv
    rw [if_pos eO] at H
    have hF := Kt eO
    have kF : decide ((wrap64 (aC + 1)) ≤ (a0.size : Int)) = true := Kr eO
    obtain ⟨tM, oO, H⟩ := Ku H
    try dsimp -simprocs only at H
    have A17 := Ya.mk oO
    clear oO
    by_cases eP : bA.size + tM.size ≤ 9223372036854775807
    rotate_left
    ·rw [if_neg eP] at H
     exact absurd H Zv
    rw [if_pos eP] at H
    have oB := Kt eP
    have pS : decide (bA.size + tM.size ≤ 9223372036854775807) = true := Kr eP
    try have aEJ : (9223372036854775807 < bA.size + tM.size) = False := eq_false (Nat.not_lt.2 eP)
    have H' := Ya.mk H
    clear H
    have p5 : (0 ≤ (aC : Int)) = True := Kp
    have q5 : aC < (a0.size : Int) := Kq Zc
    have dV := Ybb a0 aC
    replace q5 := Kt q5
    go_wp2_with (first | ((with_reducible refine Yh (f := 90) rfl ?_); refine Yca (some 38) rfl rfl Tryz.func90 Zi rfl #[.string (a0.extract (aC : Int).toNat ((wrap64 (aC + 1)) : Int).toNat), .string (⟨#[]⟩ : Y)] rfl Zb ?_; (with_reducible refine (Yv.calls k1 (a0.extract (aC : Int).toNat ((wrap64 (aC + 1)) : Int).toNat) (⟨#[]⟩ : Y) tM _ ?z1 A17.out).mono ?_); (case z1 => exact Kh); rintro e w19 ⟨rfl, hb⟩; refine ⟨_, rfl, ?_⟩; replace HB := Ya.mk (Yt Za hb); (try clear hb)))
    go_roundg k1
    case measure => have := dB.out; omega
    case rel => exact ⟨(bA ++ tM), (wrap64 (aC + 1)), Zf, Zf, H', ⟨Zba⟩, ⟨Za⟩⟩
   rw [if_neg eM] at H
   have hG : decide (126 < (bt a0 aC)) = false := Ks eM
   clear eM
   obtain ⟨vE, aIT, H⟩ := Ku H
   try dsimp -simprocs only at H
   have dW := Ya.mk aIT
   clear aIT
   by_cases mN : vE = true
   ·subst mN
    rw [if_pos rfl] at H
    have lP := Kt (Kq Zc : 0 ≤ aC)
    by_cases jK : aC ≤ (wrap64 (aC + 1))
    rotate_left
    ·rw [if_neg jK] at H
     exact absurd H Zv
    rw [if_pos jK] at H
    have oC := Kt jK
    have oD : decide (aC ≤ (wrap64 (aC + 1))) = true := Kr jK
    by_cases kB : (wrap64 (aC + 1)) ≤ (a0.size : Int)
    rotate_left
    ·rw [if_neg kB] at H
     exact absurd H Zv
    rw [if_pos kB] at H
    have pY := Kt kB
    have pZ : decide ((wrap64 (aC + 1)) ≤ (a0.size : Int)) = true := Kr kB
    obtain ⟨tN, aIU, H⟩ := Ku H
    try dsimp -simprocs only at H
    have A25 := Ya.mk aIU
    clear aIU
    by_cases vF : bA.size + tN.size ≤ 9223372036854775807
    rotate_left
    ·rw [if_neg vF] at H
     exact absurd H Zv
    rw [if_pos vF] at H
    have aIV := Kt vF
    have aWS : decide (bA.size + tN.size ≤ 9223372036854775807) = true := Kr vF
    try have aWT : (9223372036854775807 < bA.size + tN.size) = False := eq_false (Nat.not_lt.2 vF)
    have H' := Ya.mk H
    clear H
    have p5 : (0 ≤ (aC : Int)) = True := Kp
    have q5 : aC < (a0.size : Int) := Kq Zc
    have dV := Ybb a0 aC
    replace q5 := Kt q5
    go_wp2_with (first | (go_at_call 88; (with_reducible refine (Yia.calls k1 (bt a0 aC) (⟨#[34, 60, 62]⟩ : Y) true _ ?z1 dW.out).mono ?_); (case z1 => exact Kh); rintro e w' ⟨rfl, ⟨nd, rfl⟩⟩) | ((with_reducible refine Yh (f := 90) rfl ?_); refine Yca (some 38) rfl rfl Tryz.func90 Zi rfl #[.string (a0.extract (aC : Int).toNat ((wrap64 (aC + 1)) : Int).toNat), .string (⟨#[]⟩ : Y)] rfl Zb ?_; (with_reducible refine (Yv.calls k1 (a0.extract (aC : Int).toNat ((wrap64 (aC + 1)) : Int).toNat) (⟨#[]⟩ : Y) tN _ ?z1 A25.out).mono ?_); (case z1 => exact Kh); rintro e w27 ⟨rfl, hb⟩; refine ⟨_, rfl, ?_⟩; replace HB := Ya.mk (Yt Za hb); (try clear hb)))
    go_roundg k1
    case measure => have := dB.out; omega
    case rel => exact ⟨(bA ++ tN), (wrap64 (aC + 1)), Zf, Zf, H', ⟨Zba⟩, ⟨Za⟩⟩
   replace mN := Kx mN
   subst mN
   rw [if_neg (show ¬ (false = true) by decide)] at H
   obtain ⟨oU, tK, H⟩ := Ku H
   try dsimp -simprocs only at H
   have A28 := Ya.mk tK
   clear tK
   by_cases oS : oU = true
   rotate_left
   ·replace oS := Kx oS
    subst oS
    rw [if_neg (show ¬ (false = true) by decide)] at H
    have aWU := Kt (Kq Zc : 0 ≤ aC)
    by_cases c37 : aC ≤ (wrap64 (aC + 1))
    rotate_left
    ·rw [if_neg c37] at H
     exact absurd H Zv
    rw [if_pos c37] at H
    have aWV := Kt c37
    have aWW : decide (aC ≤ (wrap64 (aC + 1))) = true := Kr c37
    by_cases c38 : (wrap64 (aC + 1)) ≤ (a0.size : Int)
    rotate_left
    ·rw [if_neg c38] at H
     exact absurd H Zv
    rw [if_pos c38] at H
    have aWX := Kt c38
    have aWY : decide ((wrap64 (aC + 1)) ≤ (a0.size : Int)) = true := Kr c38
    by_cases c39 : bA.size + (a0.extract (aC : Int).toNat ((wrap64 (aC + 1)) : Int).toNat).size ≤ 9223372036854775807
    rotate_left
    ·rw [if_neg c39] at H
     exact absurd H Zv
    rw [if_pos c39] at H
    have aWZ := Kt c39
    have aXa : decide (bA.size + (a0.extract (aC : Int).toNat ((wrap64 (aC + 1)) : Int).toNat).size ≤ 9223372036854775807) = true := Kr c39
    try have aXb : (9223372036854775807 < bA.size + (a0.extract (aC : Int).toNat ((wrap64 (aC + 1)) : Int).toNat).size) = False := eq_false (Nat.not_lt.2 c39)
    try have aXc : (9223372036854775807 < bA.size + (((wrap64 (aC + 1)) : Int).toNat - (aC : Int).toNat)) = False := eq_false (by have h9_ := c39; rw [ByteArray.size_extract] at h9_; omega)
    have H' := Ya.mk H
    clear H
    have p5 : (0 ≤ (aC : Int)) = True := Kp
    have q5 : aC < (a0.size : Int) := Kq Zc
    have dV := Ybb a0 aC
    replace q5 := Kt q5
    go_wp2_with (first | (go_at_call 88; (with_reducible refine (Yia.calls k1 (bt a0 aC) (⟨#[34, 60, 62]⟩ : Y) false _ ?z1 dW.out).mono ?_); (case z1 => exact Kh); rintro e w' ⟨rfl, ⟨nd, rfl⟩⟩) | (go_at_call 88; (with_reducible refine (Yia.calls k1 (bt a0 aC) a1 false _ ?z1 A28.out).mono ?_); (case z1 => exact Kh); rintro e w' ⟨rfl, ⟨nd, rfl⟩⟩))
    go_roundg k1
    case measure => have := dB.out; omega
    case rel => exact ⟨(bA ++ (a0.extract (aC : Int).toNat ((wrap64 (aC + 1)) : Int).toNat)), (wrap64 (aC + 1)), Zf, Zf, H', ⟨Zba⟩, ⟨Za⟩⟩
   subst oS
   rw [if_pos rfl] at H
   have aXd := Kt (Kq Zc : 0 ≤ aC)
   by_cases rI : aC ≤ (wrap64 (aC + 1))
   rotate_left
   ·rw [if_neg rI] at H
    exact absurd H Zv
   rw [if_pos rI] at H
   have aBE := Kt rI
   have aBF : decide (aC ≤ (wrap64 (aC + 1))) = true := Kr rI
   by_cases c32 : (wrap64 (aC + 1)) ≤ (a0.size : Int)
   rotate_left
   ·rw [if_neg c32] at H
    exact absurd H Zv
   rw [if_pos c32] at H
   have aIW := Kt c32
   have aXe : decide ((wrap64 (aC + 1)) ≤ (a0.size : Int)) = true := Kr c32
   obtain ⟨tO, aIX, H⟩ := Ku H
   try dsimp -simprocs only at H
   have A33 := Ya.mk aIX
   clear aIX
   by_cases c34 : bA.size + tO.size ≤ 9223372036854775807
   rotate_left
   ·rw [if_neg c34] at H
    exact absurd H Zv
   rw [if_pos c34] at H
   have aES := Kt c34
   have aXf : decide (bA.size + tO.size ≤ 9223372036854775807) = true := Kr c34
   try have aXg : (9223372036854775807 < bA.size + tO.size) = False := eq_false (Nat.not_lt.2 c34)
   have H' := Ya.mk H
   clear H
   have p5 : (0 ≤ (aC : Int)) = True := Kp
   have q5 : aC < (a0.size : Int) := Kq Zc
   have dV := Ybb a0 aC
   replace q5 := Kt q5
   go_wp2_with (first | (go_at_call 88; (with_reducible refine (Yia.calls k1 (bt a0 aC) (⟨#[34, 60, 62]⟩ : Y) false _ ?z1 dW.out).mono ?_); (case z1 => exact Kh); rintro e w' ⟨rfl, ⟨nd, rfl⟩⟩) | (go_at_call 88; (with_reducible refine (Yia.calls k1 (bt a0 aC) a1 true _ ?z1 A28.out).mono ?_); (case z1 => exact Kh); rintro e w' ⟨rfl, ⟨nd, rfl⟩⟩) | ((with_reducible refine Yh (f := 90) rfl ?_); refine Yca (some 38) rfl rfl Tryz.func90 Zi rfl #[.string (a0.extract (aC : Int).toNat ((wrap64 (aC + 1)) : Int).toNat), .string (⟨#[]⟩ : Y)] rfl Zb ?_; (with_reducible refine (Yv.calls k1 (a0.extract (aC : Int).toNat ((wrap64 (aC + 1)) : Int).toNat) (⟨#[]⟩ : Y) tO _ ?z1 A33.out).mono ?_); (case z1 => exact Kh); rintro e yW ⟨rfl, hb⟩; refine ⟨_, rfl, ?_⟩; replace HB := Ya.mk (Yt Za hb); (try clear hb)))
   go_roundg k1
   case measure => have := dB.out; omega
   case rel => exact ⟨(bA ++ tO), (wrap64 (aC + 1)), Zf, Zf, H', ⟨Zba⟩, ⟨Za⟩⟩
def Yha.l0 : Nat → Y → List Y → Int → Option (List Y)
 | 0, _, _, _ => none
 | k + 1, x0, x3, x4 => if x4 < (x0.size : Int) then (if 0 ≤ x4 then ((Yab.f (bt x0 x4)).bind fun aFN => (if aFN = true then (if x3.length < 8796093022208 then (Yha.l0 k x0 (x3 ++ [(⟨#[]⟩ : Y)]) (wrap64 (x4 + 1))) else (none)) else (if 0 ≤ (wrap64 ((x3.length : Int) - 1)) then (if (wrap64 ((x3.length : Int) - 1)) < (x3.length : Int) then (if x4 ≤ (wrap64 (x4 + 1)) then (if (wrap64 (x4 + 1)) ≤ (x0.size : Int) then (if (rdOf ByteArray.empty x3 (wrap64 ((x3.length : Int) - 1))).size + (x0.extract (x4 : Int).toNat ((wrap64 (x4 + 1)) : Int).toNat).size ≤ 9223372036854775807 then (Yha.l0 k x0 (x3.set ((wrap64 ((x3.length : Int) - 1)) : Int).toNat ((rdOf ByteArray.empty x3 (wrap64 ((x3.length : Int) - 1))) ++ (x0.extract (x4 : Int).toNat ((wrap64 (x4 + 1)) : Int).toNat))) (wrap64 (x4 + 1))) else (none)) else (none)) else (none)) else (none)) else (none)))) else (none)) else (some x3)
def Yha.f (k : Nat) (a0 : Y) : Option (List Y) := Yha.l0 k a0 (([(⟨#[]⟩ : Y)] : List Y)) 0
def Yha.T7 : Bool × List (List Nat × List Nat) := (true, [([], []), ([], []), ([1], [1]), ([2], [2]), ([0, 3], [0, 3]), ([4], [4]), ([], []), ([], []), ([], []), ([8], [8]), ([6, 7, 9], [6, 7, 9]), ([5, 10], [5, 10]), ([0, 3, 0, 1, 2, 3, 4, 5, 6, 7, 8, 9, 10, 11], [0, 3]), ([12, 11, 0, 1, 2, 3, 4, 5, 6, 7, 8, 9, 10, 11], [11, 12])])
def Yha.B7 : List Nat := [0, 0, 2, 6, 15, 31, 0, 0, 0, 256, 960, 2047, 4095, 8191]
theorem Yha.tab7 : rtab .any (opsOf Tryz.f64 7) = Yha.T7 := by kernel_rfl
theorem Yha.bits7 : Yig Yha.T7.2 Yha.B7 = true := by kernel_rfl
theorem Yha.calls (k : Nat) (a0 : Y) (r : List Y) (w : World) (hE : EnvOk w) (h : Yha.f k a0 = some r) :
  Calls Tryz.prog 64 #[.string a0] w fun e w' => ∃ v0_ : Value, e = .returned (v0_) ∧ Kd.R Kd.string 9 w' w.heap.size (fun _ => True) v0_ r ∧ Below w.heap.size w w' := by
 have HE := Ya.mk hE
 clear hE
 have HB := Ya.mk (Below.refl w.heap.size w)
 have H : (Yha.l0 k a0 (([(⟨#[]⟩ : Y)] : List Y)) 0) = some r := h
 clear h
 obtain ⟨aIY, tP⟩ : ∃ y_ : List Y, y_ = (([(⟨#[]⟩ : Y)] : List Y)) := ⟨_, rfl⟩
 replace H : (Yha.l0 k a0 aIY 0) = some r := by first | (rw [tP]; with_reducible exact H) | (have dH := (Kfa _ _).symm.trans H; rw [tP]; with_reducible exact dH) | (have dH := (Kfa _ _).symm.trans H; with_reducible exact dH) | with_reducible exact H | (rw [tP]; exact H) | exact H
 have aET := Ya.mk tP
 clear tP
 have H' := Ya.mk H
 clear H
 go_enter Tryz.func64, Tryz.ntmps64
 go_wp2_with (first | ((with_reducible refine Ybd (N := 5) rfl ?_); refine Kd.R_lit Kd.string _ 9 ?hg (N := 5) ?hd (xs := ([(⟨#[]⟩ : Y)] : List Y)) (inner := [.string (⟨#[]⟩ : Y)]) (ok := fun _ => True) (okp := fun _ => True) ?hr ?hp (fun _ hk => hk) trivial (Below.refl _ _) (Kw _) Zv ?_; (case hd => rfl); (case hg => rfl); (case hr => first | (go_simp; done) | (go_simp; rfl)); (case hp => exact (Reps.one (show Kd.M Kd.string _ _ _ (⟨#[]⟩ : Y) [.string (⟨#[]⟩ : Y)] from rfl) (Reps.none _ _))); intro aXY w2 ho3 hb hg_ hnew_; clear hg_ hnew_; (first | rw [← aET.out] at ho3 | (simp only [Int.reduceToNat] at ho3; rw [← aET.out] at ho3)); have aJa := Ya.mk (Kd.R_lower ho3 (Yka Za)); replace HB := Ya.mk (Yt Za hb); clear hb ho3))
 go_loopg [3, 4] k (fun kq v3 v4 w' => ∃ (aD : List Y) (aA : Int), v4 = .int .i64 aA ∧ Ya (Yha.l0 kq a0 aD aA = some r) ∧ Ya (kq ≤ k) ∧ Ya (Kd.R Kd.string 9 w' w.heap.size (fun _ => True) v3 aD) ∧ Ya (Below w.heap.size w w'))
 case atStart => exact ⟨(aIY), (0), Zf, H', ⟨Kw _⟩, ⟨by (with_reducible repeat (first | apply Kd.R_alloc | apply Kd.R_drewN | apply Kd.R_drew)); exact aJa.out⟩, ⟨Za⟩⟩
 case round =>
  clear H'
  try clear p2
  obtain ⟨aD, aA, rfl, HA, dB, HO_3, HB⟩ := hrel
  cases gk with
  | zero => exact absurd HA.out (by simp [Yha.l0])
  | succ k1 =>
   have H := HA.out
   clear HA
   simp only [Yha.l0] at H
   by_cases c4 : aA < (a0.size : Int)
   rotate_left
   ·rw [if_neg c4] at H
    have bX : decide (aA < (a0.size : Int)) = false := Ks c4
    clear c4
    obtain rfl := Kv H
    go_wp2
    go_ret
    exact ⟨_, Zl, Zm, Za⟩
   rw [if_pos c4] at H
   have bX : decide (aA < (a0.size : Int)) = true := Kr c4
   clear c4
   by_cases c5 : 0 ≤ aA
   rotate_left
   ·rw [if_neg c5] at H
    exact absurd H Zv
   rw [if_pos c5] at H
   have dI : decide (0 ≤ aA) = true := Kr c5
   clear c5
   obtain ⟨aFN, oA, H⟩ := Ku H
   try dsimp -simprocs only at H
   have A7 := Ya.mk oA
   clear oA
   by_cases c8 : aFN = true
   ·subst c8
    rw [if_pos rfl] at H
    by_cases c9 : aD.length < 8796093022208
    rotate_left
    ·rw [if_neg c9] at H
     exact absurd H Zv
    rw [if_pos c9] at H
    have vB := Ya.mk c9
    clear c9
    obtain ⟨aJb, tQ⟩ : ∃ y_ : List Y, y_ = (aD ++ [(⟨#[]⟩ : Y)]) := ⟨_, rfl⟩
    replace H : (Yha.l0 k1 a0 aJb (wrap64 (aA + 1))) = some r := by first | (rw [tQ]; with_reducible exact H) | (have dH := (Kfa _ _).symm.trans H; rw [tQ]; with_reducible exact dH) | (have dH := (Kfa _ _).symm.trans H; with_reducible exact dH) | with_reducible exact H | (rw [tQ]; exact H) | exact H
    have aJc := Ya.mk tQ
    clear tQ
    have H' := Ya.mk H
    clear H
    have p6 : (0 ≤ (aA : Int)) = True := Kp
    have q6 : aA < (a0.size : Int) := Kq Zc
    have hx6 := Ybb a0 aA
    replace q6 := Kt q6
    go_wp2_with (first | ((with_reducible refine Yh (f := 48) rfl ?_); refine Yca (some 15) rfl rfl Tryz.func48 Zi rfl #[.int .u8 (bt a0 aA)] rfl Zb ?_; (with_reducible refine (Yab.calls (bt a0 aA) true _ ?z1 A7.out).mono ?_); (case z1 => exact Kh); rintro e w' ⟨rfl, ⟨nd, rfl⟩⟩; refine ⟨_, rfl, ?_⟩) | ((with_reducible refine Yje (b := .append) (xs := #[.tmp 16, .tmp 17]) rfl ?_); at_builtin; refine Kd.R_append Kd.string (w0 := w) w.heap.size rfl (.tmp 16) (.tmp 17) 44 9 (.string ⟨#[]⟩) 16 rfl Tryz.underlying44 Yog rfl Zca Zk u3 aD (⟨#[]⟩ : Y) [.string (⟨#[]⟩ : Y)] (fun _ => True) (fun _ => False) rfl rfl ?aP (fun _ hk => hk.elim) ?aF ?aO ?aB ?aS ?aL ?_; (case aP => exact rfl); (case aB => exact Za); (case aF => exact (fun _ _ => trivial)); (case aO => exact Zm); (case aS => exact Kg); (case aL => have := vB.out; omega); intro aXZ pN ho hb hg hat; rw [← aJc.out] at ho; replace HB := Ya.mk (hb); have aJd := Ya.mk (ho); clear HO_3; clear ho hb hg hat))
    go_roundg k1
    case measure => have := dB.out; omega
    case rel => exact ⟨(aJb), (wrap64 (aA + 1)), Zf, H', ⟨Zba⟩, ⟨by (with_reducible repeat (first | apply Kd.R_alloc | apply Kd.R_drewN | apply Kd.R_drew)); exact aJd.out⟩, ⟨Za⟩⟩
   replace c8 := Kx c8
   subst c8
   rw [if_neg (show ¬ (false = true) by decide)] at H
   obtain ⟨ji11, lQ⟩ : ∃ j_ : Int, (wrap64 ((aD.length : Int) - 1)) = j_ := ⟨_, rfl⟩
   replace H : (if 0 ≤ (ji11) then (if (ji11) < (aD.length : Int) then (if aA ≤ (wrap64 (aA + 1)) then (if (wrap64 (aA + 1)) ≤ (a0.size : Int) then (if (rdOf ByteArray.empty aD (ji11)).size + (a0.extract (aA : Int).toNat ((wrap64 (aA + 1)) : Int).toNat).size ≤ 9223372036854775807 then (Yha.l0 k1 a0 (aD.set ((ji11) : Int).toNat ((rdOf ByteArray.empty aD (ji11)) ++ (a0.extract (aA : Int).toNat ((wrap64 (aA + 1)) : Int).toNat))) (wrap64 (aA + 1))) else (none)) else (none)) else (none)) else (none)) else (none)) = some r := by first | (rw [lQ] at H; exact H) | (simp only [lQ] at H ⊢; exact H)
   (try rw [lQ] at A7)
   have hji11w : (IntKind.i64.wrap ((aD.length : Int) - 1)) = ji11 := (Yaa _).trans lQ
   by_cases dD : 0 ≤ (ji11)
   rotate_left
   ·rw [if_neg dD] at H
    exact absurd H Zv
   rw [if_pos dD] at H
   have dS : decide (0 ≤ (ji11)) = true := Kr dD
   clear dD
   by_cases eM : (ji11) < (aD.length : Int)
   rotate_left
   ·rw [if_neg eM] at H
    exact absurd H Zv
   rw [if_pos eM] at H
   have hG : decide ((ji11) < (aD.length : Int)) = true := Kr eM
   clear eM
   have iE := Kt (Kq Zc : 0 ≤ aA)
   by_cases dG : aA ≤ (wrap64 (aA + 1))
   rotate_left
   ·rw [if_neg dG] at H
    exact absurd H Zv
   rw [if_pos dG] at H
   have eT := Kt dG
   have pR : decide (aA ≤ (wrap64 (aA + 1))) = true := Kr dG
   by_cases eO : (wrap64 (aA + 1)) ≤ (a0.size : Int)
   rotate_left
   ·rw [if_neg eO] at H
    exact absurd H Zv
   rw [if_pos eO] at H
   have hF := Kt eO
   have kF : decide ((wrap64 (aA + 1)) ≤ (a0.size : Int)) = true := Kr eO
   by_cases eG : (rdOf ByteArray.empty aD (ji11)).size + (a0.extract (aA : Int).toNat ((wrap64 (aA + 1)) : Int).toNat).size ≤ 9223372036854775807
   rotate_left
   ·rw [if_neg eG] at H
    exact absurd H Zv
   rw [if_pos eG] at H
   have jO := Kt eG
   have lN : decide ((rdOf ByteArray.empty aD (ji11)).size + (a0.extract (aA : Int).toNat ((wrap64 (aA + 1)) : Int).toNat).size ≤ 9223372036854775807) = true := Kr eG
   try have aJe : (9223372036854775807 < (rdOf ByteArray.empty aD (ji11)).size + (a0.extract (aA : Int).toNat ((wrap64 (aA + 1)) : Int).toNat).size) = False := eq_false (Nat.not_lt.2 eG)
   try have aJf : (9223372036854775807 < (rdOf ByteArray.empty aD (ji11)).size + (((wrap64 (aA + 1)) : Int).toNat - (aA : Int).toNat)) = False := eq_false (by have h9_ := eG; rw [ByteArray.size_extract] at h9_; omega)
   obtain ⟨aJg, tR⟩ : ∃ y_ : List Y, y_ = (aD.set ((ji11) : Int).toNat ((rdOf ByteArray.empty aD (ji11)) ++ (a0.extract (aA : Int).toNat ((wrap64 (aA + 1)) : Int).toNat))) := ⟨_, rfl⟩
   replace H : (Yha.l0 k1 a0 aJg (wrap64 (aA + 1))) = some r := by first | (rw [tR]; with_reducible exact H) | (have dH := (Kfa _ _).symm.trans H; rw [tR]; with_reducible exact dH) | (have dH := (Kfa _ _).symm.trans H; with_reducible exact dH) | with_reducible exact H | (rw [tR]; exact H) | exact H
   have aJh := Ya.mk tR
   clear tR
   have H' := Ya.mk H
   clear H
   have p6 : (0 ≤ (aA : Int)) = True := Kp
   have q6 : aA < (a0.size : Int) := Kq Zc
   have hx6 := Ybb a0 aA
   replace q6 := Kt q6
   try go_wp2_with (first | ((with_reducible refine Yh (f := 48) rfl ?_); refine Yca (some 15) rfl rfl Tryz.func48 Zi rfl #[.int .u8 (bt a0 aA)] rfl Zb ?_; (with_reducible refine (Yab.calls (bt a0 aA) false _ ?z1 A7.out).mono ?_); (case z1 => exact Kh); rintro e w' ⟨rfl, ⟨nd, rfl⟩⟩; refine ⟨_, rfl, ?_⟩; (try (rw [Yfg wr]; generalize hq_ : World.drewN wr _ = wr; have aH : Ya (Kd.R Kd.string 9 wr w.heap.size (fun _ => True) u3 aD) := ⟨by rw [← hq_]; exact Zm⟩; have aR : Ya (Below w.heap.size w wr) := ⟨by rw [← hq_]; exact Za⟩; clear HO_3 HB hq_; have HO_3 := aH; have HB := aR; clear aH aR))))
   have aH := Ya.mk (Kd.R_drew HO_3.out)
   have aR := Ya.mk (Yc HB.out)
   clear HO_3
   clear HB
   have HO_3 := aH
   have HB := aR
   clear aH aR
   obtain ⟨aVN, aVO, aBG⟩ := Kd.R_slice HO_3.out
   (first | subst aBG | (injection aBG with f1_ f2_ f3_; have f4_ := f1_.symm; have f5_ := f3_.symm; clear f1_ f2_ f3_; subst f4_; subst f5_))
   have aFO : 0 ≤ ((ji11) : Int) := Kq Zc
   have aFP : (ji11) < (aD.length : Int) := Kq Zc
   obtain ⟨aXh, aVP, rJ⟩ := Kd.at_string (Kd.R_reads' HO_3.out).2.2 (ji11) aFO aFP
   cases aVP
   replace aFO := Kt aFO
   replace aFP := Kt aFP
   have p18 : 0 ≤ ((ji11) : Int) := Kq Zc
   have q18 : ((ji11) : Int) < ((aD.length : Int) : Int) := Kq Zc
   obtain ⟨aFS, aVQ, aBH, aBI, aFT, aVR, aBJ⟩ := Kd.R_form HO_3.out Zk
   (first | cases aBH | (injection aBH with ea_ en_ ec_; (first | subst ea_ | (injection ea_ with ea_; subst ea_)); subst ec_; clear en_))
   have aFU := Ya.mk aBI
   have aFV := Ya.mk aBJ
   clear aBI aFT aBJ
   (first | simp only [add_plain] at rJ | skip)
   obtain ⟨vG, vH⟩ := Kd.R_celln (⟨#[]⟩ : Y) HO_3.out ((ji11) : Int) p18 q18
   replace p18 := Kt p18
   replace q18 := Kt q18
   have vI := Kd.R_putn HO_3.out ((ji11) : Int) ((rdOf ByteArray.empty aD (ji11)) ++ (a0.extract (aA : Int).toNat ((wrap64 (aA + 1)) : Int).toNat))
   rw [← aJh.out] at vI
   have aBK := Ya.mk vI
   clear vI
   refine Ykg (n := 14) (S := fun w' => w'.cell? ⟨aFS, ((ji11)).toNat, none⟩ = some (.string (rdOf ByteArray.empty aD (ji11)))) (ds := [13]) #[false, false, false, false, false, false, false, false, false, false, false, false, false, false] Zi rfl rfl (rJ) (fun hHeld => ?_); refine Ylf Yha.tab7 Yha.bits7 (fun HT_ HW_ => ?_)
   generalize wr.drew = w19 at HO_3 HB aFV aBK vH rJ vG hHeld ⊢
   refine Yya (i := 0) (N := some 19) (v := ?_) (a' := ?_) #[true, false, false, false, false, false, false, false, false, false, false, false, false, false] rfl rfl (Ysa HT_.out Zi) (fun _ _ _ h => h) (Or.inl ⟨Zga, ?_⟩) ?_ ?_
   rotate_left
   ·exact Zyb
   rotate_left
   ·exact Zzb
   refine Yya (i := 1) (N := some 20) (v := ?_) (a' := ?_) #[true, true, false, false, false, false, false, false, false, false, false, false, false, false] rfl rfl (Ysa HT_.out Zi) (fun _ _ _ h => h) (Or.inl ⟨Zga, ?_⟩) ?_ ?_
   rotate_left
   ·exact Zyb
   rotate_left
   ·exact Zzb
   refine Yya (i := 2) (N := some 21) (v := ?_) (a' := ?_) #[true, true, true, false, false, false, false, false, false, false, false, false, false, false] rfl rfl (Ysa HT_.out Zi) (fun _ _ _ h => h) (Or.inl ⟨Zga, ?_⟩) ?_ ?_
   rotate_left
   ·exact Zyb
   rotate_left
   ·exact Zzb
   refine Yya (i := 3) (N := some 22) (v := ?_) (a' := ?_) #[true, true, true, true, false, false, false, false, false, false, false, false, false, false] rfl rfl (Ysa HT_.out Zi) (fun _ _ _ h => h) (Or.inl ⟨Zga, ?_⟩) ?_ ?_
   rotate_left
   ·exact Zyb
   rotate_left
   ·exact Zzb
   refine Yya (i := 4) (N := some 23) (v := ?_) (a' := ?_) #[true, true, true, true, true, false, false, false, false, false, false, false, false, false] rfl rfl (Ysa HT_.out Zi) (fun _ _ _ h => h) (Or.inl ⟨Zga, ?_⟩) ?_ ?_
   rotate_left
   ·exact Zyb
   rotate_left
   ·exact Zzb
   refine Yya (i := 6) (N := some 25) (v := ?_) (a' := ?_) #[true, true, true, true, true, false, true, false, false, false, false, false, false, false] rfl rfl (Ysa HT_.out Zi) (fun _ _ _ h => h) (Or.inl ⟨Zga, ?_⟩) ?_ ?_
   rotate_left
   ·exact Zyb
   rotate_left
   ·exact Zzb
   refine Yya (i := 7) (N := some 26) (v := ?_) (a' := ?_) #[true, true, true, true, true, false, true, true, false, false, false, false, false, false] rfl rfl (Ysa HT_.out Zi) (fun _ _ _ h => h) (Or.inl ⟨Zga, ?_⟩) ?_ ?_
   rotate_left
   ·exact Zyb
   rotate_left
   ·exact Zzb
   refine Yya (i := 8) (N := some 27) (v := ?_) (a' := ?_) #[true, true, true, true, true, false, true, true, true, false, false, false, false, false] rfl rfl (Ysa HT_.out Zi) (fun _ _ _ h => h) (Or.inl ⟨Zga, ?_⟩) ?_ ?_
   rotate_left
   ·exact Zyb
   rotate_left
   ·exact Zzb
   refine Yya (i := 9) (N := some 28) (v := ?_) (a' := ?_) #[true, true, true, true, true, false, true, true, true, true, false, false, false, false] rfl rfl (Ysa HT_.out Zi) (fun _ _ _ h => h) (Or.inl ⟨Zga, ?_⟩) ?_ ?_
   rotate_left
   ·exact Zyb
   rotate_left
   ·exact Zzb
   refine Yya (i := 10) (N := some 29) (v := ?_) (a' := ?_) #[true, true, true, true, true, false, true, true, true, true, true, false, false, false] rfl rfl (Ysa HT_.out Zi) (fun _ _ _ h => h) (Or.inl ⟨Zga, ?_⟩) ?_ ?_
   rotate_left
   ·exact Zyb
   rotate_left
   ·exact Zzb
   refine Ynf (i := 5) (N := some 24) (v := ?_) (a' := ?_) #[true, true, true, true, true, true, true, true, true, true, true, false, false, false] rfl rfl (Yae HT_.out HW_.out Zi) (fun _ _ _ h => h) (Or.inl ⟨Zga, ?_⟩) hHeld ?_ ?_
   rotate_left
   ·intro w' s0
    go_simp
    with_reducible rfl
   rotate_left
   ·exact Zzb
   refine Yya (i := 11) (N := some 30) (v := ?_) (a' := ?_) #[true, true, true, true, true, true, true, true, true, true, true, true, false, false] rfl rfl (Ysa HT_.out Zi) (fun _ _ _ h => h) (Or.inl ⟨Zga, ?_⟩) ?_ ?_
   rotate_left
   ·exact Zyb
   rotate_left
   ·exact Zzb
   refine Yya (i := 12) (N := some 31) (v := ?_) (a' := ?_) #[true, true, true, true, true, true, true, true, true, true, true, true, true, false] rfl rfl (Ysa HT_.out Zi) (fun _ _ _ h => h) (Or.inl ⟨Zga, ?_⟩) ?_ ?_
   rotate_left
   ·exact Zyb
   rotate_left
   ·exact Zzb
   refine Ymn (i := 13) (N := none) #[true, true, true, true, true, true, true, true, true, true, true, true, true, true] rfl rfl (Yne HT_.out Zi) Zca (fun K hK => ?_)
   refine Ysi (w1 := ?_) Zga rfl ?_ ?_
   rotate_left
   ·go_simp
    rfl
   refine hK.out _ _ ?_
   clear hK K
   refine Yoh (Yvg HT_.out Zi) ?_
   try go_wp2
   go_roundg k1
   case measure => have := dB.out; omega
   case rel => exact ⟨(aJg), (wrap64 (aA + 1)), Zf, H', ⟨Zba⟩, ⟨by (with_reducible repeat (first | apply Kd.R_alloc | apply Kd.R_drewN | apply Kd.R_drew)); exact aBK.out⟩, ⟨by repeat (first | (with_reducible first | exact HB.out | apply Yd | apply Yb | apply Yc | refine Yg ?_ aFU.out) | exact HB.out)⟩⟩
def Yfa.l0 : Nat → Y → List Int → Int → Option (Y)
 | 0, _, _, _ => none
 | k + 1, x0, x3, x4 => if x4 < (x0.size : Int) then (if 0 ≤ x4 then (if (bt x0 x4) ≥ 65 then (if (bt x0 x4) ≤ 90 then (if x3.length < 140737488355328 then (Yfa.l0 k x0 (x3 ++ [((bt x0 x4) + 32) % 256]) (wrap64 (x4 + 1))) else (none)) else (if x3.length < 140737488355328 then (Yfa.l0 k x0 (x3 ++ [bt x0 x4]) (wrap64 (x4 + 1))) else (none))) else (if x3.length < 140737488355328 then (Yfa.l0 k x0 (x3 ++ [bt x0 x4]) (wrap64 (x4 + 1))) else (none))) else (none)) else (some (strOfNums x3))
def Yfa.f (k : Nat) (a0 : Y) : Option (Y) := Yfa.l0 k a0 ([] : List Int) 0
theorem Yfa.calls (k : Nat) (a0 r : Y) (w : World) (hE : EnvOk w) (h : Yfa.f k a0 = some r) :
  Calls Tryz.prog 47 #[.string a0] w fun e w' => e = .returned (.string r) ∧ Below w.heap.size w w' := by
 have HE := Ya.mk hE
 clear hE
 have HB := Ya.mk (Below.refl w.heap.size w)
 have H : (Yfa.l0 k a0 ([] : List Int) 0) = some r := h
 clear h
 have H' := Ya.mk H
 clear H
 go_enter Tryz.func47, Tryz.ntmps47
 go_wp2
 go_loopg [3, 4] k (fun kq v3 v4 w' => ∃ (aD : List Int) (aA : Int), v4 = .int .i64 aA ∧ Ya (Yfa.l0 kq a0 aD aA = some r) ∧ Ya (kq ≤ k) ∧ Ya (Kd.R (Kd.int .u8) 5 w' w.heap.size (fun _ => True) v3 aD) ∧ Ya (Below w.heap.size w w'))
 case atStart => exact ⟨(([] : List Int)), (0), Zf, H', ⟨Kw _⟩, ⟨Zfa⟩, ⟨Za⟩⟩
 case round =>
  clear H'
  obtain ⟨aD, aA, rfl, HA, dB, HO_3, HB⟩ := hrel
  cases gk with
  | zero => exact absurd HA.out (by simp [Yfa.l0])
  | succ k1 =>
   have H := HA.out
   clear HA
   simp only [Yfa.l0] at H
   by_cases c2 : aA < (a0.size : Int)
   rotate_left
   ·rw [if_neg c2] at H
    have eS : decide (aA < (a0.size : Int)) = false := Ks c2
    clear c2
    obtain rfl := Kv H
    have aXi := Ygh (P := Tryz.prog) Tryz.underlying62 Tryz.underlying5 Tryz.underlying9 (Kd.own_of_R HO_3.out)
    go_wp2
    go_ret
    exact ⟨Zl, Za⟩
   rw [if_pos c2] at H
   have eS : decide (aA < (a0.size : Int)) = true := Kr c2
   clear c2
   by_cases c3 : 0 ≤ aA
   rotate_left
   ·rw [if_neg c3] at H
    exact absurd H Zv
   rw [if_pos c3] at H
   have cC : decide (0 ≤ aA) = true := Kr c3
   clear c3
   by_cases c5 : (bt a0 aA) ≥ 65
   rotate_left
   ·rw [if_neg c5] at H
    have dI : decide (65 ≤ (bt a0 aA)) = false := Ks c5
    clear c5
    by_cases c11 : aD.length < 140737488355328
    rotate_left
    ·rw [if_neg c11] at H
     exact absurd H Zv
    rw [if_pos c11] at H
    have aAE := Ya.mk c11
    clear c11
    obtain ⟨aJk, tS⟩ : ∃ y_ : List Int, y_ = (aD ++ [bt a0 aA]) := ⟨_, rfl⟩
    replace H : (Yfa.l0 k1 a0 aJk (wrap64 (aA + 1))) = some r := by first | (rw [tS]; with_reducible exact H) | (have dH := (Kfa _ _).symm.trans H; rw [tS]; with_reducible exact dH) | (have dH := (Kfa _ _).symm.trans H; with_reducible exact dH) | with_reducible exact H | (rw [tS]; exact H) | exact H
    have aJl := Ya.mk tS
    clear tS
    have H' := Ya.mk H
    clear H
    have p4 : (0 ≤ (aA : Int)) = True := Kp
    have q4 : aA < (a0.size : Int) := Kq Zc
    have jF := Ybb a0 aA
    replace q4 := Kt q4
    go_wp2_with (first | ((with_reducible refine Yje (b := .append) (xs := #[.tmp 23, .tmp 25]) rfl ?_); at_builtin; refine Kd.R_append (Kd.int .u8) (w0 := w) w.heap.size rfl (.tmp 23) (.tmp 25) 62 5 (.int .u8 0) 1 rfl Tryz.underlying62 Yqm rfl Zca Zk u3 aD (bt a0 aA) [.int .u8 (bt a0 aA)] (fun _ => True) (fun _ => False) rfl rfl ?aP (fun _ hk => hk.elim) ?aF ?aO ?aB ?aS ?aL ?_; (case aP => exact rfl); (case aB => exact Za); (case aF => exact (fun _ _ => trivial)); (case aO => exact Zm); (case aS => exact Kg); (case aL => have := aAE.out; omega); intro aYa uS ho hb hg hat; rw [← aJl.out] at ho; replace HB := Ya.mk (hb); have aJm := Ya.mk (ho); clear HO_3; clear ho hb hg hat))
    go_roundg k1
    case measure => have := dB.out; omega
    case rel => exact ⟨(aJk), (wrap64 (aA + 1)), Zf, H', ⟨Zba⟩, ⟨by (with_reducible repeat (first | apply Kd.R_alloc | apply Kd.R_drewN | apply Kd.R_drew)); exact aJm.out⟩, ⟨Za⟩⟩
   rw [if_pos c5] at H
   have dI : decide (65 ≤ (bt a0 aA)) = true := Kr c5
   clear c5
   by_cases c6 : (bt a0 aA) ≤ 90
   rotate_left
   ·rw [if_neg c6] at H
    have dN : decide ((bt a0 aA) ≤ 90) = false := Ks c6
    clear c6
    by_cases c9 : aD.length < 140737488355328
    rotate_left
    ·rw [if_neg c9] at H
     exact absurd H Zv
    rw [if_pos c9] at H
    have vB := Ya.mk c9
    clear c9
    obtain ⟨aJn, tT⟩ : ∃ y_ : List Int, y_ = (aD ++ [bt a0 aA]) := ⟨_, rfl⟩
    replace H : (Yfa.l0 k1 a0 aJn (wrap64 (aA + 1))) = some r := by first | (rw [tT]; with_reducible exact H) | (have dH := (Kfa _ _).symm.trans H; rw [tT]; with_reducible exact dH) | (have dH := (Kfa _ _).symm.trans H; with_reducible exact dH) | with_reducible exact H | (rw [tT]; exact H) | exact H
    have aJo := Ya.mk tT
    clear tT
    have H' := Ya.mk H
    clear H
    have p4 : (0 ≤ (aA : Int)) = True := Kp
    have q4 : aA < (a0.size : Int) := Kq Zc
    have jF := Ybb a0 aA
    replace q4 := Kt q4
    go_wp2_with (first | ((with_reducible refine Yje (b := .append) (xs := #[.tmp 23, .tmp 25]) rfl ?_); at_builtin; refine Kd.R_append (Kd.int .u8) (w0 := w) w.heap.size rfl (.tmp 23) (.tmp 25) 62 5 (.int .u8 0) 1 rfl Tryz.underlying62 Yqm rfl Zca Zk u3 aD (bt a0 aA) [.int .u8 (bt a0 aA)] (fun _ => True) (fun _ => False) rfl rfl ?aP (fun _ hk => hk.elim) ?aF ?aO ?aB ?aS ?aL ?_; (case aP => exact rfl); (case aB => exact Za); (case aF => exact (fun _ _ => trivial)); (case aO => exact Zm); (case aS => exact Kg); (case aL => have := vB.out; omega); intro aYb pN ho hb hg hat; rw [← aJo.out] at ho; replace HB := Ya.mk (hb); have aJp := Ya.mk (ho); clear HO_3; clear ho hb hg hat))
    go_roundg k1
    case measure => have := dB.out; omega
    case rel => exact ⟨(aJn), (wrap64 (aA + 1)), Zf, H', ⟨Zba⟩, ⟨by (with_reducible repeat (first | apply Kd.R_alloc | apply Kd.R_drewN | apply Kd.R_drew)); exact aJp.out⟩, ⟨Za⟩⟩
   rw [if_pos c6] at H
   have dN : decide ((bt a0 aA) ≤ 90) = true := Kr c6
   clear c6
   by_cases c7 : aD.length < 140737488355328
   rotate_left
   ·rw [if_neg c7] at H
    exact absurd H Zv
   rw [if_pos c7] at H
   have aVS := Ya.mk c7
   clear c7
   obtain ⟨aJq, tU⟩ : ∃ y_ : List Int, y_ = (aD ++ [((bt a0 aA) + 32) % 256]) := ⟨_, rfl⟩
   replace H : (Yfa.l0 k1 a0 aJq (wrap64 (aA + 1))) = some r := by first | (rw [tU]; with_reducible exact H) | (have dH := (Kfa _ _).symm.trans H; rw [tU]; with_reducible exact dH) | (have dH := (Kfa _ _).symm.trans H; with_reducible exact dH) | with_reducible exact H | (rw [tU]; exact H) | exact H
   have aJr := Ya.mk tU
   clear tU
   have H' := Ya.mk H
   clear H
   have p4 : (0 ≤ (aA : Int)) = True := Kp
   have q4 : aA < (a0.size : Int) := Kq Zc
   have jF := Ybb a0 aA
   replace q4 := Kt q4
   go_wp2_with (first | ((with_reducible refine Yje (b := .append) (xs := #[.tmp 23, .tmp 25]) rfl ?_); at_builtin; refine Kd.R_append (Kd.int .u8) (w0 := w) w.heap.size rfl (.tmp 23) (.tmp 25) 62 5 (.int .u8 0) 1 rfl Tryz.underlying62 Yqm rfl Zca Zk u3 aD (((bt a0 aA) + 32) % 256) [.int .u8 (((bt a0 aA) + 32) % 256)] (fun _ => True) (fun _ => False) rfl rfl ?aP (fun _ hk => hk.elim) ?aF ?aO ?aB ?aS ?aL ?_; (case aP => exact rfl); (case aB => exact Za); (case aF => exact (fun _ _ => trivial)); (case aO => exact Zm); (case aS => exact Kg); (case aL => have := aVS.out; omega); intro aYc w8 ho hb hg hat; rw [← aJr.out] at ho; replace HB := Ya.mk (hb); have aJs := Ya.mk (ho); clear HO_3; clear ho hb hg hat))
   go_roundg k1
   case measure => have := dB.out; omega
   case rel => exact ⟨(aJq), (wrap64 (aA + 1)), Zf, H', ⟨Zba⟩, ⟨by (with_reducible repeat (first | apply Kd.R_alloc | apply Kd.R_drewN | apply Kd.R_drew)); exact aJs.out⟩, ⟨Za⟩⟩
end Go.Proofs.YtnmglnglbdpjjaaGreatDoor.X
