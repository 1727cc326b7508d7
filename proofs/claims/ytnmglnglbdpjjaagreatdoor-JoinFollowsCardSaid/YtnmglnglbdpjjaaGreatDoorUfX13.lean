import Derived.Test.YtnmglnglbdpjjaaGreatDoorUfX12
set_option linter.all false
namespace Go.Proofs.YtnmglnglbdpjjaaGreatDoor.X
open Go.RowKit Go.Yw.PrintWords Go.Yw.PrintLast Go.Yw.PrintMore
attribute [local go_sem] Yfe Ybe Yre Yue Yld Ykd Yee Yde
set_option maxHeartbeats 8000000
set_option maxRecDepth 100000
mutual
def Yma.j0 : Nat → Y → Y → Bool → Option (Y × Y × Bool)
 | 0, _, _, _ => none
 | k + 1, x5, x6, x27 => if x27 = true then (some ((⟨#[]⟩ : Y), (⟨#[]⟩ : Y), false)) else (Yma.l0 k x5 x6 (x5.size : Int) 0)
def Yma.l0 : Nat → Y → Y → Int → Int → Option (Y × Y × Bool)
 | 0, _, _, _, _ => none
 | k + 1, x5, x6, x29, x30 => if x30 < x29 then (if 0 ≤ x30 then (if x30 < (x5.size : Int) then ((Ywa.f (bt x5 x30)).bind fun aGw => (if aGw = true then (Yma.l0 k x5 x6 x29 (wrap64 (x30 + 1))) else ((Yua.f (bt x5 x30)).bind fun aGx => (if aGx = true then (Yma.l0 k x5 x6 x29 (wrap64 (x30 + 1))) else ((strings_IndexByte.f (⟨#[43, 45, 46]⟩ : Y) (bt x5 x30)).bind fun vR => (if vR < 0 then (some ((⟨#[]⟩ : Y), (⟨#[]⟩ : Y), false)) else (Yma.l0 k x5 x6 x29 (wrap64 (x30 + 1))))))))) else (none)) else (none)) else (some (x5, x6, true))
end
def Yma.f (k : Nat) (a0 : Y) : Option (Y × Y × Bool) := (strings_Cut.f a0 (⟨#[58]⟩ : Y)).bind fun eJ => (if eJ.2.2 = true then (if eJ.1.toList = ([] : List UInt8) then (Yma.j0 k eJ.1 eJ.2.1 true) else (if 0 < (eJ.1.size : Int) then ((Ywa.f (bt eJ.1 0)).bind fun uK => (Yma.j0 k eJ.1 eJ.2.1 (!uK))) else (none))) else (Yma.j0 k eJ.1 eJ.2.1 true))
theorem Yma.calls (k : Nat) (a0 r1 r2 : Y) (r3 : Bool) (w : World) (hE : EnvOk w) (h : Yma.f k a0 = some (r1, r2, r3)) :
  Calls Tryz.prog 70 #[.string a0] w fun e w' => e = .returned (.tuple #[.string r1, .string r2, .bool r3]) ∧ Drawn0 w w' := by
 have HE := Ya.mk hE
 clear hE
 have H : ((strings_Cut.f a0 (⟨#[58]⟩ : Y)).bind fun eJ => (if eJ.2.2 = true then (if eJ.1.toList = ([] : List UInt8) then (Yma.j0 k eJ.1 eJ.2.1 true) else (if 0 < (eJ.1.size : Int) then ((Ywa.f (bt eJ.1 0)).bind fun uK => (Yma.j0 k eJ.1 eJ.2.1 (!uK))) else (none))) else (Yma.j0 k eJ.1 eJ.2.1 true))) = some (r1, r2, r3) := h
 clear h
 obtain ⟨⟨dA, aGy, aKm⟩, dW, H⟩ := Ku H
 try dsimp -simprocs only at H
 have A2 := Ya.mk dW
 clear dW
 have qN := Ya.mk H
 clear H
 go_enter Tryz.func70, Tryz.ntmps70
 go_upto_region 2 with (first | ((with_reducible refine Yh (f := 76) rfl ?_); refine Yca (some 12) rfl rfl Tryz.func76 Zi rfl #[.string a0, .string (⟨#[58]⟩ : Y)] rfl Zb ?_; (with_reducible refine (strings_Cut.calls a0 (⟨#[58]⟩ : Y) dA aGy aKm _ ?z1 A2.out).mono ?_); (case z1 => exact Kj); rintro e w' ⟨rfl, ⟨nd, rfl⟩⟩; refine ⟨_, rfl, ?_⟩))
 (try simp only [Act.put, Kca])
 go_cut [27] (fun v27 wc => ∃ (kq : Nat) (zK : Bool), v27 = .bool zK ∧ Ya (Yma.j0 kq dA aGy zK = some (r1, r2, r3)) ∧ Ya (kq ≤ k) ∧ Drawn0 w wc)
 case first =>
  have H := qN.out
  clear qN
  by_cases c4 : aKm = true
  rotate_left
  ·replace c4 := Kx c4
   subst c4
   rw [if_neg (show ¬ (false = true) by decide)] at H
   have H' := Ya.mk H
   clear H
   go_wp2
   go_meet
   case rel => exact ⟨_, (true), Zf, H', ⟨Zla⟩, Zh⟩
  subst c4
  rw [if_pos rfl] at H
  by_cases c5 : dA.toList = ([] : List UInt8)
  ·rw [if_pos c5] at H
   have dI : (dA.toList == ([] : List UInt8)) = true := Kba c5
   have qP : (dA.toList != ([] : List UInt8)) = false := Ky c5
   clear c5
   (first | rw [dI] | (simp only [Yaa, Yda]; rw [dI]) | skip)
   have H' := Ya.mk H
   clear H
   go_wp2
   go_meet
   case rel => exact ⟨_, (true), Zf, H', ⟨Zla⟩, Zh⟩
  rw [if_neg c5] at H
  have dI : (dA.toList == ([] : List UInt8)) = false := Kz c5
  have qP : (dA.toList != ([] : List UInt8)) = true := Kaa c5
  (first | rw [dI] | (simp only [Yaa, Yda]; rw [dI]) | skip)
  by_cases c6 : 0 < (dA.size : Int)
  rotate_left
  ·rw [if_neg c6] at H
   exact absurd H Zv
  rw [if_pos c6] at H
  have dN : decide (0 < (dA.size : Int)) = true := Kr c6
  have jB : decide (0 < dA.size) = true := Kr Zk
  clear c6
  obtain ⟨uK, wF, H⟩ := Ku H
  try dsimp -simprocs only at H
  have A8 := Ya.mk wF
  clear wF
  have H' := Ya.mk H
  clear H
  have p7 : 0 ≤ (0 : Int) := Zk
  have q7 : 0 < dA.size := (by have : (0 : Int) < (dA.size : Int) := Kq Zc; omega)
  have hx7 : ∀ h : 0 < dA.size, ((dA[0]'h).toNat : Int) = bt dA 0 := Ybb dA 0
  clear p7
  have qi7 : (0 < (dA.size : Int)) = True := Kt (Kq Zc)
  replace q7 := Kt q7
  go_wp2_with (first | (go_at_call 77; (with_reducible refine (Ywa.calls (bt dA 0) uK _ ?z1 A8.out).mono ?_); (case z1 => exact Kj); rintro e w' ⟨rfl, ⟨nd, rfl⟩⟩))
  go_meet
  case rel => exact ⟨_, (!uK), Zf, H', ⟨Zla⟩, Zh⟩
 case rest =>
  clear qN
  obtain ⟨kq, zK, rfl, HA, pL, ⟨mc2, rfl⟩⟩ := hcut
  cases kq with
  | zero => exact absurd HA.out (by simp [Yma.j0])
  | succ nG =>
   have H := HA.out
   clear HA
   simp only [Yma.j0] at H
   by_cases c9 : zK = true
   ·subst c9
    rw [if_pos rfl] at H
    simp only [Kda, Kea] at H
    obtain ⟨rfl, rfl, rfl⟩ := H
    go_wp2
    go_ret3
    exact ⟨Zf, Zh⟩
   replace c9 := Kx c9
   subst c9
   rw [if_neg (show ¬ (false = true) by decide)] at H
   have H' := Ya.mk H
   clear H
   go_wp2
   go_loopg [30] nG (fun kq v30 w' => ∃ (cF : Int), v30 = .int .i64 cF ∧ Ya (Yma.l0 kq dA aGy (dA.size : Int) cF = some (r1, r2, r3)) ∧ Ya (kq ≤ nG) ∧ Drawn0 w w')
   case atStart => exact ⟨(0), Zf, H', ⟨Kw _⟩, Zh⟩
   case round =>
    clear H'
    try clear c2
    try clear p2
    try clear c4
    try clear c5
    try clear dI
    try clear qP
    try clear c6
    try clear dN
    try clear jB
    try clear c7
    try clear p7
    try clear q7
    try clear hx7
    try clear qi7
    try clear c9
    try clear p2
    try clear p7
    try clear q7
    obtain ⟨cF, rfl, HA, jX, ⟨m2, rfl⟩⟩ := hrel
    cases gk with
    | zero => exact absurd HA.out (by simp [Yma.l0])
    | succ k2 =>
     have H := HA.out
     clear HA
     simp only [Yma.l0] at H
     by_cases dP : cF < (dA.size : Int)
     rotate_left
     ·rw [if_neg dP] at H
      have hD : decide (cF < (dA.size : Int)) = false := Ks dP
      clear dP
      simp only [Kda, Kea] at H
      obtain ⟨rfl, rfl, rfl⟩ := H
      go_wp2
      go_ret3
      exact ⟨Zf, Zh⟩
     rw [if_pos dP] at H
     have hD : decide (cF < (dA.size : Int)) = true := Kr dP
     clear dP
     by_cases c11 : 0 ≤ cF
     rotate_left
     ·rw [if_neg c11] at H
      exact absurd H Zv
     rw [if_pos c11] at H
     have gT : decide (0 ≤ cF) = true := Kr c11
     clear c11
     by_cases dD : cF < (dA.size : Int)
     rotate_left
     ·rw [if_neg dD] at H
      exact absurd H Zv
     rw [if_pos dD] at H
     have dS : decide (cF < (dA.size : Int)) = true := Kr dD
     clear dD
     obtain ⟨aGw, aBw, H⟩ := Ku H
     try dsimp -simprocs only at H
     have A14 := Ya.mk aBw
     clear aBw
     by_cases dG : aGw = true
     ·subst dG
      rw [if_pos rfl] at H
      have H' := Ya.mk H
      clear H
      have mL : (0 ≤ (cF : Int)) = True := Kp
      have mM : cF < (dA.size : Int) := Kq Zc
      have sZ := Ybb dA cF
      replace mM := Kt mM
      go_wp2_with (first | ((with_reducible refine Yh (f := 77) rfl ?_); refine Yca (some 37) rfl rfl Tryz.func77 Zi rfl #[.int .u8 (bt dA cF)] rfl Zb ?_; (with_reducible refine (Ywa.calls (bt dA cF) true _ ?z1 A14.out).mono ?_); (case z1 => exact Kj); rintro e w' ⟨rfl, ⟨nd, rfl⟩⟩; refine ⟨_, rfl, ?_⟩))
      go_roundg k2
      case measure => have := pL.out; have := jX.out; omega
      case rel => exact ⟨(wrap64 (cF + 1)), Zf, H', ⟨Zva⟩, Zh⟩
     replace dG := Kx dG
     subst dG
     rw [if_neg (show ¬ (false = true) by decide)] at H
     obtain ⟨aGx, sW, H⟩ := Ku H
     try dsimp -simprocs only at H
     have A16 := Ya.mk sW
     clear sW
     by_cases eG : aGx = true
     ·subst eG
      rw [if_pos rfl] at H
      have H' := Ya.mk H
      clear H
      have mL : (0 ≤ (cF : Int)) = True := Kp
      have mM : cF < (dA.size : Int) := Kq Zc
      have sZ := Ybb dA cF
      replace mM := Kt mM
      go_wp2_with (first | ((with_reducible refine Yh (f := 77) rfl ?_); refine Yca (some 37) rfl rfl Tryz.func77 Zi rfl #[.int .u8 (bt dA cF)] rfl Zb ?_; (with_reducible refine (Ywa.calls (bt dA cF) false _ ?z1 A14.out).mono ?_); (case z1 => exact Kj); rintro e w' ⟨rfl, ⟨nd, rfl⟩⟩; refine ⟨_, rfl, ?_⟩) | (go_at_call 78; (with_reducible refine (Yua.calls (bt dA cF) true _ ?z1 A16.out).mono ?_); (case z1 => exact Kj); rintro e w' ⟨rfl, ⟨nd, rfl⟩⟩))
      go_roundg k2
      case measure => have := pL.out; have := jX.out; omega
      case rel => exact ⟨(wrap64 (cF + 1)), Zf, H', ⟨Zva⟩, Zh⟩
     replace eG := Kx eG
     subst eG
     rw [if_neg (show ¬ (false = true) by decide)] at H
     obtain ⟨vR, aCw, H⟩ := Ku H
     try dsimp -simprocs only at H
     have A18 := Ya.mk aCw
     clear aCw
     by_cases iK : vR < 0
     ·rw [if_pos iK] at H
      have kD : decide (vR < 0) = true := Kr iK
      clear iK
      simp only [Kda, Kea] at H
      obtain ⟨rfl, rfl, rfl⟩ := H
      have mL : (0 ≤ (cF : Int)) = True := Kp
      have mM : cF < (dA.size : Int) := Kq Zc
      have sZ := Ybb dA cF
      replace mM := Kt mM
      go_wp2_with (first | ((with_reducible refine Yh (f := 77) rfl ?_); refine Yca (some 37) rfl rfl Tryz.func77 Zi rfl #[.int .u8 (bt dA cF)] rfl Zb ?_; (with_reducible refine (Ywa.calls (bt dA cF) false _ ?z1 A14.out).mono ?_); (case z1 => exact Kj); rintro e w' ⟨rfl, ⟨nd, rfl⟩⟩; refine ⟨_, rfl, ?_⟩) | (go_at_call 78; (with_reducible refine (Yua.calls (bt dA cF) false _ ?z1 A16.out).mono ?_); (case z1 => exact Kj); rintro e w' ⟨rfl, ⟨nd, rfl⟩⟩) | (go_at_call 79; (with_reducible refine (strings_IndexByte.calls (⟨#[43, 45, 46]⟩ : Y) (bt dA cF) vR _ ?z1 A18.out).mono ?_); (case z1 => exact Kj); rintro e w' ⟨rfl, ⟨nd, rfl⟩⟩))
      go_ret3
      exact ⟨Zf, Zh⟩
     rw [if_neg iK] at H
     have kD : decide (vR < 0) = false := Ks iK
     clear iK
     have H' := Ya.mk H
     clear H
     have mL : (0 ≤ (cF : Int)) = True := Kp
     have mM : cF < (dA.size : Int) := Kq Zc
     have sZ := Ybb dA cF
     replace mM := Kt mM
     go_wp2_with (first | ((with_reducible refine Yh (f := 77) rfl ?_); refine Yca (some 37) rfl rfl Tryz.func77 Zi rfl #[.int .u8 (bt dA cF)] rfl Zb ?_; (with_reducible refine (Ywa.calls (bt dA cF) false _ ?z1 A14.out).mono ?_); (case z1 => exact Kj); rintro e w' ⟨rfl, ⟨nd, rfl⟩⟩; refine ⟨_, rfl, ?_⟩) | (go_at_call 78; (with_reducible refine (Yua.calls (bt dA cF) false _ ?z1 A16.out).mono ?_); (case z1 => exact Kj); rintro e w' ⟨rfl, ⟨nd, rfl⟩⟩) | (go_at_call 79; (with_reducible refine (strings_IndexByte.calls (⟨#[43, 45, 46]⟩ : Y) (bt dA cF) vR _ ?z1 A18.out).mono ?_); (case z1 => exact Kj); rintro e w' ⟨rfl, ⟨nd, rfl⟩⟩))
     go_roundg k2
     case measure => have := pL.out; have := jX.out; omega
     case rel => exact ⟨(wrap64 (cF + 1)), Zf, H', ⟨Zva⟩, Zh⟩
def Yub.l0 : Nat → Y → Int → Option (Int)
 | 0, _, _ => none
 | k + 1, x0, x3 => if x3 < (mn (x0.size : Int) 2) then (if 0 ≤ x3 then (if x3 < (x0.size : Int) then ((strings_IndexByte.f (⟨#[47, 92]⟩ : Y) (bt x0 x3)).bind fun sG => (if sG ≥ 0 then (Yub.l0 k x0 (wrap64 (x3 + 1))) else (some x3))) else (none)) else (none)) else (some x3)
def Yub.f (k : Nat) (a0 : Y) : Option (Int) := Yub.l0 k a0 0
theorem Yub.calls (k : Nat) (a0 : Y) (r : Int) (w : World) (hE : EnvOk w) (h : Yub.f k a0 = some r) :
  Calls Tryz.prog 71 #[.string a0] w fun e w' => e = .returned (.int .i64 r) ∧ Below w.heap.size w w' := by
 have HE := Ya.mk hE
 clear hE
 have HB := Ya.mk (Below.refl w.heap.size w)
 have H : (Yub.l0 k a0 0) = some r := h
 clear h
 have H' := Ya.mk H
 clear H
 go_enter Tryz.func71, Tryz.ntmps71
 go_wp2
 go_loopg [3] k (fun kq v3 w' => ∃ (aD : Int), v3 = .int .i64 aD ∧ Ya (Yub.l0 kq a0 aD = some r) ∧ Ya (kq ≤ k) ∧ Ya (Below w.heap.size w w'))
 case atStart => exact ⟨(0), Zf, H', ⟨Kw _⟩, ⟨Za⟩⟩
 case round =>
  clear H'
  obtain ⟨aD, rfl, HA, dB, HB⟩ := hrel
  cases gk with
  | zero => exact absurd HA.out (by simp [Yub.l0])
  | succ k1 =>
   have H := HA.out
   clear HA
   simp only [Yub.l0] at H
   obtain ⟨ji2, aCx⟩ : ∃ j_ : Int, (mn (a0.size : Int) 2) = j_ := ⟨_, rfl⟩
   replace H : (if aD < (ji2) then (if 0 ≤ aD then (if aD < (a0.size : Int) then ((strings_IndexByte.f (⟨#[47, 92]⟩ : Y) (bt a0 aD)).bind fun sG => (if sG ≥ 0 then (Yub.l0 k1 a0 (wrap64 (aD + 1))) else (some aD))) else (none)) else (none)) else (some aD)) = some r := by first | (rw [aCx] at H; exact H) | (simp only [aCx] at H ⊢; exact H)
   have aXy : (if 2 < (a0.size : Int) then 2 else (a0.size : Int)) = ji2 := aCx
   by_cases c3 : aD < (ji2)
   rotate_left
   ·rw [if_neg c3] at H
    have cC : decide (aD < (ji2)) = false := Ks c3
    clear c3
    obtain rfl := Kv H
    go_wp2
    go_ret
    exact ⟨by first | rfl | (simp [Yk, Yl] <;> rfl) | (simp only [← aCx]; first | rfl | (simp [Yk, Yl] <;> rfl)) | (simp [*, Yk, Yl] <;> rfl), Za⟩
   rw [if_pos c3] at H
   have cC : decide (aD < (ji2)) = true := Kr c3
   clear c3
   by_cases c4 : 0 ≤ aD
   rotate_left
   ·rw [if_neg c4] at H
    exact absurd H Zv
   rw [if_pos c4] at H
   have bX : decide (0 ≤ aD) = true := Kr c4
   clear c4
   by_cases c5 : aD < (a0.size : Int)
   rotate_left
   ·rw [if_neg c5] at H
    exact absurd H Zv
   rw [if_pos c5] at H
   have dI : decide (aD < (a0.size : Int)) = true := Kr c5
   clear c5
   obtain ⟨sG, oA, H⟩ := Ku H
   try dsimp -simprocs only at H
   have A7 := Ya.mk oA
   clear oA
   by_cases c8 : sG ≥ 0
   rotate_left
   ·rw [if_neg c8] at H
    have gS : decide (0 ≤ sG) = false := Ks c8
    clear c8
    obtain rfl := Kv H
    have p6 : (0 ≤ (aD : Int)) = True := Kp
    have q6 : aD < (a0.size : Int) := Kq Zc
    have hx6 := Ybb a0 aD
    replace q6 := Kt q6
    go_wp2_with (first | (go_at_call 79; (with_reducible refine (strings_IndexByte.calls (⟨#[47, 92]⟩ : Y) (bt a0 aD) sG _ ?z1 A7.out).mono ?_); (case z1 => exact Kh); rintro e w' ⟨rfl, ⟨nd, rfl⟩⟩))
    go_ret
    exact ⟨by first | rfl | (simp [Yk, Yl] <;> rfl) | (simp only [← aCx]; first | rfl | (simp [Yk, Yl] <;> rfl)) | (simp [*, Yk, Yl] <;> rfl), Za⟩
   rw [if_pos c8] at H
   have gS : decide (0 ≤ sG) = true := Kr c8
   clear c8
   have H' := Ya.mk H
   clear H
   have p6 : (0 ≤ (aD : Int)) = True := Kp
   have q6 : aD < (a0.size : Int) := Kq Zc
   have hx6 := Ybb a0 aD
   replace q6 := Kt q6
   go_wp2_with (first | (go_at_call 79; (with_reducible refine (strings_IndexByte.calls (⟨#[47, 92]⟩ : Y) (bt a0 aD) sG _ ?z1 A7.out).mono ?_); (case z1 => exact Kh); rintro e w' ⟨rfl, ⟨nd, rfl⟩⟩))
   go_roundg k1
   case measure => have := dB.out; omega
   case rel => exact ⟨(wrap64 (aD + 1)), Zf, H', ⟨Zba⟩, ⟨Za⟩⟩
def bytealg_LastIndexByteString.l0 : Nat → Y → Int → Int → Option (Int)
 | 0, _, _, _ => none
 | k + 1, x0, x1, x5 => if x5 ≥ 0 then (if 0 ≤ x5 then (if x5 < (x0.size : Int) then (if (bt x0 x5) = x1 then (some x5) else (bytealg_LastIndexByteString.l0 k x0 x1 (wrap64 (x5 - 1)))) else (none)) else (none)) else (some (-1))
def bytealg_LastIndexByteString.f (k : Nat) (a0 : Y) (a1 : Int) : Option (Int) := bytealg_LastIndexByteString.l0 k a0 a1 (wrap64 ((a0.size : Int) - 1))
theorem bytealg_LastIndexByteString.calls (k : Nat) (a0 : Y) (a1 r : Int) (w : World) (hE : EnvOk w) (h : bytealg_LastIndexByteString.f k a0 a1 = some r) :
  Calls Tryz.prog 133 #[.string a0, .int .u8 a1] w fun e w' => e = .returned (.int .i64 r) ∧ Drawn0 w w' := by
 have HE := Ya.mk hE
 clear hE
 have H : (bytealg_LastIndexByteString.l0 k a0 a1 (wrap64 ((a0.size : Int) - 1))) = some r := h
 clear h
 have H' := Ya.mk H
 clear H
 go_enter Tryz.func133, Tryz.ntmps133
 go_wp2
 go_loopg [5] k (fun kq v5 w' => ∃ (bA : Int), v5 = .int .i64 bA ∧ Ya (bytealg_LastIndexByteString.l0 kq a0 a1 bA = some r) ∧ Ya (kq ≤ k) ∧ Drawn0 w w')
 case atStart => exact ⟨(wrap64 ((a0.size : Int) - 1)), Zf, H', ⟨Kw _⟩, Zh⟩
 case round =>
  clear H'
  try clear c1
  try clear p2
  obtain ⟨bA, rfl, HA, dB, ⟨m1, rfl⟩⟩ := hrel
  cases gk with
  | zero => exact absurd HA.out (by simp [bytealg_LastIndexByteString.l0])
  | succ k1 =>
   have H := HA.out
   clear HA
   simp only [bytealg_LastIndexByteString.l0] at H
   by_cases c3 : bA ≥ 0
   rotate_left
   ·rw [if_neg c3] at H
    have cC : decide (0 ≤ bA) = false := Ks c3
    clear c3
    obtain rfl := Kv H
    go_wp2
    go_ret
    exact ⟨Zf, Zh⟩
   rw [if_pos c3] at H
   have cC : decide (0 ≤ bA) = true := Kr c3
   clear c3
   by_cases c4 : 0 ≤ bA
   rotate_left
   ·rw [if_neg c4] at H
    exact absurd H Zv
   rw [if_pos c4] at H
   have bX : decide (0 ≤ bA) = true := Kr c4
   clear c4
   by_cases c5 : bA < (a0.size : Int)
   rotate_left
   ·rw [if_neg c5] at H
    exact absurd H Zv
   rw [if_pos c5] at H
   have dI : decide (bA < (a0.size : Int)) = true := Kr c5
   clear c5
   by_cases c7 : (bt a0 bA) = a1
   ·rw [if_pos c7] at H
    have cW : ((bt a0 bA) == a1) = true := Kba c7
    have iD : ((bt a0 bA) != a1) = false := Ky c7
    clear c7
    obtain rfl := Kv H
    have p6 : (0 ≤ (bA : Int)) = True := Kp
    have q6 : bA < (a0.size : Int) := Kq Zc
    have hx6 := Ybb a0 bA
    replace q6 := Kt q6
    go_wp2
    go_ret
    exact ⟨Zf, Zh⟩
   rw [if_neg c7] at H
   have cW : ((bt a0 bA) == a1) = false := Kz c7
   have iD : ((bt a0 bA) != a1) = true := Kaa c7
   have H' := Ya.mk H
   clear H
   have p6 : (0 ≤ (bA : Int)) = True := Kp
   have q6 : bA < (a0.size : Int) := Kq Zc
   have hx6 := Ybb a0 bA
   replace q6 := Kt q6
   go_wp2
   go_roundg k1
   case measure => have := dB.out; omega
   case rel => exact ⟨(wrap64 (bA - 1)), Zf, H', ⟨Zba⟩, Zh⟩
def strings_LastIndexByte.f (k : Nat) (a0 : Y) (a1 : Int) : Option (Int) := (bytealg_LastIndexByteString.f k a0 a1).bind fun aCy => (some aCy)
theorem strings_LastIndexByte.calls (k : Nat) (a0 : Y) (a1 r : Int) (w : World) (hE : EnvOk w) (h : strings_LastIndexByte.f k a0 a1 = some r) :
  Calls Tryz.prog 108 #[.string a0, .int .u8 a1] w fun e w' => e = .returned (.int .i64 r) ∧ Drawn0 w w' := by
 have HE := Ya.mk hE
 clear hE
 have H : ((bytealg_LastIndexByteString.f k a0 a1).bind fun aCy => (some aCy)) = some r := h
 clear h
 obtain ⟨aCy, jC, H⟩ := Ku H
 try dsimp -simprocs only at H
 have A3 := Ya.mk jC
 clear jC
 obtain rfl := Kv H
 go_enter Tryz.func108, Tryz.ntmps108
 go_wp2_with (first | ((with_reducible refine Yh (f := 133) rfl ?_); refine Yca (some 7) rfl rfl Tryz.func133 Zi rfl #[.string a0, .int .u8 a1] rfl Zb ?_; (with_reducible refine (bytealg_LastIndexByteString.calls k a0 a1 aCy _ ?z1 A3.out).mono ?_); (case z1 => exact Kj); rintro e w' ⟨rfl, ⟨nd, rfl⟩⟩; refine ⟨_, rfl, ?_⟩))
 go_ret
 exact ⟨Zf, Zh⟩
def Ylm.f (k : Nat) (aE aJ : Y) (aN : Int) (aG aM aK : Y) (aU aV : Bool) : Option (Y) := (Ygj.f aE aJ aN aG aM aK aU aV).bind fun gL => ((Yid.f k gL.1 gL.2.1 gL.2.2.1 gL.2.2.2.1 gL.2.2.2.2.1 gL.2.2.2.2.2.1 gL.2.2.2.2.2.2.1 gL.2.2.2.2.2.2.2).bind fun aCz => (some aCz))
theorem Ylm.calls (k : Nat) (aE aJ : Y) (aN : Int) (aG aM aK : Y) (aU aV : Bool) (r : Y) (w : World) (hE : EnvOk w) (h : Ylm.f k aE aJ aN aG aM aK aU aV = some r) :
  Calls Tryz.prog 36 #[.agg #[.string aE, .string aJ, .int .i64 aN, .string aG, .string aM, .string aK, .bool aU, .bool aV]] w fun e w' => e = .returned (.string r) ∧ Below w.heap.size w w' := by
 have bQ := Tryz.underlying25
 have HE := Ya.mk hE
 clear hE
 have HB := Ya.mk (Below.refl w.heap.size w)
 have H : ((Ygj.f aE aJ aN aG aM aK aU aV).bind fun gL => ((Yid.f k gL.1 gL.2.1 gL.2.2.1 gL.2.2.2.1 gL.2.2.2.2.1 gL.2.2.2.2.2.1 gL.2.2.2.2.2.2.1 gL.2.2.2.2.2.2.2).bind fun aCz => (some aCz))) = some r := h
 clear h
 obtain ⟨⟨aGz, aGA, aGB, aGC, aGD, aGE, aGF, aGG⟩, dW, H⟩ := Ku H
 try dsimp -simprocs only at H
 have A2 := Ya.mk dW
 clear dW
 obtain ⟨aCz, jC, H⟩ := Ku H
 try dsimp -simprocs only at H
 have A3 := Ya.mk jC
 clear jC
 obtain rfl := Kv H
 go_enter Tryz.func36, Tryz.ntmps36
 go_wp2_with (first | ((with_reducible refine Ybd (N := 1) rfl ?_); refine Yzc ?hg (N := 1) ?hd (cs := #[.string aE, .string aJ, .int .i64 aN, .string aG, .string aM, .string aK, .bool aU, .bool aV]) (t := 25) ?hr ?_; (case hd => rfl); (case hg => rfl); (case hr => first | (go_simp; done) | (go_simp; rfl)); intro iW hg w4 hbox hb; have aH := Ya.mk (Yt Za hb); have aR := Ya.mk (hbox); have bK := Ya.mk ((by rw [hg]; exact (Yka Za) : w.heap.size ≤ iW)); have dM := Ya.mk ((by rw [hg]; exact (Yka Za) : w.heap.size ≤ iW)); clear HB; have HB := aH; have eD := aR; have aXz := bK; have aHo := dM; clear aH aR bK dM; clear hb hbox hg; obtain ⟨aCc, aCd, aCe, aCf, aCg, aCh, aCi, aCj, aCk, aCl, aCm, aCn, aCo, aCp, aCq, aCr⟩ := Ka eD.out) | ((with_reducible refine Yh (f := 28) rfl ?_); refine Yca (some 4) rfl rfl Tryz.func28 Zi rfl #[.agg #[.string aE, .string aJ, .int .i64 aN, .string aG, .string aM, .string aK, .bool aU, .bool aV]] rfl Zb ?_; (with_reducible refine (Ygj.calls aE aJ aN aG aM aK aU aV aGz aGA aGB aGC aGD aGE aGF aGG _ ?z1 A2.out).mono ?_); (case z1 => first | exact HE.out | exact EnvOk.below HE.out Zha); rintro e w6 ⟨rfl, hb⟩; refine ⟨_, rfl, ?_⟩; have aH := Ya.mk (Ykb (g := iW) (o := .cells #[.string aE, .string aJ, .int .i64 aN, .string aG, .string aM, .string aK, .bool aU, .bool aV] 25 (0, 0)) (by (with_reducible repeat (first | refine Yi ?_ _ | refine Yp ?_ | refine Ym ?_ _)); exact eD.out) hb); have aR := Ya.mk (Yt Zha hb); clear eD; clear HB; have eD := aH; have HB := aR; clear aH aR; (try clear hb)) | ((with_reducible refine Yh (f := 26) rfl ?_); refine Yca (some 5) rfl rfl Tryz.func26 Zi rfl #[.agg #[.string aGz, .string aGA, .int .i64 aGB, .string aGC, .string aGD, .string aGE, .bool aGF, .bool aGG]] rfl Zb ?_; (with_reducible refine (Yid.calls k aGz aGA aGB aGC aGD aGE aGF aGG aCz _ ?z1 A3.out).mono ?_); (case z1 => first | exact HE.out | exact EnvOk.below HE.out Zha); rintro e w7 ⟨rfl, hb⟩; refine ⟨_, rfl, ?_⟩; have aH := Ya.mk (Ykb (g := iW) (o := .cells #[.string aE, .string aJ, .int .i64 aN, .string aG, .string aM, .string aK, .bool aU, .bool aV] 25 (0, 0)) (by (with_reducible repeat (first | refine Yi ?_ _ | refine Yp ?_ | refine Ym ?_ _)); exact eD.out) hb); have aR := Ya.mk (Yt Zha hb); clear eD; clear HB; have eD := aH; have HB := aR; clear aH aR; (try clear hb)))
 go_ret
 exact ⟨Zl, Zha⟩
def Yuh.f  : Option (Y × Y × Int × Y × Y × Y × Bool × Bool) := some ((⟨#[104, 116, 116, 112]⟩ : Y), (⟨#[97, 46, 98]⟩ : Y), 0, (⟨#[47, 99, 47, 100]⟩ : Y), (⟨#[101]⟩ : Y), (⟨#[]⟩ : Y), true, false)
theorem Yuh.calls  (r1 r2 : Y) (r3 : Int) (r4 r5 r6 : Y) (r7 r8 : Bool) (w : World) (hE : EnvOk w) (h : Yuh.f  = some (r1, r2, r3, r4, r5, r6, r7, r8)) :
  Calls Tryz.prog 69 #[] w fun e w' => e = .returned (.agg #[.string r1, .string r2, .int .i64 r3, .string r4, .string r5, .string r6, .bool r7, .bool r8]) ∧ Below w.heap.size w w' := by
 have bQ := Tryz.underlying25
 have HE := Ya.mk hE
 clear hE
 have HB := Ya.mk (Below.refl w.heap.size w)
 have H : (some ((⟨#[104, 116, 116, 112]⟩ : Y), (⟨#[97, 46, 98]⟩ : Y), 0, (⟨#[47, 99, 47, 100]⟩ : Y), (⟨#[101]⟩ : Y), (⟨#[]⟩ : Y), true, false)) = some (r1, r2, r3, r4, r5, r6, r7, r8) := h
 clear h
 simp only [Kda, Kea] at H
 obtain ⟨rfl, rfl, rfl, rfl, rfl, rfl, rfl, rfl⟩ := H
 go_enter Tryz.func69, Tryz.ntmps69
 go_wp2_with (first | ((with_reducible refine Ybd (N := 0) rfl ?_); refine Yzc ?hg (N := 0) ?hd (cs := #[.string (⟨#[]⟩ : Y), .string (⟨#[]⟩ : Y), .int .i64 0, .string (⟨#[]⟩ : Y), .string (⟨#[]⟩ : Y), .string (⟨#[]⟩ : Y), .bool false, .bool false]) (t := 25) ?hr ?_; (case hd => rfl); (case hg => rfl); (case hr => first | (go_simp; done) | (go_simp; rfl)); intro jE hg w1 hbox hb; have aH := Ya.mk (Yt Za hb); have aR := Ya.mk (hbox); have bK := Ya.mk ((by rw [hg]; exact (Yka Za) : w.heap.size ≤ jE)); have dM := Ya.mk ((by rw [hg]; exact (Yka Za) : w.heap.size ≤ jE)); clear HB; have HB := aH; have gM := aR; have aXA := bK; have aKn := dM; clear aH aR bK dM; clear hb hbox hg; obtain ⟨aWn, aWo, aWp, aWq, aWr, aWs, aWt, aWu, aWv, aWw, aWx, aWy, aWz, aWA, aWB, aWC⟩ := Ka gM.out))
 refine bodyPost_ret (results_cell_row rfl _ _ jE 25 #[.string (⟨#[104, 116, 116, 112]⟩ : Y), .string (⟨#[97, 46, 98]⟩ : Y), .int .i64 0, .string (⟨#[47, 99, 47, 100]⟩ : Y), .string (⟨#[101]⟩ : Y), .string (⟨#[]⟩ : Y), .bool true, .bool false] (0, 0) _ rfl (by (with_reducible repeat (first | refine Yi ?_ _ | refine Yp ?_ | refine Ym ?_ _)); refine Yoa (cs := #[.string (⟨#[104, 116, 116, 112]⟩ : Y), .string (⟨#[97, 46, 98]⟩ : Y), .int .i64 0, .string (⟨#[47, 99, 47, 100]⟩ : Y), .string (⟨#[101]⟩ : Y), .string (⟨#[]⟩ : Y), .bool true, .bool false]) ?_ 7 _ rfl; (with_reducible repeat (first | refine Yi ?_ _ | refine Yp ?_ | refine Ym ?_ _)); refine Yoa (cs := #[.string (⟨#[104, 116, 116, 112]⟩ : Y), .string (⟨#[97, 46, 98]⟩ : Y), .int .i64 0, .string (⟨#[47, 99, 47, 100]⟩ : Y), .string (⟨#[101]⟩ : Y), .string (⟨#[]⟩ : Y), .bool false, .bool false]) ?_ 6 _ rfl; (with_reducible repeat (first | refine Yi ?_ _ | refine Yp ?_ | refine Ym ?_ _)); refine Yoa (cs := #[.string (⟨#[104, 116, 116, 112]⟩ : Y), .string (⟨#[97, 46, 98]⟩ : Y), .int .i64 0, .string (⟨#[47, 99, 47, 100]⟩ : Y), .string (⟨#[101]⟩ : Y), .string (⟨#[]⟩ : Y), .bool false, .bool false]) ?_ 5 _ rfl; (with_reducible repeat (first | refine Yi ?_ _ | refine Yp ?_ | refine Ym ?_ _)); refine Yoa (cs := #[.string (⟨#[104, 116, 116, 112]⟩ : Y), .string (⟨#[97, 46, 98]⟩ : Y), .int .i64 0, .string (⟨#[47, 99, 47, 100]⟩ : Y), .string (⟨#[]⟩ : Y), .string (⟨#[]⟩ : Y), .bool false, .bool false]) ?_ 4 _ rfl; (with_reducible repeat (first | refine Yi ?_ _ | refine Yp ?_ | refine Ym ?_ _)); refine Yoa (cs := #[.string (⟨#[104, 116, 116, 112]⟩ : Y), .string (⟨#[97, 46, 98]⟩ : Y), .int .i64 0, .string (⟨#[]⟩ : Y), .string (⟨#[]⟩ : Y), .string (⟨#[]⟩ : Y), .bool false, .bool false]) ?_ 3 _ rfl; (with_reducible repeat (first | refine Yi ?_ _ | refine Yp ?_ | refine Ym ?_ _)); refine Yoa (cs := #[.string (⟨#[104, 116, 116, 112]⟩ : Y), .string (⟨#[97, 46, 98]⟩ : Y), .int .i64 0, .string (⟨#[]⟩ : Y), .string (⟨#[]⟩ : Y), .string (⟨#[]⟩ : Y), .bool false, .bool false]) ?_ 2 _ rfl; (with_reducible repeat (first | refine Yi ?_ _ | refine Yp ?_ | refine Ym ?_ _)); refine Yoa (cs := #[.string (⟨#[104, 116, 116, 112]⟩ : Y), .string (⟨#[]⟩ : Y), .int .i64 0, .string (⟨#[]⟩ : Y), .string (⟨#[]⟩ : Y), .string (⟨#[]⟩ : Y), .bool false, .bool false]) ?_ 1 _ rfl; (with_reducible repeat (first | refine Yi ?_ _ | refine Yp ?_ | refine Ym ?_ _)); refine Yoa (cs := #[.string (⟨#[]⟩ : Y), .string (⟨#[]⟩ : Y), .int .i64 0, .string (⟨#[]⟩ : Y), .string (⟨#[]⟩ : Y), .string (⟨#[]⟩ : Y), .bool false, .bool false]) ?_ 0 _ rfl; (with_reducible repeat (first | refine Yi ?_ _ | refine Yp ?_ | refine Ym ?_ _)); exact gM.out) Tryz.underlying25 rfl Zi) rfl ?_
 exact ⟨Zl, by repeat (first | (with_reducible first | exact HB.out | apply Yd | apply Yb | apply Yc | refine Yg ?_ aKn.out) | exact HB.out)⟩
def Ypa.f (a0 : Y) : Option (Bool) := if a0.toList = ([] : List UInt8) then (some false) else (if 0 < (a0.size : Int) then ((Yab.f (bt a0 0)).bind fun aCA => (some aCA)) else (none))
theorem Ypa.calls (a0 : Y) (r : Bool) (w : World) (hE : EnvOk w) (h : Ypa.f a0 = some r) :
  Calls Tryz.prog 75 #[.string a0] w fun e w' => e = .returned (.bool r) ∧ Drawn0 w w' := by
 have HE := Ya.mk hE
 clear hE
 have H : (if a0.toList = ([] : List UInt8) then (some false) else (if 0 < (a0.size : Int) then ((Yab.f (bt a0 0)).bind fun aCA => (some aCA)) else (none))) = some r := h
 clear h
 by_cases c2 : a0.toList = ([] : List UInt8)
 ·rw [if_pos c2] at H
  have eS : (a0.toList == ([] : List UInt8)) = true := Kba c2
  have kC : (a0.toList != ([] : List UInt8)) = false := Ky c2
  clear c2
  obtain rfl := Kv H
  go_enter Tryz.func75, Tryz.ntmps75
  go_wp2
  go_ret
  exact ⟨Zf, Zh⟩
 rw [if_neg c2] at H
 have eS : (a0.toList == ([] : List UInt8)) = false := Kz c2
 have kC : (a0.toList != ([] : List UInt8)) = true := Kaa c2
 by_cases c3 : 0 < (a0.size : Int)
 rotate_left
 ·rw [if_neg c3] at H
  exact absurd H Zv
 rw [if_pos c3] at H
 have cC : decide (0 < (a0.size : Int)) = true := Kr c3
 have fX : decide (0 < a0.size) = true := Kr Zk
 clear c3
 obtain ⟨aCA, tH, H⟩ := Ku H
 try dsimp -simprocs only at H
 have A5 := Ya.mk tH
 clear tH
 obtain rfl := Kv H
 have p4 : 0 ≤ (0 : Int) := Zk
 have q4 : 0 < a0.size := (by have : (0 : Int) < (a0.size : Int) := Kq Zc; omega)
 have jF : ∀ h : 0 < a0.size, ((a0[0]'h).toNat : Int) = bt a0 0 := Ybb a0 0
 clear p4
 have tV : (0 < (a0.size : Int)) = True := Kt (Kq Zc)
 replace q4 := Kt q4
 go_enter Tryz.func75, Tryz.ntmps75
 go_wp2_with (first | (go_at_call 48; (with_reducible refine (Yab.calls (bt a0 0) aCA _ ?z1 A5.out).mono ?_); (case z1 => exact Kj); rintro e w' ⟨rfl, ⟨nd, rfl⟩⟩))
 go_ret
 exact ⟨Zf, Zh⟩
end Go.Proofs.YtnmglnglbdpjjaaGreatDoor.X
