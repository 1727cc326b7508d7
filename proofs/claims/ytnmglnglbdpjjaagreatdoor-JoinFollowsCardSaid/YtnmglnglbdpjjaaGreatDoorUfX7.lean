import Derived.Test.YtnmglnglbdpjjaaGreatDoorUfX6
set_option linter.all false
namespace Go.Proofs.YtnmglnglbdpjjaaGreatDoor.X
open Go.RowKit Go.Yw.PrintWords Go.Yw.PrintLast Go.Yw.PrintMore
attribute [local go_sem] Yfe Ybe Yre Yue Yld Ykd Yee Yde
set_option maxHeartbeats 8000000
set_option maxRecDepth 100000
def Yfb.l0 : Nat → Y → Int → Option (Int)
 | 0, _, _ => none
 | k + 1, x0, x3 => if (x0.size : Int) > 0 then (if 0 < (x0.size : Int) then (if (bt x0 0) = 46 then (if 1 ≤ (x0.size : Int) then (Yfb.l0 k (x0.extract 1 x0.size) (wrap64 (x3 + 1))) else (none)) else (if (x0.size : Int) > 2 then (if 0 ≤ 3 then (if 3 ≤ (x0.size : Int) then ((Yfa.f k (x0.extract 0 3)).bind fun lD => (if lD.toList = ([37, 50, 101] : List UInt8) then (Yfb.l0 k (x0.extract 3 x0.size) (wrap64 (x3 + 1))) else (some 0))) else (none)) else (none)) else (some 0))) else (none)) else (if x3 > 2 then (some 0) else (some x3))
def Yfb.f (k : Nat) (a0 : Y) : Option (Int) := Yfb.l0 k a0 0
theorem Yfb.calls (k : Nat) (a0 : Y) (r : Int) (w : World) (hE : EnvOk w) (h : Yfb.f k a0 = some r) :
  Calls Tryz.prog 65 #[.string a0] w fun e w' => e = .returned (.int .i64 r) ∧ Below w.heap.size w w' := by
 have HE := Ya.mk hE
 clear hE
 have HB := Ya.mk (Below.refl w.heap.size w)
 have H : (Yfb.l0 k a0 0) = some r := h
 clear h
 have H' := Ya.mk H
 clear H
 go_enter Tryz.func65, Tryz.ntmps65
 go_wp2
 go_loopg [0, 3] k (fun kq v0 v3 w' => ∃ (aX : Y) (aD : Int), v0 = .string aX ∧ v3 = .int .i64 aD ∧ Ya (Yfb.l0 kq aX aD = some r) ∧ Ya (kq ≤ k) ∧ Ya (Below w.heap.size w w'))
 case atStart => exact ⟨(a0), (0), Zf, Zf, H', ⟨Kw _⟩, ⟨Za⟩⟩
 case round =>
  clear H'
  obtain ⟨aX, aD, rfl, rfl, HA, dB, HB⟩ := hrel
  cases gk with
  | zero => exact absurd HA.out (by simp [Yfb.l0])
  | succ k1 =>
   have H := HA.out
   clear HA
   simp only [Yfb.l0] at H
   by_cases c2 : (aX.size : Int) > 0
   rotate_left
   ·rw [if_neg c2] at H
    have eS : decide (0 < (aX.size : Int)) = false := Ks c2
    have kC : decide (0 < aX.size) = false := Ks Zk
    clear c2
    by_cases dG : aD > 2
    ·rw [if_pos dG] at H
     have eT : decide (2 < aD) = true := Kr dG
     clear dG
     obtain rfl := Kv H
     go_wp2
     go_ret
     exact ⟨Zl, Za⟩
    rw [if_neg dG] at H
    have eT : decide (2 < aD) = false := Ks dG
    clear dG
    obtain rfl := Kv H
    go_wp2
    go_ret
    exact ⟨Zl, Za⟩
   rw [if_pos c2] at H
   have eS : decide (0 < (aX.size : Int)) = true := Kr c2
   have kC : decide (0 < aX.size) = true := Kr Zk
   clear c2
   by_cases c3 : 0 < (aX.size : Int)
   rotate_left
   ·rw [if_neg c3] at H
    exact absurd H Zv
   rw [if_pos c3] at H
   have cC : decide (0 < (aX.size : Int)) = true := Kr c3
   have fX : decide (0 < aX.size) = true := Kr Zk
   clear c3
   by_cases c5 : (bt aX 0) = 46
   ·rw [if_pos c5] at H
    have dI : ((bt aX 0) == 46) = true := Kba c5
    have qP : ((bt aX 0) != 46) = false := Ky c5
    clear c5
    by_cases c6 : 1 ≤ (aX.size : Int)
    rotate_left
    ·rw [if_neg c6] at H
     exact absurd H Zv
    rw [if_pos c6] at H
    have dN := Kt c6
    have jB : decide (1 ≤ (aX.size : Int)) = true := Kr c6
    clear c6
    have H' := Ya.mk H
    clear H
    have p4 : 0 ≤ (0 : Int) := Zk
    have q4 : 0 < aX.size := (by have : (0 : Int) < (aX.size : Int) := Kq Zc; omega)
    have jF : ∀ h : 0 < aX.size, ((aX[0]'h).toNat : Int) = bt aX 0 := Ybb aX 0
    clear p4
    have tV : (0 < (aX.size : Int)) = True := Kt (Kq Zc)
    replace q4 := Kt q4
    go_wp2
    go_roundg k1
    case measure => have := dB.out; omega
    case rel => exact ⟨(aX.extract 1 aX.size), (wrap64 (aD + 1)), Zf, Zf, H', ⟨Zba⟩, ⟨Za⟩⟩
   rw [if_neg c5] at H
   have dI : ((bt aX 0) == 46) = false := Kz c5
   have qP : ((bt aX 0) != 46) = true := Kaa c5
   by_cases c7 : (aX.size : Int) > 2
   rotate_left
   ·rw [if_neg c7] at H
    have cW : decide (2 < (aX.size : Int)) = false := Ks c7
    have iD : decide (2 < aX.size) = false := Ks Zk
    clear c7
    obtain rfl := Kv H
    have p4 : 0 ≤ (0 : Int) := Zk
    have q4 : 0 < aX.size := (by have : (0 : Int) < (aX.size : Int) := Kq Zc; omega)
    have jF : ∀ h : 0 < aX.size, ((aX[0]'h).toNat : Int) = bt aX 0 := Ybb aX 0
    clear p4
    have tV : (0 < (aX.size : Int)) = True := Kt (Kq Zc)
    replace q4 := Kt q4
    go_wp2
    go_ret
    exact ⟨Zl, Za⟩
   rw [if_pos c7] at H
   have cW : decide (2 < (aX.size : Int)) = true := Kr c7
   have iD : decide (2 < aX.size) = true := Kr Zk
   clear c7
   by_cases c8 : 0 ≤ 3
   rotate_left
   ·rw [if_neg c8] at H
    exact absurd H Zv
   rw [if_pos c8] at H
   have gS := Kt c8
   have jA : decide (0 ≤ 3) = true := Kr c8
   clear c8
   by_cases c9 : 3 ≤ (aX.size : Int)
   rotate_left
   ·rw [if_neg c9] at H
    exact absurd H Zv
   rw [if_pos c9] at H
   have iC := Kt c9
   have lT : decide (3 ≤ (aX.size : Int)) = true := Kr c9
   clear c9
   obtain ⟨lD, aBD, H⟩ := Ku H
   try dsimp -simprocs only at H
   have A10 := Ya.mk aBD
   clear aBD
   by_cases c11 : lD.toList = ([37, 50, 101] : List UInt8)
   rotate_left
   ·rw [if_neg c11] at H
    have gT : (lD.toList == ([37, 50, 101] : List UInt8)) = false := Kz c11
    have pU : (lD.toList != ([37, 50, 101] : List UInt8)) = true := Kaa c11
    obtain rfl := Kv H
    have p4 : 0 ≤ (0 : Int) := Zk
    have q4 : 0 < aX.size := (by have : (0 : Int) < (aX.size : Int) := Kq Zc; omega)
    have jF : ∀ h : 0 < aX.size, ((aX[0]'h).toNat : Int) = bt aX 0 := Ybb aX 0
    clear p4
    have tV : (0 < (aX.size : Int)) = True := Kt (Kq Zc)
    replace q4 := Kt q4
    go_wp2_with (first | (go_at_call 47; (with_reducible refine (Yfa.calls k1 (aX.extract 0 3) lD _ ?z1 A10.out).mono ?_); (case z1 => exact Kh); rintro e w14 ⟨rfl, hb⟩; replace HB := Ya.mk (Yt Za hb); (try clear hb)))
    go_ret
    exact ⟨Zl, Za⟩
   rw [if_pos c11] at H
   have gT : (lD.toList == ([37, 50, 101] : List UInt8)) = true := Kba c11
   have pU : (lD.toList != ([37, 50, 101] : List UInt8)) = false := Ky c11
   clear c11
   have dS := Kt (Kq Zc : 3 ≤ (aX.size : Int))
   have H' := Ya.mk H
   clear H
   have p4 : 0 ≤ (0 : Int) := Zk
   have q4 : 0 < aX.size := (by have : (0 : Int) < (aX.size : Int) := Kq Zc; omega)
   have jF : ∀ h : 0 < aX.size, ((aX[0]'h).toNat : Int) = bt aX 0 := Ybb aX 0
   clear p4
   have tV : (0 < (aX.size : Int)) = True := Kt (Kq Zc)
   replace q4 := Kt q4
   go_wp2_with (first | (go_at_call 47; (with_reducible refine (Yfa.calls k1 (aX.extract 0 3) lD _ ?z1 A10.out).mono ?_); (case z1 => exact Kh); rintro e nH ⟨rfl, hb⟩; replace HB := Ya.mk (Yt Za hb); (try clear hb)))
   go_roundg k1
   case measure => have := dB.out; omega
   case rel => exact ⟨(aX.extract 3 aX.size), (wrap64 (aD + 1)), Zf, Zf, H', ⟨Zba⟩, ⟨Za⟩⟩
def Yjb.l0 : Nat → Y → List Y → Y → Int → Option (Y)
 | 0, _, _, _, _ => none
 | k + 1, x0, x1, x5, x6 => if x6 < (x1.length : Int) then (if x6 > 0 then (if x5.size + x0.size ≤ 9223372036854775807 then (if 0 ≤ x6 then (if (x5 ++ x0).size + (rdOf ByteArray.empty x1 x6).size ≤ 9223372036854775807 then (Yjb.l0 k x0 x1 ((x5 ++ x0) ++ (rdOf ByteArray.empty x1 x6)) (wrap64 (x6 + 1))) else (none)) else (none)) else (none)) else (if 0 ≤ x6 then (if x5.size + (rdOf ByteArray.empty x1 x6).size ≤ 9223372036854775807 then (Yjb.l0 k x0 x1 (x5 ++ (rdOf ByteArray.empty x1 x6)) (wrap64 (x6 + 1))) else (none)) else (none))) else (some x5)
def Yjb.f (k : Nat) (a0 : Y) (l1 : List Y) : Option (Y) := Yjb.l0 k a0 l1 (⟨#[]⟩ : Y) 0
theorem Yjb.calls (k : Nat) (a0 : Y) (A1 : Option Addr) (c1 : Nat) (l1 : List Y) (r : Y) (w : World) (hE : EnvOk w) (hr1 : Kd.C Kd.string w A1 l1.length l1) (cB : l1.length ≤ c1) (h : Yjb.f k a0 l1 = some r) :
  Calls Tryz.prog 66 #[.string a0, .slice A1 l1.length c1] w fun e w' => e = .returned (.string r) ∧ Drawn0 w w' := by
 have uU := Ya.mk hr1
 have HC1 := Ya.mk cB
 clear hr1 cB
 have HE := Ya.mk hE
 clear hE
 have H : (Yjb.l0 k a0 l1 (⟨#[]⟩ : Y) 0) = some r := h
 clear h
 have H' := Ya.mk H
 clear H
 go_enter Tryz.func66, Tryz.ntmps66
 go_wp2
 go_loopg [5, 6] k (fun kq v5 v6 w' => ∃ (bA : Y) (aC : Int), v5 = .string bA ∧ v6 = .int .i64 aC ∧ Ya (Yjb.l0 kq a0 l1 bA aC = some r) ∧ Ya (kq ≤ k) ∧ Drawn0 w w')
 case atStart => exact ⟨((⟨#[]⟩ : Y)), (0), Zf, Zf, H', ⟨Kw _⟩, Zh⟩
 case round =>
  clear H'
  try clear c1
  try clear p2
  obtain ⟨bA, aC, rfl, rfl, HA, dB, ⟨m1, rfl⟩⟩ := hrel
  cases gk with
  | zero => exact absurd HA.out (by simp [Yjb.l0])
  | succ k1 =>
   have H := HA.out
   clear HA
   simp only [Yjb.l0] at H
   by_cases c3 : aC < (l1.length : Int)
   rotate_left
   ·rw [if_neg c3] at H
    have cC : decide (aC < (l1.length : Int)) = false := Ks c3
    clear c3
    obtain rfl := Kv H
    go_wp2
    go_ret
    exact ⟨Zf, Zh⟩
   rw [if_pos c3] at H
   have cC : decide (aC < (l1.length : Int)) = true := Kr c3
   clear c3
   by_cases c4 : aC > 0
   rotate_left
   ·rw [if_neg c4] at H
    have bX : decide (0 < aC) = false := Ks c4
    clear c4
    by_cases c8 : 0 ≤ aC
    rotate_left
    ·rw [if_neg c8] at H
     exact absurd H Zv
    rw [if_pos c8] at H
    have gS : decide (0 ≤ aC) = true := Kr c8
    clear c8
    by_cases c9 : bA.size + (rdOf ByteArray.empty l1 aC).size ≤ 9223372036854775807
    rotate_left
    ·rw [if_neg c9] at H
     exact absurd H Zv
    rw [if_pos c9] at H
    have iC := Kt c9
    have lT : decide (bA.size + (rdOf ByteArray.empty l1 aC).size ≤ 9223372036854775807) = true := Kr c9
    try have zO : (9223372036854775807 < bA.size + (rdOf ByteArray.empty l1 aC).size) = False := eq_false (Nat.not_lt.2 c9)
    have H' := Ya.mk H
    clear H
    have aFW : 0 ≤ (aC : Int) := Kq Zc
    have aFX : aC < (l1.length : Int) := Kq Zc
    obtain ⟨aXj, aVT, aSK⟩ := Kd.at_string uU.out aC aFW aFX
    cases aVT
    replace aFW := Kt aFW
    replace aFX := Kt aFX
    go_wp2
    go_roundg k1
    case measure => have := dB.out; omega
    case rel => exact ⟨(bA ++ (rdOf ByteArray.empty l1 aC)), (wrap64 (aC + 1)), Zf, Zf, H', ⟨Zba⟩, Zh⟩
   rw [if_pos c4] at H
   have bX : decide (0 < aC) = true := Kr c4
   clear c4
   by_cases c5 : bA.size + a0.size ≤ 9223372036854775807
   rotate_left
   ·rw [if_neg c5] at H
    exact absurd H Zv
   rw [if_pos c5] at H
   have dI := Kt c5
   have qP : decide (bA.size + a0.size ≤ 9223372036854775807) = true := Kr c5
   try have aVk : (9223372036854775807 < bA.size + a0.size) = False := eq_false (Nat.not_lt.2 c5)
   by_cases c6 : 0 ≤ aC
   rotate_left
   ·rw [if_neg c6] at H
    exact absurd H Zv
   rw [if_pos c6] at H
   have dN : decide (0 ≤ aC) = true := Kr c6
   clear c6
   by_cases c7 : (bA ++ a0).size + (rdOf ByteArray.empty l1 aC).size ≤ 9223372036854775807
   rotate_left
   ·rw [if_neg c7] at H
    exact absurd H Zv
   rw [if_pos c7] at H
   have cW := Kt c7
   have iD : decide ((bA ++ a0).size + (rdOf ByteArray.empty l1 aC).size ≤ 9223372036854775807) = true := Kr c7
   try have aYd : (9223372036854775807 < (bA ++ a0).size + (rdOf ByteArray.empty l1 aC).size) = False := eq_false (Nat.not_lt.2 c7)
   have H' := Ya.mk H
   clear H
   have aFY : 0 ≤ (aC : Int) := Kq Zc
   have aFZ : aC < (l1.length : Int) := Kq Zc
   obtain ⟨aXk, aVU, aSL⟩ := Kd.at_string uU.out aC aFY aFZ
   cases aVU
   replace aFY := Kt aFY
   replace aFZ := Kt aFZ
   go_wp2
   go_roundg k1
   case measure => have := dB.out; omega
   case rel => exact ⟨((bA ++ a0) ++ (rdOf ByteArray.empty l1 aC)), (wrap64 (aC + 1)), Zf, Zf, H', ⟨Zba⟩, Zh⟩
def Yra.l0 : Nat → Y → Y → Int → Option (Int)
 | 0, _, _, _ => none
 | k + 1, x0, x1, x5 => if x5 < (x0.size : Int) then (if 0 ≤ x5 then ((Yia.f k (bt x0 x5) x1).bind fun vJ => (if vJ = true then (some x5) else (Yra.l0 k x0 x1 (wrap64 (x5 + 1))))) else (none)) else (some x5)
def Yra.f (k : Nat) (a0 a1 : Y) : Option (Int) := Yra.l0 k a0 a1 0
theorem Yra.calls (k : Nat) (a0 a1 : Y) (r : Int) (w : World) (hE : EnvOk w) (h : Yra.f k a0 a1 = some r) :
  Calls Tryz.prog 49 #[.string a0, .string a1] w fun e w' => e = .returned (.int .i64 r) ∧ Drawn0 w w' := by
 have HE := Ya.mk hE
 clear hE
 have H : (Yra.l0 k a0 a1 0) = some r := h
 clear h
 have H' := Ya.mk H
 clear H
 go_enter Tryz.func49, Tryz.ntmps49
 go_wp2
 go_loopg [5] k (fun kq v5 w' => ∃ (bA : Int), v5 = .int .i64 bA ∧ Ya (Yra.l0 kq a0 a1 bA = some r) ∧ Ya (kq ≤ k) ∧ Drawn0 w w')
 case atStart => exact ⟨(0), Zf, H', ⟨Kw _⟩, Zh⟩
 case round =>
  clear H'
  try clear p2
  obtain ⟨bA, rfl, HA, dB, ⟨m1, rfl⟩⟩ := hrel
  cases gk with
  | zero => exact absurd HA.out (by simp [Yra.l0])
  | succ k1 =>
   have H := HA.out
   clear HA
   simp only [Yra.l0] at H
   by_cases c3 : bA < (a0.size : Int)
   rotate_left
   ·rw [if_neg c3] at H
    have cC : decide (bA < (a0.size : Int)) = false := Ks c3
    clear c3
    obtain rfl := Kv H
    go_wp2
    go_ret
    exact ⟨Zf, Zh⟩
   rw [if_pos c3] at H
   have cC : decide (bA < (a0.size : Int)) = true := Kr c3
   clear c3
   by_cases c4 : 0 ≤ bA
   rotate_left
   ·rw [if_neg c4] at H
    exact absurd H Zv
   rw [if_pos c4] at H
   have bX : decide (0 ≤ bA) = true := Kr c4
   clear c4
   obtain ⟨vJ, pQ, H⟩ := Ku H
   try dsimp -simprocs only at H
   have A6 := Ya.mk pQ
   clear pQ
   by_cases c7 : vJ = true
   ·subst c7
    rw [if_pos rfl] at H
    obtain rfl := Kv H
    have p5 : (0 ≤ (bA : Int)) = True := Kp
    have q5 : bA < (a0.size : Int) := Kq Zc
    have dV := Ybb a0 bA
    replace q5 := Kt q5
    go_wp2_with (first | (go_at_call 88; (with_reducible refine (Yia.calls k1 (bt a0 bA) a1 true _ ?z1 A6.out).mono ?_); (case z1 => exact Kj); rintro e w' ⟨rfl, ⟨nd, rfl⟩⟩))
    go_ret
    exact ⟨Zf, Zh⟩
   replace c7 := Kx c7
   subst c7
   rw [if_neg (show ¬ (false = true) by decide)] at H
   have H' := Ya.mk H
   clear H
   have p5 : (0 ≤ (bA : Int)) = True := Kp
   have q5 : bA < (a0.size : Int) := Kq Zc
   have dV := Ybb a0 bA
   replace q5 := Kt q5
   go_wp2_with (first | (go_at_call 88; (with_reducible refine (Yia.calls k1 (bt a0 bA) a1 false _ ?z1 A6.out).mono ?_); (case z1 => exact Kj); rintro e w' ⟨rfl, ⟨nd, rfl⟩⟩))
   go_roundg k1
   case measure => have := dB.out; omega
   case rel => exact ⟨(wrap64 (bA + 1)), Zf, H', ⟨Zba⟩, Zh⟩
def Yna.j0 : Nat → Int → Bool → Option (Int)
 | 0, _, _ => none
 | k + 1, x0, x9 => if x9 = true then (some (((x0 - 97) % 256) + 10)) else (if x0 ≥ 65 then (if x0 ≤ 70 then (some (((x0 - 65) % 256) + 10)) else (some 16)) else (some 16))
def Yna.f (k : Nat) (a0 : Int) : Option (Int) := (Yw.f a0).bind fun aBL => (if aBL = true then (some ((a0 - 48) % 256)) else (if a0 ≥ 97 then (Yna.j0 k a0 (decide (a0 ≤ 102))) else (Yna.j0 k a0 false)))
theorem Yna.mono_l : ∀ k, (∀ y0 y1, LeO (Yna.j0 k y0 y1) (Yna.j0 (k + 1) y0 y1))
 | 0 => fun _ _ r h => by simp [Yna.j0] at h
 | k + 1 => by
  have sP := Yna.mono_l k
  ·intro y0 y1
   unfold Yna.j0
   repeat' first
   | (with_reducible exact sP _ _)
   | (with_reducible exact LeO.refl _)
   | (with_reducible exact LeO.none _)
   | (with_reducible refine LeO.ite ?_ ?_)
   | (with_reducible refine LeO.bind ?_ (fun _ => ?_))
   | exact sP _ _
   | exact LeO.none _
   | refine LeO.ite ?_ ?_
   | refine LeO.bind ?_ (fun _ => ?_)
theorem Yna.mono : ∀ a0 k, LeO (Yna.f k a0) (Yna.f (k + 1) a0) := by
 intro a0 k
 have sP := Yna.mono_l k
 unfold Yna.f
 repeat' first
   | (with_reducible exact sP _ _)
   | (with_reducible exact LeO.refl _)
   | (with_reducible exact LeO.none _)
   | (with_reducible refine LeO.ite ?_ ?_)
   | (with_reducible refine LeO.bind ?_ (fun _ => ?_))
   | exact sP _ _
   | exact LeO.none _
   | refine LeO.ite ?_ ?_
   | refine LeO.bind ?_ (fun _ => ?_)
theorem Yna.calls (k : Nat) (a0 r : Int) (w : World) (hE : EnvOk w) (h : Yna.f k a0 = some r) :
  Calls Tryz.prog 123 #[.int .u8 a0] w fun e w' => e = .returned (.int .u32 r) ∧ Drawn0 w w' := by
 have HE := Ya.mk hE
 clear hE
 have H : ((Yw.f a0).bind fun aBL => (if aBL = true then (some ((a0 - 48) % 256)) else (if a0 ≥ 97 then (Yna.j0 k a0 (decide (a0 ≤ 102))) else (Yna.j0 k a0 false)))) = some r := h
 clear h
 obtain ⟨aBL, dW, H⟩ := Ku H
 try dsimp -simprocs only at H
 have A2 := Ya.mk dW
 clear dW
 by_cases c3 : aBL = true
 ·subst c3
  rw [if_pos rfl] at H
  obtain rfl := Kv H
  go_enter Tryz.func123, Tryz.ntmps123
  go_wp2_with (first | ((with_reducible refine Yh (f := 87) rfl ?_); refine Yca (some 5) rfl rfl Tryz.func87 Zi rfl #[.int .u8 a0] rfl Zb ?_; (with_reducible refine (Yw.calls a0 true _ ?z1 A2.out).mono ?_); (case z1 => exact Kj); rintro e w' ⟨rfl, ⟨nd, rfl⟩⟩; refine ⟨_, rfl, ?_⟩))
  go_ret
  exact ⟨Zf, Zh⟩
 replace c3 := Kx c3
 subst c3
 rw [if_neg (show ¬ (false = true) by decide)] at H
 have HC4 := Ya.mk H
 clear H
 go_enter Tryz.func123, Tryz.ntmps123
 go_upto_region 3 with (first | ((with_reducible refine Yh (f := 87) rfl ?_); refine Yca (some 5) rfl rfl Tryz.func87 Zi rfl #[.int .u8 a0] rfl Zb ?_; (with_reducible refine (Yw.calls a0 false _ ?z1 A2.out).mono ?_); (case z1 => exact Kj); rintro e w' ⟨rfl, ⟨nd, rfl⟩⟩; refine ⟨_, rfl, ?_⟩))
 (try simp only [Act.put, Kca])
 go_cut [9] (fun v9 wc => ∃ (kq : Nat) (aDQ : Bool), v9 = .bool aDQ ∧ Ya (Yna.j0 kq a0 aDQ = some r) ∧ Ya (kq ≤ k) ∧ Drawn0 w wc)
 case first =>
  have H := HC4.out
  clear HC4
  by_cases c5 : a0 ≥ 97
  rotate_left
  ·rw [if_neg c5] at H
   have dI : decide (97 ≤ a0) = false := Ks c5
   clear c5
   (first | rw [dI] | (simp only [Yaa, Yda]; rw [dI]) | skip)
   have H' := Ya.mk H
   clear H
   go_wp2
   go_meet
   case rel => exact ⟨_, (false), Zf, H', ⟨Zla⟩, Zh⟩
  rw [if_pos c5] at H
  have dI : decide (97 ≤ a0) = true := Kr c5
  clear c5
  (first | rw [dI] | (simp only [Yaa, Yda]; rw [dI]) | skip)
  have H' := Ya.mk H
  clear H
  go_wp2
  go_meet
  case rel => exact ⟨_, (decide (a0 ≤ 102)), Zf, H', ⟨Zla⟩, Zh⟩
 case rest =>
  clear HC4
  try clear c3
  obtain ⟨kq, aDQ, rfl, HA, HJ3, ⟨mc3, rfl⟩⟩ := hcut
  cases kq with
  | zero => exact absurd HA.out (by simp [Yna.j0])
  | succ kj3 =>
   have H := HA.out
   clear HA
   simp only [Yna.j0] at H
   by_cases c6 : aDQ = true
   ·subst c6
    rw [if_pos rfl] at H
    obtain rfl := Kv H
    go_wp2
    go_ret
    exact ⟨Zf, Zh⟩
   replace c6 := Kx c6
   subst c6
   rw [if_neg (show ¬ (false = true) by decide)] at H
   by_cases c7 : a0 ≥ 65
   rotate_left
   ·rw [if_neg c7] at H
    have cW : decide (65 ≤ a0) = false := Ks c7
    clear c7
    obtain rfl := Kv H
    go_wp2
    go_ret
    exact ⟨Zf, Zh⟩
   rw [if_pos c7] at H
   have cW : decide (65 ≤ a0) = true := Kr c7
   clear c7
   by_cases c8 : a0 ≤ 70
   ·rw [if_pos c8] at H
    have gS : decide (a0 ≤ 70) = true := Kr c8
    clear c8
    obtain rfl := Kv H
    go_wp2
    go_ret
    exact ⟨Zf, Zh⟩
   rw [if_neg c8] at H
   have gS : decide (a0 ≤ 70) = false := Ks c8
   clear c8
   obtain rfl := Kv H
   go_wp2
   go_ret
   exact ⟨Zf, Zh⟩
def Yga.f (k : Nat) (a0 : Int) : Option (Int) := (Yna.f k a0).bind fun aBM => (some aBM)
theorem Yga.mono : ∀ a0 k, LeO (Yga.f k a0) (Yga.f (k + 1) a0) := by
 intro a0 k
 unfold Yga.f
 repeat' first
   | (with_reducible exact Yna.mono _ _)
   | (with_reducible exact LeO.refl _)
   | (with_reducible exact LeO.none _)
   | (with_reducible refine LeO.ite ?_ ?_)
   | (with_reducible refine LeO.bind ?_ (fun _ => ?_))
   | exact Yna.mono _ _
   | exact LeO.none _
   | refine LeO.ite ?_ ?_
   | refine LeO.bind ?_ (fun _ => ?_)
theorem Yga.calls (k : Nat) (a0 r : Int) (w : World) (hE : EnvOk w) (h : Yga.f k a0 = some r) :
  Calls Tryz.prog 97 #[.int .u8 a0] w fun e w' => e = .returned (.int .u32 r) ∧ Drawn0 w w' := by
 have HE := Ya.mk hE
 clear hE
 have H : ((Yna.f k a0).bind fun aBM => (some aBM)) = some r := h
 clear h
 obtain ⟨aBM, dW, H⟩ := Ku H
 try dsimp -simprocs only at H
 have A2 := Ya.mk dW
 clear dW
 obtain rfl := Kv H
 go_enter Tryz.func97, Tryz.ntmps97
 go_wp2_with (first | ((with_reducible refine Yh (f := 123) rfl ?_); refine Yca (some 4) rfl rfl Tryz.func123 Zi rfl #[.int .u8 a0] rfl Zb ?_; (with_reducible refine (Yna.calls k a0 aBM _ ?z1 A2.out).mono ?_); (case z1 => exact Kj); rintro e w' ⟨rfl, ⟨nd, rfl⟩⟩; refine ⟨_, rfl, ?_⟩))
 go_ret
 exact ⟨Zf, Zh⟩
end Go.Proofs.YtnmglnglbdpjjaaGreatDoor.X
