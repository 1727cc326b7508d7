/- Printed by a program of ours: functions as plain Lean, and what a call of each does. -/
import Derived.Test.YtnmglnglbdpjjaaGreatDoorUjWords
import Derived.Test.YtnmglnglbdpjjaaGreatDoorUjX0
import Derived.Test.YtnmglnglbdpjjaaGreatDoorUjX3
import Derived.Test.YtnmglnglbdpjjaaGreatDoorUjX5
import Derived.Test.YtnmglnglbdpjjaaGreatDoorUjX12
import Derived.Test.YtnmglnglbdpjjaaGreatDoorUjH0e
namespace Go.Proofs.YtnmglnglbdpjjaaGreatDoor.X
open Go.RowKit Go.Yw.PrintWords Go.Yw.PrintLast Go.Yw.PrintMore
attribute [local go_sem] Yvd Yyd Yke Yme Yld Ykd Yud Ywd
set_option linter.unusedVariables false
set_option linter.unusedSimpArgs false
mutual
def Yja.j0 : Nat → ByteArray → ByteArray → Bool → Option (ByteArray × ByteArray × Bool)
 | 0, _, _, _ => none
 | k + 1, x5, x6, x27 => if x27 = true then (some ((⟨#[]⟩ : ByteArray), (⟨#[]⟩ : ByteArray), false)) else (Yja.l0 k x5 x6 (x5.size : Int) 0)
def Yja.l0 : Nat → ByteArray → ByteArray → Int → Int → Option (ByteArray × ByteArray × Bool)
 | 0, _, _, _, _ => none
 | k + 1, x5, x6, x29, x30 => if x30 < x29 then (if 0 ≤ x30 then (if x30 < (x5.size : Int) then ((Yva.f (bt x5 x30)).bind fun t247 => (if t247 = true then (Yja.l0 k x5 x6 x29 (wrap64 (x30 + 1))) else ((Yta.f (bt x5 x30)).bind fun t248 => (if t248 = true then (Yja.l0 k x5 x6 x29 (wrap64 (x30 + 1))) else ((strings_IndexByte.f (⟨#[43, 45, 46]⟩ : ByteArray) (bt x5 x30)).bind fun t249 => (if t249 < 0 then (some ((⟨#[]⟩ : ByteArray), (⟨#[]⟩ : ByteArray), false)) else (Yja.l0 k x5 x6 x29 (wrap64 (x30 + 1))))))))) else (none)) else (none)) else (some (x5, x6, true))
end
def Yja.f (k : Nat) (a0 : ByteArray) : Option (ByteArray × ByteArray × Bool) := (strings_Cut.f a0 (⟨#[58]⟩ : ByteArray)).bind fun bt243 => (if bt243.2.2 = true then (if bt243.1.toList = ([] : List UInt8) then (Yja.j0 k bt243.1 bt243.2.1 true) else (if 0 < (bt243.1.size : Int) then ((Yva.f (bt bt243.1 0)).bind fun t246 => (Yja.j0 k bt243.1 bt243.2.1 (!t246))) else (none))) else (Yja.j0 k bt243.1 bt243.2.1 true))
set_option maxHeartbeats 8000000 in
set_option maxRecDepth 100000 in
theorem Yja.calls (k : Nat) (a0 : ByteArray) (r1 : ByteArray) (r2 : ByteArray) (r3 : Bool) (w : World) (hE : EnvOk w) (h : Yja.f k a0 = some (r1, r2, r3)) :
  Calls Tryz.prog 70 #[.string a0] w fun e w' => e = .returned (.tuple #[.string r1, .string r2, .bool r3]) ∧ Drawn0 w w' := by
 have HE := Ya.mk hE
 clear hE
 have H : ((strings_Cut.f a0 (⟨#[58]⟩ : ByteArray)).bind fun bt243 => (if bt243.2.2 = true then (if bt243.1.toList = ([] : List UInt8) then (Yja.j0 k bt243.1 bt243.2.1 true) else (if 0 < (bt243.1.size : Int) then ((Yva.f (bt bt243.1 0)).bind fun t246 => (Yja.j0 k bt243.1 bt243.2.1 (!t246))) else (none))) else (Yja.j0 k bt243.1 bt243.2.1 true))) = some (r1, r2, r3) := h
 clear h
 replace H := Option.bind_eq_some_iff.mp H
 obtain ⟨⟨t243, t244, t245⟩, A20, H⟩ := H
 try dsimp -simprocs only at H
 have A2 := Ya.mk A20
 clear A20
 have HC3 := Ya.mk H
 clear H
 go_enter Tryz.func70, Tryz.ntmps70
 go_upto_region 2 with (first | ((with_reducible refine Yh (f := 76) rfl ?_); refine Yz (some 12) rfl rfl Tryz.func76 Zi rfl #[.string a0, .string (⟨#[58]⟩ : ByteArray)] rfl Zb ?_; (with_reducible refine (strings_Cut.calls a0 (⟨#[58]⟩ : ByteArray) t243 t244 t245 _ ?side1 A2.out).mono ?_); (case side1 => first | exact HE.out | exact EnvOk.heap HE.out rfl); rintro e w' ⟨rfl, ⟨nd, rfl⟩⟩; refine ⟨_, rfl, ?_⟩))
 (try simp only [Act.put, List.setIfInBounds_toArray, List.set_cons_zero, List.set_cons_succ])
 go_cut [27] (fun v27 wc => ∃ (kq : Nat) (x27_2 : Bool), v27 = .bool x27_2 ∧ Ya (Yja.j0 kq t243 t244 x27_2 = some (r1, r2, r3)) ∧ Ya (kq ≤ k) ∧ Drawn0 w wc)
 case first =>
  have H := HC3.out
  clear HC3
  by_cases c4 : t245 = true
  rotate_left
  ·replace c4 := Bool.eq_false_iff.mpr c4
   subst c4
   rw [if_neg (show ¬ (false = true) by decide)] at H
   have H' := Ya.mk H
   clear H
   go_wp2
   go_meet
   case rel => exact ⟨_, (true), Zf, H', ⟨Zna⟩, Zh⟩
  subst c4
  rw [if_pos rfl] at H
  by_cases c5 : t243.toList = ([] : List UInt8)
  ·rw [if_pos c5] at H
   have c5b0 : (t243.toList == ([] : List UInt8)) = true := beq_iff_eq.mpr c5
   have c5b1 : (t243.toList != ([] : List UInt8)) = false := bne_eq_false_iff_eq.mpr c5
   clear c5
   (first | rw [c5b0] | (simp only [Yqa, Yra]; rw [c5b0]) | skip)
   have H' := Ya.mk H
   clear H
   go_wp2
   go_meet
   case rel => exact ⟨_, (true), Zf, H', ⟨Zna⟩, Zh⟩
  rw [if_neg c5] at H
  have c5b0 : (t243.toList == ([] : List UInt8)) = false := beq_eq_false_iff_ne.mpr c5
  have c5b1 : (t243.toList != ([] : List UInt8)) = true := bne_iff_ne.mpr c5
  (first | rw [c5b0] | (simp only [Yqa, Yra]; rw [c5b0]) | skip)
  by_cases c6 : 0 < (t243.size : Int)
  rotate_left
  ·rw [if_neg c6] at H
   exact absurd H Zv
  rw [if_pos c6] at H
  have c6b0 : decide (0 < (t243.size : Int)) = true := decide_eq_true c6
  have c6b1 : decide (0 < t243.size) = true := decide_eq_true Zl
  clear c6
  replace H := Option.bind_eq_some_iff.mp H
  obtain ⟨t246, A80, H⟩ := H
  try dsimp -simprocs only at H
  have A8 := Ya.mk A80
  clear A80
  have H' := Ya.mk H
  clear H
  have p7 : 0 ≤ (0 : Int) := Zl
  have q7 : 0 < t243.size := (by have : (0 : Int) < (t243.size : Int) := of_decide_eq_true Zc; omega)
  have hx7 : ∀ h : 0 < t243.size, ((t243[0]'h).toNat : Int) = bt t243 0 := Yya t243 0
  clear p7
  have qi7 : (0 < (t243.size : Int)) = True := eq_true (of_decide_eq_true Zc)
  replace q7 := eq_true q7
  go_wp2_with (first | (go_at_call 77; (with_reducible refine (Yva.calls (bt t243 0) t246 _ ?side1 A8.out).mono ?_); (case side1 => first | exact HE.out | exact EnvOk.heap HE.out rfl); rintro e w' ⟨rfl, ⟨nd, rfl⟩⟩))
  go_meet
  case rel => exact ⟨_, (!t246), Zf, H', ⟨Zna⟩, Zh⟩
 case rest =>
  clear HC3
  try clear p2
  try clear c4
  try clear c5
  try clear c5b0
  try clear c5b1
  try clear c6
  try clear c6b0
  try clear c6b1
  try clear c7
  try clear p7
  try clear q7
  try clear hx7
  try clear qi7
  try clear p7
  try clear q7
  obtain ⟨kq, x27_2, rfl, HA, HJ2, ⟨mc2, rfl⟩⟩ := hcut
  cases kq with
  | zero => exact absurd HA.out (by simp [Yja.j0])
  | succ kj2 =>
   have H := HA.out
   clear HA
   simp only [Yja.j0] at H
   by_cases c9 : x27_2 = true
   ·subst c9
    rw [if_pos rfl] at H
    simp only [Option.some.injEq, Prod.mk.injEq] at H
    obtain ⟨rfl, rfl, rfl⟩ := H
    go_wp2
    go_ret3
    exact ⟨Zf, Zh⟩
   replace c9 := Bool.eq_false_iff.mpr c9
   subst c9
   rw [if_neg (show ¬ (false = true) by decide)] at H
   have H' := Ya.mk H
   clear H
   go_wp2
   go_loopg [30] kj2 (fun kq v30 w' => ∃ (x30_2 : Int), v30 = .int .i64 x30_2 ∧ Ya (Yja.l0 kq t243 t244 (t243.size : Int) x30_2 = some (r1, r2, r3)) ∧ Ya (kq ≤ kj2) ∧ Drawn0 w w')
   case atStart => exact ⟨(0), Zf, H', ⟨Nat.le_refl _⟩, Zh⟩
   case round =>
    clear H'
    try clear c2
    try clear p2
    try clear c4
    try clear c5
    try clear c5b0
    try clear c5b1
    try clear c6
    try clear c6b0
    try clear c6b1
    try clear c7
    try clear p7
    try clear q7
    try clear hx7
    try clear qi7
    try clear c9
    try clear p2
    try clear p7
    try clear q7
    obtain ⟨x30_2, rfl, HA, HK2, ⟨m2, rfl⟩⟩ := hrel
    cases gk with
    | zero => exact absurd HA.out (by simp [Yja.l0])
    | succ k2 =>
     have H := HA.out
     clear HA
     simp only [Yja.l0] at H
     by_cases c10 : x30_2 < (t243.size : Int)
     rotate_left
     ·rw [if_neg c10] at H
      have c10b0 : decide (x30_2 < (t243.size : Int)) = false := decide_eq_false c10
      clear c10
      simp only [Option.some.injEq, Prod.mk.injEq] at H
      obtain ⟨rfl, rfl, rfl⟩ := H
      go_wp2
      go_ret3
      exact ⟨Zf, Zh⟩
     rw [if_pos c10] at H
     have c10b0 : decide (x30_2 < (t243.size : Int)) = true := decide_eq_true c10
     clear c10
     by_cases c11 : 0 ≤ x30_2
     rotate_left
     ·rw [if_neg c11] at H
      exact absurd H Zv
     rw [if_pos c11] at H
     have c11b0 : decide (0 ≤ x30_2) = true := decide_eq_true c11
     clear c11
     by_cases c12 : x30_2 < (t243.size : Int)
     rotate_left
     ·rw [if_neg c12] at H
      exact absurd H Zv
     rw [if_pos c12] at H
     have c12b0 : decide (x30_2 < (t243.size : Int)) = true := decide_eq_true c12
     clear c12
     replace H := Option.bind_eq_some_iff.mp H
     obtain ⟨t247, A140, H⟩ := H
     try dsimp -simprocs only at H
     have A14 := Ya.mk A140
     clear A140
     by_cases c15 : t247 = true
     ·subst c15
      rw [if_pos rfl] at H
      have H' := Ya.mk H
      clear H
      have p13 : 0 ≤ (x30_2 : Int) := of_decide_eq_true Zc
      have q13 : x30_2 < (t243.size : Int) := of_decide_eq_true Zc
      have hx13 := Yya t243 x30_2
      replace p13 := eq_true p13
      replace q13 := eq_true q13
      go_wp2_with (first | ((with_reducible refine Yh (f := 77) rfl ?_); refine Yz (some 37) rfl rfl Tryz.func77 Zi rfl #[.int .u8 (bt t243 x30_2)] rfl Zb ?_; (with_reducible refine (Yva.calls (bt t243 x30_2) true _ ?side1 A14.out).mono ?_); (case side1 => first | exact HE.out | exact EnvOk.heap HE.out rfl); rintro e w' ⟨rfl, ⟨nd, rfl⟩⟩; refine ⟨_, rfl, ?_⟩))
      go_roundg k2
      case measure => have := HJ2.out; have := HK2.out; omega
      case rel => exact ⟨(wrap64 (x30_2 + 1)), Zf, H', ⟨Zza⟩, Zh⟩
     replace c15 := Bool.eq_false_iff.mpr c15
     subst c15
     rw [if_neg (show ¬ (false = true) by decide)] at H
     replace H := Option.bind_eq_some_iff.mp H
     obtain ⟨t248, A160, H⟩ := H
     try dsimp -simprocs only at H
     have A16 := Ya.mk A160
     clear A160
     by_cases c17 : t248 = true
     ·subst c17
      rw [if_pos rfl] at H
      have H' := Ya.mk H
      clear H
      have p13 : 0 ≤ (x30_2 : Int) := of_decide_eq_true Zc
      have q13 : x30_2 < (t243.size : Int) := of_decide_eq_true Zc
      have hx13 := Yya t243 x30_2
      replace p13 := eq_true p13
      replace q13 := eq_true q13
      go_wp2_with (first | ((with_reducible refine Yh (f := 77) rfl ?_); refine Yz (some 37) rfl rfl Tryz.func77 Zi rfl #[.int .u8 (bt t243 x30_2)] rfl Zb ?_; (with_reducible refine (Yva.calls (bt t243 x30_2) false _ ?side1 A14.out).mono ?_); (case side1 => first | exact HE.out | exact EnvOk.heap HE.out rfl); rintro e w' ⟨rfl, ⟨nd, rfl⟩⟩; refine ⟨_, rfl, ?_⟩) | (go_at_call 78; (with_reducible refine (Yta.calls (bt t243 x30_2) true _ ?side1 A16.out).mono ?_); (case side1 => first | exact HE.out | exact EnvOk.heap HE.out rfl); rintro e w' ⟨rfl, ⟨nd, rfl⟩⟩))
      go_roundg k2
      case measure => have := HJ2.out; have := HK2.out; omega
      case rel => exact ⟨(wrap64 (x30_2 + 1)), Zf, H', ⟨Zza⟩, Zh⟩
     replace c17 := Bool.eq_false_iff.mpr c17
     subst c17
     rw [if_neg (show ¬ (false = true) by decide)] at H
     replace H := Option.bind_eq_some_iff.mp H
     obtain ⟨t249, A180, H⟩ := H
     try dsimp -simprocs only at H
     have A18 := Ya.mk A180
     clear A180
     by_cases c19 : t249 < 0
     ·rw [if_pos c19] at H
      have c19b0 : decide (t249 < 0) = true := decide_eq_true c19
      clear c19
      simp only [Option.some.injEq, Prod.mk.injEq] at H
      obtain ⟨rfl, rfl, rfl⟩ := H
      have p13 : 0 ≤ (x30_2 : Int) := of_decide_eq_true Zc
      have q13 : x30_2 < (t243.size : Int) := of_decide_eq_true Zc
      have hx13 := Yya t243 x30_2
      replace p13 := eq_true p13
      replace q13 := eq_true q13
      go_wp2_with (first | ((with_reducible refine Yh (f := 77) rfl ?_); refine Yz (some 37) rfl rfl Tryz.func77 Zi rfl #[.int .u8 (bt t243 x30_2)] rfl Zb ?_; (with_reducible refine (Yva.calls (bt t243 x30_2) false _ ?side1 A14.out).mono ?_); (case side1 => first | exact HE.out | exact EnvOk.heap HE.out rfl); rintro e w' ⟨rfl, ⟨nd, rfl⟩⟩; refine ⟨_, rfl, ?_⟩) | (go_at_call 78; (with_reducible refine (Yta.calls (bt t243 x30_2) false _ ?side1 A16.out).mono ?_); (case side1 => first | exact HE.out | exact EnvOk.heap HE.out rfl); rintro e w' ⟨rfl, ⟨nd, rfl⟩⟩) | (go_at_call 79; (with_reducible refine (strings_IndexByte.calls (⟨#[43, 45, 46]⟩ : ByteArray) (bt t243 x30_2) t249 _ ?side1 A18.out).mono ?_); (case side1 => first | exact HE.out | exact EnvOk.heap HE.out rfl); rintro e w' ⟨rfl, ⟨nd, rfl⟩⟩))
      go_ret3
      exact ⟨Zf, Zh⟩
     rw [if_neg c19] at H
     have c19b0 : decide (t249 < 0) = false := decide_eq_false c19
     clear c19
     have H' := Ya.mk H
     clear H
     have p13 : 0 ≤ (x30_2 : Int) := of_decide_eq_true Zc
     have q13 : x30_2 < (t243.size : Int) := of_decide_eq_true Zc
     have hx13 := Yya t243 x30_2
     replace p13 := eq_true p13
     replace q13 := eq_true q13
     go_wp2_with (first | ((with_reducible refine Yh (f := 77) rfl ?_); refine Yz (some 37) rfl rfl Tryz.func77 Zi rfl #[.int .u8 (bt t243 x30_2)] rfl Zb ?_; (with_reducible refine (Yva.calls (bt t243 x30_2) false _ ?side1 A14.out).mono ?_); (case side1 => first | exact HE.out | exact EnvOk.heap HE.out rfl); rintro e w' ⟨rfl, ⟨nd, rfl⟩⟩; refine ⟨_, rfl, ?_⟩) | (go_at_call 78; (with_reducible refine (Yta.calls (bt t243 x30_2) false _ ?side1 A16.out).mono ?_); (case side1 => first | exact HE.out | exact EnvOk.heap HE.out rfl); rintro e w' ⟨rfl, ⟨nd, rfl⟩⟩) | (go_at_call 79; (with_reducible refine (strings_IndexByte.calls (⟨#[43, 45, 46]⟩ : ByteArray) (bt t243 x30_2) t249 _ ?side1 A18.out).mono ?_); (case side1 => first | exact HE.out | exact EnvOk.heap HE.out rfl); rintro e w' ⟨rfl, ⟨nd, rfl⟩⟩))
     go_roundg k2
     case measure => have := HJ2.out; have := HK2.out; omega
     case rel => exact ⟨(wrap64 (x30_2 + 1)), Zf, H', ⟨Zza⟩, Zh⟩
def Yqb.l0 : Nat → ByteArray → Int → Option (Int)
 | 0, _, _ => none
 | k + 1, x0, x3 => if x3 < (mn (x0.size : Int) 2) then (if 0 ≤ x3 then (if x3 < (x0.size : Int) then ((strings_IndexByte.f (⟨#[47, 92]⟩ : ByteArray) (bt x0 x3)).bind fun t250 => (if t250 ≥ 0 then (Yqb.l0 k x0 (wrap64 (x3 + 1))) else (some x3))) else (none)) else (none)) else (some x3)
def Yqb.f (k : Nat) (a0 : ByteArray) : Option (Int) := Yqb.l0 k a0 0
set_option maxHeartbeats 8000000 in
set_option maxRecDepth 100000 in
theorem Yqb.calls (k : Nat) (a0 : ByteArray) (r : Int) (w : World) (hE : EnvOk w) (h : Yqb.f k a0 = some r) :
  Calls Tryz.prog 71 #[.string a0] w fun e w' => e = .returned (.int .i64 r) ∧ Below w.heap.size w w' := by
 have HE := Ya.mk hE
 clear hE
 have HB := Ya.mk (Below.refl w.heap.size w)
 have H : (Yqb.l0 k a0 0) = some r := h
 clear h
 have H' := Ya.mk H
 clear H
 go_enter Tryz.func71, Tryz.ntmps71
 go_wp2
 go_loopg [3] k (fun kq v3 w' => ∃ (x3_1 : Int), v3 = .int .i64 x3_1 ∧ Ya (Yqb.l0 kq a0 x3_1 = some r) ∧ Ya (kq ≤ k) ∧ Ya (Below w.heap.size w w'))
 case atStart => exact ⟨(0), Zf, H', ⟨Nat.le_refl _⟩, ⟨Za⟩⟩
 case round =>
  clear H'
  obtain ⟨x3_1, rfl, HA, HK1, HB⟩ := hrel
  cases gk with
  | zero => exact absurd HA.out (by simp [Yqb.l0])
  | succ k1 =>
   have H := HA.out
   clear HA
   simp only [Yqb.l0] at H
   obtain ⟨ji2, hji2⟩ : ∃ j_ : Int, (mn (a0.size : Int) 2) = j_ := ⟨_, rfl⟩
   replace H : (if x3_1 < (ji2) then (if 0 ≤ x3_1 then (if x3_1 < (a0.size : Int) then ((strings_IndexByte.f (⟨#[47, 92]⟩ : ByteArray) (bt a0 x3_1)).bind fun t250 => (if t250 ≥ 0 then (Yqb.l0 k1 a0 (wrap64 (x3_1 + 1))) else (some x3_1))) else (none)) else (none)) else (some x3_1)) = some r := by first | (rw [hji2] at H; exact H) | (simp only [hji2] at H ⊢; exact H)
   have hji2_ : (if 2 < (a0.size : Int) then 2 else (a0.size : Int)) = ji2 := hji2
   by_cases c3 : x3_1 < (ji2)
   rotate_left
   ·rw [if_neg c3] at H
    have c3b0 : decide (x3_1 < (ji2)) = false := decide_eq_false c3
    clear c3
    obtain rfl := Option.some.inj H
    go_wp2
    go_ret
    exact ⟨by first | rfl | (simp [Yj, Yk] <;> rfl) | (simp only [← hji2]; first | rfl | (simp [Yj, Yk] <;> rfl)) | (simp [*, Yj, Yk] <;> rfl), Za⟩
   rw [if_pos c3] at H
   have c3b0 : decide (x3_1 < (ji2)) = true := decide_eq_true c3
   clear c3
   by_cases c4 : 0 ≤ x3_1
   rotate_left
   ·rw [if_neg c4] at H
    exact absurd H Zv
   rw [if_pos c4] at H
   have c4b0 : decide (0 ≤ x3_1) = true := decide_eq_true c4
   clear c4
   by_cases c5 : x3_1 < (a0.size : Int)
   rotate_left
   ·rw [if_neg c5] at H
    exact absurd H Zv
   rw [if_pos c5] at H
   have c5b0 : decide (x3_1 < (a0.size : Int)) = true := decide_eq_true c5
   clear c5
   replace H := Option.bind_eq_some_iff.mp H
   obtain ⟨t250, A70, H⟩ := H
   try dsimp -simprocs only at H
   have A7 := Ya.mk A70
   clear A70
   by_cases c8 : t250 ≥ 0
   rotate_left
   ·rw [if_neg c8] at H
    have c8b0 : decide (0 ≤ t250) = false := decide_eq_false c8
    clear c8
    obtain rfl := Option.some.inj H
    have p6 : 0 ≤ (x3_1 : Int) := of_decide_eq_true Zc
    have q6 : x3_1 < (a0.size : Int) := of_decide_eq_true Zc
    have hx6 := Yya a0 x3_1
    replace p6 := eq_true p6
    replace q6 := eq_true q6
    go_wp2_with (first | (go_at_call 79; (with_reducible refine (strings_IndexByte.calls (⟨#[47, 92]⟩ : ByteArray) (bt a0 x3_1) t250 _ ?side1 A7.out).mono ?_); (case side1 => first | exact HE.out | exact EnvOk.below HE.out Za); rintro e w' ⟨rfl, ⟨nd, rfl⟩⟩))
    go_ret
    exact ⟨by first | rfl | (simp [Yj, Yk] <;> rfl) | (simp only [← hji2]; first | rfl | (simp [Yj, Yk] <;> rfl)) | (simp [*, Yj, Yk] <;> rfl), Za⟩
   rw [if_pos c8] at H
   have c8b0 : decide (0 ≤ t250) = true := decide_eq_true c8
   clear c8
   have H' := Ya.mk H
   clear H
   have p6 : 0 ≤ (x3_1 : Int) := of_decide_eq_true Zc
   have q6 : x3_1 < (a0.size : Int) := of_decide_eq_true Zc
   have hx6 := Yya a0 x3_1
   replace p6 := eq_true p6
   replace q6 := eq_true q6
   go_wp2_with (first | (go_at_call 79; (with_reducible refine (strings_IndexByte.calls (⟨#[47, 92]⟩ : ByteArray) (bt a0 x3_1) t250 _ ?side1 A7.out).mono ?_); (case side1 => first | exact HE.out | exact EnvOk.below HE.out Za); rintro e w' ⟨rfl, ⟨nd, rfl⟩⟩))
   go_roundg k1
   case measure => have := HK1.out; omega
   case rel => exact ⟨(wrap64 (x3_1 + 1)), Zf, H', ⟨Zaa⟩, ⟨Za⟩⟩
def bytealg_LastIndexByteString.l0 : Nat → ByteArray → Int → Int → Option (Int)
 | 0, _, _, _ => none
 | k + 1, x0, x1, x5 => if x5 ≥ 0 then (if 0 ≤ x5 then (if x5 < (x0.size : Int) then (if (bt x0 x5) = x1 then (some x5) else (bytealg_LastIndexByteString.l0 k x0 x1 (wrap64 (x5 - 1)))) else (none)) else (none)) else (some (-1))
def bytealg_LastIndexByteString.f (k : Nat) (a0 : ByteArray) (a1 : Int) : Option (Int) := bytealg_LastIndexByteString.l0 k a0 a1 (wrap64 ((a0.size : Int) - 1))
set_option maxHeartbeats 8000000 in
set_option maxRecDepth 100000 in
theorem bytealg_LastIndexByteString.calls (k : Nat) (a0 : ByteArray) (a1 : Int) (r : Int) (w : World) (hE : EnvOk w) (h : bytealg_LastIndexByteString.f k a0 a1 = some r) :
  Calls Tryz.prog 133 #[.string a0, .int .u8 a1] w fun e w' => e = .returned (.int .i64 r) ∧ Drawn0 w w' := by
 have HE := Ya.mk hE
 clear hE
 have H : (bytealg_LastIndexByteString.l0 k a0 a1 (wrap64 ((a0.size : Int) - 1))) = some r := h
 clear h
 have H' := Ya.mk H
 clear H
 go_enter Tryz.func133, Tryz.ntmps133
 go_wp2
 go_loopg [5] k (fun kq v5 w' => ∃ (x5_1 : Int), v5 = .int .i64 x5_1 ∧ Ya (bytealg_LastIndexByteString.l0 kq a0 a1 x5_1 = some r) ∧ Ya (kq ≤ k) ∧ Drawn0 w w')
 case atStart => exact ⟨(wrap64 ((a0.size : Int) - 1)), Zf, H', ⟨Nat.le_refl _⟩, Zh⟩
 case round =>
  clear H'
  try clear c1
  try clear p2
  obtain ⟨x5_1, rfl, HA, HK1, ⟨m1, rfl⟩⟩ := hrel
  cases gk with
  | zero => exact absurd HA.out (by simp [bytealg_LastIndexByteString.l0])
  | succ k1 =>
   have H := HA.out
   clear HA
   simp only [bytealg_LastIndexByteString.l0] at H
   by_cases c3 : x5_1 ≥ 0
   rotate_left
   ·rw [if_neg c3] at H
    have c3b0 : decide (0 ≤ x5_1) = false := decide_eq_false c3
    clear c3
    obtain rfl := Option.some.inj H
    go_wp2
    go_ret
    exact ⟨Zf, Zh⟩
   rw [if_pos c3] at H
   have c3b0 : decide (0 ≤ x5_1) = true := decide_eq_true c3
   clear c3
   by_cases c4 : 0 ≤ x5_1
   rotate_left
   ·rw [if_neg c4] at H
    exact absurd H Zv
   rw [if_pos c4] at H
   have c4b0 : decide (0 ≤ x5_1) = true := decide_eq_true c4
   clear c4
   by_cases c5 : x5_1 < (a0.size : Int)
   rotate_left
   ·rw [if_neg c5] at H
    exact absurd H Zv
   rw [if_pos c5] at H
   have c5b0 : decide (x5_1 < (a0.size : Int)) = true := decide_eq_true c5
   clear c5
   by_cases c7 : (bt a0 x5_1) = a1
   ·rw [if_pos c7] at H
    have c7b0 : ((bt a0 x5_1) == a1) = true := beq_iff_eq.mpr c7
    have c7b1 : ((bt a0 x5_1) != a1) = false := bne_eq_false_iff_eq.mpr c7
    clear c7
    obtain rfl := Option.some.inj H
    have p6 : 0 ≤ (x5_1 : Int) := of_decide_eq_true Zc
    have q6 : x5_1 < (a0.size : Int) := of_decide_eq_true Zc
    have hx6 := Yya a0 x5_1
    replace p6 := eq_true p6
    replace q6 := eq_true q6
    go_wp2
    go_ret
    exact ⟨Zf, Zh⟩
   rw [if_neg c7] at H
   have c7b0 : ((bt a0 x5_1) == a1) = false := beq_eq_false_iff_ne.mpr c7
   have c7b1 : ((bt a0 x5_1) != a1) = true := bne_iff_ne.mpr c7
   have H' := Ya.mk H
   clear H
   have p6 : 0 ≤ (x5_1 : Int) := of_decide_eq_true Zc
   have q6 : x5_1 < (a0.size : Int) := of_decide_eq_true Zc
   have hx6 := Yya a0 x5_1
   replace p6 := eq_true p6
   replace q6 := eq_true q6
   go_wp2
   go_roundg k1
   case measure => have := HK1.out; omega
   case rel => exact ⟨(wrap64 (x5_1 - 1)), Zf, H', ⟨Zaa⟩, Zh⟩
def strings_LastIndexByte.f (k : Nat) (a0 : ByteArray) (a1 : Int) : Option (Int) := (bytealg_LastIndexByteString.f k a0 a1).bind fun t251 => (some t251)
set_option maxHeartbeats 8000000 in
set_option maxRecDepth 100000 in
theorem strings_LastIndexByte.calls (k : Nat) (a0 : ByteArray) (a1 : Int) (r : Int) (w : World) (hE : EnvOk w) (h : strings_LastIndexByte.f k a0 a1 = some r) :
  Calls Tryz.prog 108 #[.string a0, .int .u8 a1] w fun e w' => e = .returned (.int .i64 r) ∧ Drawn0 w w' := by
 have HE := Ya.mk hE
 clear hE
 have H : ((bytealg_LastIndexByteString.f k a0 a1).bind fun t251 => (some t251)) = some r := h
 clear h
 replace H := Option.bind_eq_some_iff.mp H
 obtain ⟨t251, A30, H⟩ := H
 try dsimp -simprocs only at H
 have A3 := Ya.mk A30
 clear A30
 obtain rfl := Option.some.inj H
 go_enter Tryz.func108, Tryz.ntmps108
 go_wp2_with (first | ((with_reducible refine Yh (f := 133) rfl ?_); refine Yz (some 7) rfl rfl Tryz.func133 Zi rfl #[.string a0, .int .u8 a1] rfl Zb ?_; (with_reducible refine (bytealg_LastIndexByteString.calls k a0 a1 t251 _ ?side1 A3.out).mono ?_); (case side1 => first | exact HE.out | exact EnvOk.heap HE.out rfl); rintro e w' ⟨rfl, ⟨nd, rfl⟩⟩; refine ⟨_, rfl, ?_⟩))
 go_ret
 exact ⟨Zf, Zh⟩
def Yte.f (k : Nat) (a0_0 : ByteArray) (a0_1 : ByteArray) (a0_2 : Int) (a0_3 : ByteArray) (a0_4 : ByteArray) (a0_5 : ByteArray) (a0_6 : Bool) (a0_7 : Bool) : Option (ByteArray) := (Yni.f a0_0 a0_1 a0_2 a0_3 a0_4 a0_5 a0_6 a0_7).bind fun bt253 => ((Ygd.f k bt253.1 bt253.2.1 bt253.2.2.1 bt253.2.2.2.1 bt253.2.2.2.2.1 bt253.2.2.2.2.2.1 bt253.2.2.2.2.2.2.1 bt253.2.2.2.2.2.2.2).bind fun t261 => (some t261))
set_option maxHeartbeats 8000000 in
set_option maxRecDepth 100000 in
theorem Yte.calls (k : Nat) (a0_0 : ByteArray) (a0_1 : ByteArray) (a0_2 : Int) (a0_3 : ByteArray) (a0_4 : ByteArray) (a0_5 : ByteArray) (a0_6 : Bool) (a0_7 : Bool) (r : ByteArray) (w : World) (hE : EnvOk w) (h : Yte.f k a0_0 a0_1 a0_2 a0_3 a0_4 a0_5 a0_6 a0_7 = some r) :
  Calls Tryz.prog 36 #[.agg #[.string a0_0, .string a0_1, .int .i64 a0_2, .string a0_3, .string a0_4, .string a0_5, .bool a0_6, .bool a0_7]] w fun e w' => e = .returned (.string r) ∧ Below w.heap.size w w' := by
 have hu25 := Tryz.underlying25
 have HE := Ya.mk hE
 clear hE
 have HB := Ya.mk (Below.refl w.heap.size w)
 have H : ((Yni.f a0_0 a0_1 a0_2 a0_3 a0_4 a0_5 a0_6 a0_7).bind fun bt253 => ((Ygd.f k bt253.1 bt253.2.1 bt253.2.2.1 bt253.2.2.2.1 bt253.2.2.2.2.1 bt253.2.2.2.2.2.1 bt253.2.2.2.2.2.2.1 bt253.2.2.2.2.2.2.2).bind fun t261 => (some t261))) = some r := h
 clear h
 replace H := Option.bind_eq_some_iff.mp H
 obtain ⟨⟨t253, t254, t255, t256, t257, t258, t259, t260⟩, A20, H⟩ := H
 try dsimp -simprocs only at H
 have A2 := Ya.mk A20
 clear A20
 replace H := Option.bind_eq_some_iff.mp H
 obtain ⟨t261, A30, H⟩ := H
 try dsimp -simprocs only at H
 have A3 := Ya.mk A30
 clear A30
 obtain rfl := Option.some.inj H
 go_enter Tryz.func36, Tryz.ntmps36
 go_wp2_with (first | ((with_reducible refine Yuc (N := 1) rfl ?_); refine Yrc ?hg (N := 1) ?hd (cs := #[.string a0_0, .string a0_1, .int .i64 a0_2, .string a0_3, .string a0_4, .string a0_5, .bool a0_6, .bool a0_7]) (t := 25) ?hr ?_; (case hd => rfl); (case hg => rfl); (case hr => first | (go_simp; done) | (go_simp; rfl)); intro gb252 hg w4 hbox hb; have n0_ := Ya.mk (Yq Za hb); have n1_ := Ya.mk (hbox); have n2_ := Ya.mk ((by rw [hg]; exact (Yea Za) : w.heap.size ≤ gb252)); have n3_ := Ya.mk ((by rw [hg]; exact (Yea Za) : w.heap.size ≤ gb252)); clear HB; have HB := n0_; have BK252 := n1_; have GW252 := n2_; have GE252 := n3_; clear n0_ n1_ n2_ n3_; clear hb hbox hg; have hcz5_0 : w4.cell? ⟨gb252, 0, none⟩ = some (.string a0_0) := (Yf BK252.out 0).trans rfl; have hcz5_1 : w4.cell? ⟨gb252, 1, none⟩ = some (.string a0_1) := (Yf BK252.out 1).trans rfl; have hcz5_2 : w4.cell? ⟨gb252, 2, none⟩ = some (.int .i64 a0_2) := (Yf BK252.out 2).trans rfl; have hcz5_3 : w4.cell? ⟨gb252, 3, none⟩ = some (.string a0_3) := (Yf BK252.out 3).trans rfl; have hcz5_4 : w4.cell? ⟨gb252, 4, none⟩ = some (.string a0_4) := (Yf BK252.out 4).trans rfl; have hcz5_5 : w4.cell? ⟨gb252, 5, none⟩ = some (.string a0_5) := (Yf BK252.out 5).trans rfl; have hcz5_6 : w4.cell? ⟨gb252, 6, none⟩ = some (.bool a0_6) := (Yf BK252.out 6).trans rfl; have hcz5_7 : w4.cell? ⟨gb252, 7, none⟩ = some (.bool a0_7) := (Yf BK252.out 7).trans rfl; have hfz5_0 := Ye BK252.out 0; have hfz5_1 := Ye BK252.out 1; have hfz5_2 := Ye BK252.out 2; have hfz5_3 := Ye BK252.out 3; have hfz5_4 := Ye BK252.out 4; have hfz5_5 := Ye BK252.out 5; have hfz5_6 := Ye BK252.out 6; have hfz5_7 := Ye BK252.out 7) | ((with_reducible refine Yh (f := 28) rfl ?_); refine Yz (some 4) rfl rfl Tryz.func28 Zi rfl #[.agg #[.string a0_0, .string a0_1, .int .i64 a0_2, .string a0_3, .string a0_4, .string a0_5, .bool a0_6, .bool a0_7]] rfl Zb ?_; (with_reducible refine (Yni.calls a0_0 a0_1 a0_2 a0_3 a0_4 a0_5 a0_6 a0_7 t253 t254 t255 t256 t257 t258 t259 t260 _ ?side1 A2.out).mono ?_); (case side1 => first | exact HE.out | exact EnvOk.below HE.out Zfa); rintro e w6 ⟨rfl, hb⟩; refine ⟨_, rfl, ?_⟩; have n0_ := Ya.mk (Ydb (g := gb252) (o := .cells #[.string a0_0, .string a0_1, .int .i64 a0_2, .string a0_3, .string a0_4, .string a0_5, .bool a0_6, .bool a0_7] 25 (0, 0)) (by (with_reducible repeat (first | refine Yl ?_ _ | refine Yp ?_ | refine Ym ?_ _)); exact BK252.out) hb); have n1_ := Ya.mk (Yq Zfa hb); clear BK252; clear HB; have BK252 := n0_; have HB := n1_; clear n0_ n1_; (try clear hb); (try clear hb2); (try clear hk); (try clear hi)) | ((with_reducible refine Yh (f := 26) rfl ?_); refine Yz (some 5) rfl rfl Tryz.func26 Zi rfl #[.agg #[.string t253, .string t254, .int .i64 t255, .string t256, .string t257, .string t258, .bool t259, .bool t260]] rfl Zb ?_; (with_reducible refine (Ygd.calls k t253 t254 t255 t256 t257 t258 t259 t260 t261 _ ?side1 A3.out).mono ?_); (case side1 => first | exact HE.out | exact EnvOk.below HE.out Zfa); rintro e w7 ⟨rfl, hb⟩; refine ⟨_, rfl, ?_⟩; have n0_ := Ya.mk (Ydb (g := gb252) (o := .cells #[.string a0_0, .string a0_1, .int .i64 a0_2, .string a0_3, .string a0_4, .string a0_5, .bool a0_6, .bool a0_7] 25 (0, 0)) (by (with_reducible repeat (first | refine Yl ?_ _ | refine Yp ?_ | refine Ym ?_ _)); exact BK252.out) hb); have n1_ := Ya.mk (Yq Zfa hb); clear BK252; clear HB; have BK252 := n0_; have HB := n1_; clear n0_ n1_; (try clear hb); (try clear hb2); (try clear hk); (try clear hi)))
 go_ret
 exact ⟨Zk, Zfa⟩
def Ynh.f  : Option (ByteArray × ByteArray × Int × ByteArray × ByteArray × ByteArray × Bool × Bool) := some ((⟨#[104, 116, 116, 112]⟩ : ByteArray), (⟨#[97, 46, 98]⟩ : ByteArray), 0, (⟨#[47, 99, 47, 100]⟩ : ByteArray), (⟨#[101]⟩ : ByteArray), (⟨#[]⟩ : ByteArray), true, false)
set_option maxHeartbeats 8000000 in
set_option maxRecDepth 100000 in
theorem Ynh.calls  (r1 : ByteArray) (r2 : ByteArray) (r3 : Int) (r4 : ByteArray) (r5 : ByteArray) (r6 : ByteArray) (r7 : Bool) (r8 : Bool) (w : World) (hE : EnvOk w) (h : Ynh.f  = some (r1, r2, r3, r4, r5, r6, r7, r8)) :
  Calls Tryz.prog 69 #[] w fun e w' => e = .returned (.agg #[.string r1, .string r2, .int .i64 r3, .string r4, .string r5, .string r6, .bool r7, .bool r8]) ∧ Below w.heap.size w w' := by
 have hu25 := Tryz.underlying25
 have HE := Ya.mk hE
 clear hE
 have HB := Ya.mk (Below.refl w.heap.size w)
 have H : (some ((⟨#[104, 116, 116, 112]⟩ : ByteArray), (⟨#[97, 46, 98]⟩ : ByteArray), 0, (⟨#[47, 99, 47, 100]⟩ : ByteArray), (⟨#[101]⟩ : ByteArray), (⟨#[]⟩ : ByteArray), true, false)) = some (r1, r2, r3, r4, r5, r6, r7, r8) := h
 clear h
 simp only [Option.some.injEq, Prod.mk.injEq] at H
 obtain ⟨rfl, rfl, rfl, rfl, rfl, rfl, rfl, rfl⟩ := H
 go_enter Tryz.func69, Tryz.ntmps69
 go_wp2_with (first | ((with_reducible refine Yuc (N := 0) rfl ?_); refine Yrc ?hg (N := 0) ?hd (cs := #[.string (⟨#[]⟩ : ByteArray), .string (⟨#[]⟩ : ByteArray), .int .i64 0, .string (⟨#[]⟩ : ByteArray), .string (⟨#[]⟩ : ByteArray), .string (⟨#[]⟩ : ByteArray), .bool false, .bool false]) (t := 25) ?hr ?_; (case hd => rfl); (case hg => rfl); (case hr => first | (go_simp; done) | (go_simp; rfl)); intro gb262 hg w1 hbox hb; have n0_ := Ya.mk (Yq Za hb); have n1_ := Ya.mk (hbox); have n2_ := Ya.mk ((by rw [hg]; exact (Yea Za) : w.heap.size ≤ gb262)); have n3_ := Ya.mk ((by rw [hg]; exact (Yea Za) : w.heap.size ≤ gb262)); clear HB; have HB := n0_; have BK262 := n1_; have GW262 := n2_; have GE262 := n3_; clear n0_ n1_ n2_ n3_; clear hb hbox hg; have hcz2_0 : w1.cell? ⟨gb262, 0, none⟩ = some (.string (⟨#[]⟩ : ByteArray)) := (Yf BK262.out 0).trans rfl; have hcz2_1 : w1.cell? ⟨gb262, 1, none⟩ = some (.string (⟨#[]⟩ : ByteArray)) := (Yf BK262.out 1).trans rfl; have hcz2_2 : w1.cell? ⟨gb262, 2, none⟩ = some (.int .i64 0) := (Yf BK262.out 2).trans rfl; have hcz2_3 : w1.cell? ⟨gb262, 3, none⟩ = some (.string (⟨#[]⟩ : ByteArray)) := (Yf BK262.out 3).trans rfl; have hcz2_4 : w1.cell? ⟨gb262, 4, none⟩ = some (.string (⟨#[]⟩ : ByteArray)) := (Yf BK262.out 4).trans rfl; have hcz2_5 : w1.cell? ⟨gb262, 5, none⟩ = some (.string (⟨#[]⟩ : ByteArray)) := (Yf BK262.out 5).trans rfl; have hcz2_6 : w1.cell? ⟨gb262, 6, none⟩ = some (.bool false) := (Yf BK262.out 6).trans rfl; have hcz2_7 : w1.cell? ⟨gb262, 7, none⟩ = some (.bool false) := (Yf BK262.out 7).trans rfl; have hfz2_0 := Ye BK262.out 0; have hfz2_1 := Ye BK262.out 1; have hfz2_2 := Ye BK262.out 2; have hfz2_3 := Ye BK262.out 3; have hfz2_4 := Ye BK262.out 4; have hfz2_5 := Ye BK262.out 5; have hfz2_6 := Ye BK262.out 6; have hfz2_7 := Ye BK262.out 7))
 refine bodyPost_ret (results_cell_row rfl _ _ gb262 25 #[.string (⟨#[104, 116, 116, 112]⟩ : ByteArray), .string (⟨#[97, 46, 98]⟩ : ByteArray), .int .i64 0, .string (⟨#[47, 99, 47, 100]⟩ : ByteArray), .string (⟨#[101]⟩ : ByteArray), .string (⟨#[]⟩ : ByteArray), .bool true, .bool false] (0, 0) _ rfl (by (with_reducible repeat (first | refine Yl ?_ _ | refine Yp ?_ | refine Ym ?_ _)); refine Yma (cs := #[.string (⟨#[104, 116, 116, 112]⟩ : ByteArray), .string (⟨#[97, 46, 98]⟩ : ByteArray), .int .i64 0, .string (⟨#[47, 99, 47, 100]⟩ : ByteArray), .string (⟨#[101]⟩ : ByteArray), .string (⟨#[]⟩ : ByteArray), .bool true, .bool false]) ?_ 7 _ rfl; (with_reducible repeat (first | refine Yl ?_ _ | refine Yp ?_ | refine Ym ?_ _)); refine Yma (cs := #[.string (⟨#[104, 116, 116, 112]⟩ : ByteArray), .string (⟨#[97, 46, 98]⟩ : ByteArray), .int .i64 0, .string (⟨#[47, 99, 47, 100]⟩ : ByteArray), .string (⟨#[101]⟩ : ByteArray), .string (⟨#[]⟩ : ByteArray), .bool false, .bool false]) ?_ 6 _ rfl; (with_reducible repeat (first | refine Yl ?_ _ | refine Yp ?_ | refine Ym ?_ _)); refine Yma (cs := #[.string (⟨#[104, 116, 116, 112]⟩ : ByteArray), .string (⟨#[97, 46, 98]⟩ : ByteArray), .int .i64 0, .string (⟨#[47, 99, 47, 100]⟩ : ByteArray), .string (⟨#[101]⟩ : ByteArray), .string (⟨#[]⟩ : ByteArray), .bool false, .bool false]) ?_ 5 _ rfl; (with_reducible repeat (first | refine Yl ?_ _ | refine Yp ?_ | refine Ym ?_ _)); refine Yma (cs := #[.string (⟨#[104, 116, 116, 112]⟩ : ByteArray), .string (⟨#[97, 46, 98]⟩ : ByteArray), .int .i64 0, .string (⟨#[47, 99, 47, 100]⟩ : ByteArray), .string (⟨#[]⟩ : ByteArray), .string (⟨#[]⟩ : ByteArray), .bool false, .bool false]) ?_ 4 _ rfl; (with_reducible repeat (first | refine Yl ?_ _ | refine Yp ?_ | refine Ym ?_ _)); refine Yma (cs := #[.string (⟨#[104, 116, 116, 112]⟩ : ByteArray), .string (⟨#[97, 46, 98]⟩ : ByteArray), .int .i64 0, .string (⟨#[]⟩ : ByteArray), .string (⟨#[]⟩ : ByteArray), .string (⟨#[]⟩ : ByteArray), .bool false, .bool false]) ?_ 3 _ rfl; (with_reducible repeat (first | refine Yl ?_ _ | refine Yp ?_ | refine Ym ?_ _)); refine Yma (cs := #[.string (⟨#[104, 116, 116, 112]⟩ : ByteArray), .string (⟨#[97, 46, 98]⟩ : ByteArray), .int .i64 0, .string (⟨#[]⟩ : ByteArray), .string (⟨#[]⟩ : ByteArray), .string (⟨#[]⟩ : ByteArray), .bool false, .bool false]) ?_ 2 _ rfl; (with_reducible repeat (first | refine Yl ?_ _ | refine Yp ?_ | refine Ym ?_ _)); refine Yma (cs := #[.string (⟨#[104, 116, 116, 112]⟩ : ByteArray), .string (⟨#[]⟩ : ByteArray), .int .i64 0, .string (⟨#[]⟩ : ByteArray), .string (⟨#[]⟩ : ByteArray), .string (⟨#[]⟩ : ByteArray), .bool false, .bool false]) ?_ 1 _ rfl; (with_reducible repeat (first | refine Yl ?_ _ | refine Yp ?_ | refine Ym ?_ _)); refine Yma (cs := #[.string (⟨#[]⟩ : ByteArray), .string (⟨#[]⟩ : ByteArray), .int .i64 0, .string (⟨#[]⟩ : ByteArray), .string (⟨#[]⟩ : ByteArray), .string (⟨#[]⟩ : ByteArray), .bool false, .bool false]) ?_ 0 _ rfl; (with_reducible repeat (first | refine Yl ?_ _ | refine Yp ?_ | refine Ym ?_ _)); exact BK262.out) Tryz.underlying25 rfl Zi) rfl ?_
 exact ⟨Zk, by repeat (first | (with_reducible first | exact HB.out | apply Yd | apply Yb | apply Yc | refine Yg ?_ GE262.out) | exact HB.out)⟩
def Ydi.f (k : Nat) (a0_0 : ByteArray) (a0_1 : ByteArray) (a0_2 : Int) (a0_3 : ByteArray) (a0_4 : ByteArray) (a0_5 : ByteArray) (a0_6 : Bool) (a0_7 : Bool) (a1_0 : ByteArray) (a1_1 : ByteArray) (a1_2 : Int) (a1_3 : ByteArray) (a1_4 : ByteArray) (a1_5 : ByteArray) (a1_6 : Bool) (a1_7 : Bool) : Option (Bool) := (Yte.f k a0_0 a0_1 a0_2 a0_3 a0_4 a0_5 a0_6 a0_7).bind fun t265 => ((Yte.f k a1_0 a1_1 a1_2 a1_3 a1_4 a1_5 a1_6 a1_7).bind fun t266 => (some (t265.toList == t266.toList)))
set_option maxHeartbeats 8000000 in
set_option maxRecDepth 100000 in
theorem Ydi.calls (k : Nat) (a0_0 : ByteArray) (a0_1 : ByteArray) (a0_2 : Int) (a0_3 : ByteArray) (a0_4 : ByteArray) (a0_5 : ByteArray) (a0_6 : Bool) (a0_7 : Bool) (a1_0 : ByteArray) (a1_1 : ByteArray) (a1_2 : Int) (a1_3 : ByteArray) (a1_4 : ByteArray) (a1_5 : ByteArray) (a1_6 : Bool) (a1_7 : Bool) (r : Bool) (w : World) (hE : EnvOk w) (h : Ydi.f k a0_0 a0_1 a0_2 a0_3 a0_4 a0_5 a0_6 a0_7 a1_0 a1_1 a1_2 a1_3 a1_4 a1_5 a1_6 a1_7 = some r) :
  Calls Tryz.prog 37 #[.agg #[.string a0_0, .string a0_1, .int .i64 a0_2, .string a0_3, .string a0_4, .string a0_5, .bool a0_6, .bool a0_7], .agg #[.string a1_0, .string a1_1, .int .i64 a1_2, .string a1_3, .string a1_4, .string a1_5, .bool a1_6, .bool a1_7]] w fun e w' => e = .returned (.bool r) ∧ Below w.heap.size w w' := by
 have hu25 := Tryz.underlying25
 have HE := Ya.mk hE
 clear hE
 have HB := Ya.mk (Below.refl w.heap.size w)
 have H : ((Yte.f k a0_0 a0_1 a0_2 a0_3 a0_4 a0_5 a0_6 a0_7).bind fun t265 => ((Yte.f k a1_0 a1_1 a1_2 a1_3 a1_4 a1_5 a1_6 a1_7).bind fun t266 => (some (t265.toList == t266.toList)))) = some r := h
 clear h
 replace H := Option.bind_eq_some_iff.mp H
 obtain ⟨t265, A30, H⟩ := H
 try dsimp -simprocs only at H
 have A3 := Ya.mk A30
 clear A30
 replace H := Option.bind_eq_some_iff.mp H
 obtain ⟨t266, A40, H⟩ := H
 try dsimp -simprocs only at H
 have A4 := Ya.mk A40
 clear A40
 obtain rfl := Option.some.inj H
 go_enter Tryz.func37, Tryz.ntmps37
 try go_wp2_with (first | ((with_reducible refine Yuc (N := 2) rfl ?_); refine Yrc ?hg (N := 2) ?hd (cs := #[.string a0_0, .string a0_1, .int .i64 a0_2, .string a0_3, .string a0_4, .string a0_5, .bool a0_6, .bool a0_7]) (t := 25) ?hr ?_; (case hd => rfl); (case hg => rfl); (case hr => first | (go_simp; done) | (go_simp; rfl)); intro gb263 hg w5 hbox hb; have n0_ := Ya.mk (Yq Za hb); have n1_ := Ya.mk (hbox); have n2_ := Ya.mk ((by rw [hg]; exact (Yea Za) : w.heap.size ≤ gb263)); have n3_ := Ya.mk ((by rw [hg]; exact (Yea Za) : w.heap.size ≤ gb263)); clear HB; have HB := n0_; have BK263 := n1_; have GW263 := n2_; have GE263 := n3_; clear n0_ n1_ n2_ n3_; clear hb hbox hg) | ((with_reducible refine Yuc (N := 3) rfl ?_); refine Yrc ?hg (N := 3) ?hd (cs := #[.string a1_0, .string a1_1, .int .i64 a1_2, .string a1_3, .string a1_4, .string a1_5, .bool a1_6, .bool a1_7]) (t := 25) ?hr ?_; (case hd => rfl); (case hg => rfl); (case hr => first | (go_simp; done) | (go_simp; rfl)); intro gb264 hg w6 hbox hb; have n0_ := Ya.mk (Ydb (g := gb263) (o := .cells #[.string a0_0, .string a0_1, .int .i64 a0_2, .string a0_3, .string a0_4, .string a0_5, .bool a0_6, .bool a0_7] 25 (0, 0)) Zoa hb); have n1_ := Ya.mk (Yq Zwa hb); have n2_ := Ya.mk (hbox); have n3_ := Ya.mk ((by rw [hg]; exact (Yea Zwa) : w.heap.size ≤ gb264)); have n4_ := Ya.mk ((by rw [hg]; exact (Yea Zwa) : w.heap.size ≤ gb264)); have n5_ := Ya.mk ((by rw [hg]; exact Nat.ne_of_lt (Yje (g := gb263) (o := .cells #[.string a0_0, .string a0_1, .int .i64 a0_2, .string a0_3, .string a0_4, .string a0_5, .bool a0_6, .bool a0_7] 25 (0, 0)) Zoa) : gb263 ≠ gb264)); have n6_ := Ya.mk ((by rw [hg]; exact Nat.ne_of_gt (Yje (g := gb263) (o := .cells #[.string a0_0, .string a0_1, .int .i64 a0_2, .string a0_3, .string a0_4, .string a0_5, .bool a0_6, .bool a0_7] 25 (0, 0)) Zoa) : gb264 ≠ gb263)); clear BK263; clear HB; have BK263 := n0_; have HB := n1_; have BK264 := n2_; have GW264 := n3_; have GE264 := n4_; have NB263_264 := n5_; have NB264_263 := n6_; clear n0_ n1_ n2_ n3_ n4_ n5_ n6_; clear hb hbox hg))
 have n0_ := Ya.mk (Yp BK263.out)
 have n1_ := Ya.mk (Yp BK264.out)
 have n2_ := Ya.mk (Yc HB.out)
 clear BK263
 clear BK264
 clear HB
 have BK263 := n0_
 have BK264 := n1_
 have HB := n2_
 clear n0_ n1_ n2_
 refine Ylh (n := 6) (S := fun w' => w'.cell? ⟨gb263, 0, none⟩ = some (.string a0_0) ∧ w'.cell? ⟨gb263, 1, none⟩ = some (.string a0_1) ∧ w'.cell? ⟨gb263, 2, none⟩ = some (.int .i64 a0_2) ∧ w'.cell? ⟨gb263, 3, none⟩ = some (.string a0_3) ∧ w'.cell? ⟨gb263, 4, none⟩ = some (.string a0_4) ∧ w'.cell? ⟨gb263, 5, none⟩ = some (.string a0_5) ∧ w'.cell? ⟨gb263, 6, none⟩ = some (.bool a0_6) ∧ w'.cell? ⟨gb263, 7, none⟩ = some (.bool a0_7) ∧ w'.cell? ⟨gb264, 0, none⟩ = some (.string a1_0) ∧ w'.cell? ⟨gb264, 1, none⟩ = some (.string a1_1) ∧ w'.cell? ⟨gb264, 2, none⟩ = some (.int .i64 a1_2) ∧ w'.cell? ⟨gb264, 3, none⟩ = some (.string a1_3) ∧ w'.cell? ⟨gb264, 4, none⟩ = some (.string a1_4) ∧ w'.cell? ⟨gb264, 5, none⟩ = some (.string a1_5) ∧ w'.cell? ⟨gb264, 6, none⟩ = some (.bool a1_6) ∧ w'.cell? ⟨gb264, 7, none⟩ = some (.bool a1_7)) (ds := []) #[false, false, false, false, false, false] Zi rfl rfl ⟨(Yf BK263.out 0).trans rfl, (Yf BK263.out 1).trans rfl, (Yf BK263.out 2).trans rfl, (Yf BK263.out 3).trans rfl, (Yf BK263.out 4).trans rfl, (Yf BK263.out 5).trans rfl, (Yf BK263.out 6).trans rfl, (Yf BK263.out 7).trans rfl, (Yf BK264.out 0).trans rfl, (Yf BK264.out 1).trans rfl, (Yf BK264.out 2).trans rfl, (Yf BK264.out 3).trans rfl, (Yf BK264.out 4).trans rfl, (Yf BK264.out 5).trans rfl, (Yf BK264.out 6).trans rfl, (Yf BK264.out 7).trans rfl⟩ (fun hHeld => ?_)
 generalize w6.drew = w7 at BK263 BK264 HB hHeld ⊢
 refine Ymg (i := 0) (N := some 5) (v := ?_) (a' := ?_) #[true, false, false, false, false, false] rfl rfl Zi (fun _ _ _ h => h) (Or.inl ⟨Zla, ?_⟩) hHeld ?_ ?_
 rotate_left
 ·rintro w' ⟨s0, s1, s2, s3, s4, s5, s6, s7, s8, s9, s10, s11, s12, s13, s14, s15⟩
  go_simp
  with_reducible rfl
 rotate_left
 ·simp only [Act.put, List.setIfInBounds_toArray, List.set_cons_zero, List.set_cons_succ, Yqa, Yra]
  rfl
 refine Ymg (i := 2) (N := some 7) (v := ?_) (a' := ?_) #[true, false, true, false, false, false] rfl rfl Zi (fun _ _ _ h => h) (Or.inl ⟨Zla, ?_⟩) hHeld ?_ ?_
 rotate_left
 ·rintro w' ⟨s0, s1, s2, s3, s4, s5, s6, s7, s8, s9, s10, s11, s12, s13, s14, s15⟩
  go_simp
  with_reducible rfl
 rotate_left
 ·simp only [Act.put, List.setIfInBounds_toArray, List.set_cons_zero, List.set_cons_succ, Yqa, Yra]
  rfl
 refine one_ (i := 1) (N := some 6) #[true, true, true, false, false, false] rfl rfl Zi Zda (fun K hK => ?_)
 refine Yvh Tryz.func36 Zi rfl #[.agg #[.string a0_0, .string a0_1, .int .i64 a0_2, .string a0_3, .string a0_4, .string a0_5, .bool a0_6, .bool a0_7]] Zla rfl rfl Zb ?_
 with_reducible refine (Yte.calls k a0_0 a0_1 a0_2 a0_3 a0_4 a0_5 a0_6 a0_7 t265 _ ?side1 A3.out).mono ?_
 (case side1 => first | exact HE.out | exact EnvOk.below HE.out Zca)
 rintro e w8 ⟨rfl, hb⟩
 refine ⟨_, rfl, ?_⟩
 have n0_ := Ya.mk (Ydb (g := gb263) (o := .cells #[.string a0_0, .string a0_1, .int .i64 a0_2, .string a0_3, .string a0_4, .string a0_5, .bool a0_6, .bool a0_7] 25 (0, 0)) Zoa hb)
 have n1_ := Ya.mk (Ydb (g := gb264) (o := .cells #[.string a1_0, .string a1_1, .int .i64 a1_2, .string a1_3, .string a1_4, .string a1_5, .bool a1_6, .bool a1_7] 25 (0, 0)) (by (with_reducible repeat (first | refine Yl ?_ _ | refine Yp ?_ | refine Ym ?_ _)); exact BK264.out) hb)
 have n2_ := Ya.mk (Yq Zca hb)
 clear BK263
 clear BK264
 clear HB
 have BK263 := n0_
 have BK264 := n1_
 have HB := n2_
 clear n0_ n1_ n2_
 (try clear hb)
 (try clear hb2)
 (try clear hk)
 (try clear hi)
 refine hK.out _ _ ⟨(Yf BK263.out 0).trans rfl, (Yf BK263.out 1).trans rfl, (Yf BK263.out 2).trans rfl, (Yf BK263.out 3).trans rfl, (Yf BK263.out 4).trans rfl, (Yf BK263.out 5).trans rfl, (Yf BK263.out 6).trans rfl, (Yf BK263.out 7).trans rfl, (Yf BK264.out 0).trans rfl, (Yf BK264.out 1).trans rfl, (Yf BK264.out 2).trans rfl, (Yf BK264.out 3).trans rfl, (Yf BK264.out 4).trans rfl, (Yf BK264.out 5).trans rfl, (Yf BK264.out 6).trans rfl, (Yf BK264.out 7).trans rfl⟩ (fun hHeld => ?_)
 clear hK K
 refine Ywf (a' := ?_) ?_ ?_
 rotate_left
 ·show Act.put _ (some 6) _ = _
  simp only [Act.put, List.setIfInBounds_toArray, List.set_cons_zero, List.set_cons_succ, Yqa, Yra]
  rfl
 refine one_ (i := 3) (N := some 8) #[true, true, true, true, false, false] rfl rfl Zi Zda (fun K hK => ?_)
 refine Yvh Tryz.func36 Zi rfl #[.agg #[.string a1_0, .string a1_1, .int .i64 a1_2, .string a1_3, .string a1_4, .string a1_5, .bool a1_6, .bool a1_7]] Zla rfl rfl Zb ?_
 with_reducible refine (Yte.calls k a1_0 a1_1 a1_2 a1_3 a1_4 a1_5 a1_6 a1_7 t266 _ ?side1 A4.out).mono ?_
 (case side1 => first | exact HE.out | exact EnvOk.below HE.out Zca)
 rintro e w9 ⟨rfl, hb⟩
 refine ⟨_, rfl, ?_⟩
 have n0_ := Ya.mk (Ydb (g := gb263) (o := .cells #[.string a0_0, .string a0_1, .int .i64 a0_2, .string a0_3, .string a0_4, .string a0_5, .bool a0_6, .bool a0_7] 25 (0, 0)) Zoa hb)
 have n1_ := Ya.mk (Ydb (g := gb264) (o := .cells #[.string a1_0, .string a1_1, .int .i64 a1_2, .string a1_3, .string a1_4, .string a1_5, .bool a1_6, .bool a1_7] 25 (0, 0)) (by (with_reducible repeat (first | refine Yl ?_ _ | refine Yp ?_ | refine Ym ?_ _)); exact BK264.out) hb)
 have n2_ := Ya.mk (Yq Zca hb)
 clear BK263
 clear BK264
 clear HB
 have BK263 := n0_
 have BK264 := n1_
 have HB := n2_
 clear n0_ n1_ n2_
 (try clear hb)
 (try clear hb2)
 (try clear hk)
 (try clear hi)
 refine hK.out _ _ ⟨(Yf BK263.out 0).trans rfl, (Yf BK263.out 1).trans rfl, (Yf BK263.out 2).trans rfl, (Yf BK263.out 3).trans rfl, (Yf BK263.out 4).trans rfl, (Yf BK263.out 5).trans rfl, (Yf BK263.out 6).trans rfl, (Yf BK263.out 7).trans rfl, (Yf BK264.out 0).trans rfl, (Yf BK264.out 1).trans rfl, (Yf BK264.out 2).trans rfl, (Yf BK264.out 3).trans rfl, (Yf BK264.out 4).trans rfl, (Yf BK264.out 5).trans rfl, (Yf BK264.out 6).trans rfl, (Yf BK264.out 7).trans rfl⟩ (fun hHeld => ?_)
 clear hK K
 refine Ywf (a' := ?_) ?_ ?_
 rotate_left
 ·show Act.put _ (some 8) _ = _
  simp only [Act.put, List.setIfInBounds_toArray, List.set_cons_zero, List.set_cons_succ, Yqa, Yra]
  rfl
 refine Yrb (i := 4) (N := some 9) (v := ?_) (a' := ?_) #[true, true, true, true, true, false] rfl rfl Zi (fun _ _ _ h => h) (Or.inl ⟨Zla, ?_⟩) ?_ ?_
 rotate_left
 ·intro w'
  go_simp
  with_reducible rfl
 rotate_left
 ·simp only [Act.put, List.setIfInBounds_toArray, List.set_cons_zero, List.set_cons_succ, Yqa, Yra]
  rfl
 refine Yrb (i := 5) (N := some 4) (v := ?_) (a' := ?_) #[true, true, true, true, true, true] rfl rfl Zi (fun _ _ _ h => h) (Or.inl ⟨Zla, ?_⟩) ?_ ?_
 rotate_left
 ·intro w'
  go_simp
  with_reducible rfl
 rotate_left
 ·simp only [Act.put, List.setIfInBounds_toArray, List.set_cons_zero, List.set_cons_succ, Yqa, Yra]
  rfl
 refine Yqi Zi ?_
 try go_wp2
 go_ret
 exact ⟨Zk, Zca⟩
end Go.Proofs.YtnmglnglbdpjjaaGreatDoor.X
