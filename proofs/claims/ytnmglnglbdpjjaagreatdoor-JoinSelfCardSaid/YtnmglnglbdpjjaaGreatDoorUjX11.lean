/- Printed by a program of ours: functions as plain Lean, and what a call of each does. -/
import Derived.Test.YtnmglnglbdpjjaaGreatDoorUjWords
import Derived.Test.YtnmglnglbdpjjaaGreatDoorUjX0
import Derived.Test.YtnmglnglbdpjjaaGreatDoorUjX6
import Derived.Test.YtnmglnglbdpjjaaGreatDoorUjX8
import Derived.Test.YtnmglnglbdpjjaaGreatDoorUjX10
namespace Go.Proofs.YtnmglnglbdpjjaaGreatDoor.X
open Go.RowKit Go.Yw.PrintWords Go.Yw.PrintLast Go.Yw.PrintMore
attribute [local go_sem] Yvd Yyd Yke Yme Yld Ykd Yud Ywd
set_option linter.unusedVariables false
set_option linter.unusedSimpArgs false
def Yve.f (k : Nat) (a0 : ByteArray) : Option (ByteArray × Int) := (Yn.f k a0).bind fun t226 => ((Yka.f k t226).bind fun t227 => (if t227.toList = ([] : List UInt8) then (some ((⟨#[]⟩ : ByteArray), 4)) else ((Yi.f k t227).bind fun t228 => (if t228 = true then (some (t227, 0)) else (some ((⟨#[]⟩ : ByteArray), 17))))))
set_option maxHeartbeats 8000000 in
set_option maxRecDepth 100000 in
theorem Yve.calls (k : Nat) (a0 : ByteArray) (r1 : ByteArray) (r2 : Int) (w : World) (hE : EnvOk w) (h : Yve.f k a0 = some (r1, r2)) :
  Calls Tryz.prog 20 #[.string a0] w fun e w' => e = .returned (.tuple #[.string r1, .int .i64 r2]) ∧ Below w.heap.size w w' := by
 have HE := Ya.mk hE
 clear hE
 have HB := Ya.mk (Below.refl w.heap.size w)
 have H : ((Yn.f k a0).bind fun t226 => ((Yka.f k t226).bind fun t227 => (if t227.toList = ([] : List UInt8) then (some ((⟨#[]⟩ : ByteArray), 4)) else ((Yi.f k t227).bind fun t228 => (if t228 = true then (some (t227, 0)) else (some ((⟨#[]⟩ : ByteArray), 17))))))) = some (r1, r2) := h
 clear h
 replace H := Option.bind_eq_some_iff.mp H
 obtain ⟨t226, A20, H⟩ := H
 try dsimp -simprocs only at H
 have A2 := Ya.mk A20
 clear A20
 replace H := Option.bind_eq_some_iff.mp H
 obtain ⟨t227, A30, H⟩ := H
 try dsimp -simprocs only at H
 have A3 := Ya.mk A30
 clear A30
 by_cases c4 : t227.toList = ([] : List UInt8)
 ·rw [if_pos c4] at H
  have c4b0 : (t227.toList == ([] : List UInt8)) = true := beq_iff_eq.mpr c4
  have c4b1 : (t227.toList != ([] : List UInt8)) = false := bne_eq_false_iff_eq.mpr c4
  clear c4
  simp only [Option.some.injEq, Prod.mk.injEq] at H
  obtain ⟨rfl, rfl⟩ := H
  go_enter Tryz.func20, Tryz.ntmps20
  go_wp2_with (first | ((with_reducible refine Yh (f := 55) rfl ?_); refine Yz (some 5) rfl rfl Tryz.func55 Zi rfl #[.string a0] rfl Zb ?_; (with_reducible refine (Yn.calls k a0 t226 _ ?side1 A2.out).mono ?_); (case side1 => first | exact HE.out | exact EnvOk.below HE.out Za); rintro e w5 ⟨rfl, hb⟩; refine ⟨_, rfl, ?_⟩; have n0_ := Ya.mk (Yq Za hb); clear HB; have HB := n0_; clear n0_; (try clear hb); (try clear hb2); (try clear hk); (try clear hi)) | ((with_reducible refine Yh (f := 47) rfl ?_); refine Yz (some 6) rfl rfl Tryz.func47 Zi rfl #[.string t226] rfl Zb ?_; (with_reducible refine (Yka.calls k t226 t227 _ ?side1 A3.out).mono ?_); (case side1 => first | exact HE.out | exact EnvOk.below HE.out Za); rintro e w6 ⟨rfl, hb⟩; refine ⟨_, rfl, ?_⟩; have n0_ := Ya.mk (Yq Za hb); clear HB; have HB := n0_; clear n0_; (try clear hb); (try clear hb2); (try clear hk); (try clear hi)))
  go_ret2
  exact ⟨Zk, Za⟩
 rw [if_neg c4] at H
 have c4b0 : (t227.toList == ([] : List UInt8)) = false := beq_eq_false_iff_ne.mpr c4
 have c4b1 : (t227.toList != ([] : List UInt8)) = true := bne_iff_ne.mpr c4
 replace H := Option.bind_eq_some_iff.mp H
 obtain ⟨t228, A70, H⟩ := H
 try dsimp -simprocs only at H
 have A7 := Ya.mk A70
 clear A70
 by_cases c8 : t228 = true
 ·subst c8
  rw [if_pos rfl] at H
  simp only [Option.some.injEq, Prod.mk.injEq] at H
  obtain ⟨rfl, rfl⟩ := H
  go_enter Tryz.func20, Tryz.ntmps20
  go_wp2_with (first | ((with_reducible refine Yh (f := 55) rfl ?_); refine Yz (some 5) rfl rfl Tryz.func55 Zi rfl #[.string a0] rfl Zb ?_; (with_reducible refine (Yn.calls k a0 t226 _ ?side1 A2.out).mono ?_); (case side1 => first | exact HE.out | exact EnvOk.below HE.out Za); rintro e w9 ⟨rfl, hb⟩; refine ⟨_, rfl, ?_⟩; have n0_ := Ya.mk (Yq Za hb); clear HB; have HB := n0_; clear n0_; (try clear hb); (try clear hb2); (try clear hk); (try clear hi)) | ((with_reducible refine Yh (f := 47) rfl ?_); refine Yz (some 6) rfl rfl Tryz.func47 Zi rfl #[.string t226] rfl Zb ?_; (with_reducible refine (Yka.calls k t226 t227 _ ?side1 A3.out).mono ?_); (case side1 => first | exact HE.out | exact EnvOk.below HE.out Za); rintro e w10 ⟨rfl, hb⟩; refine ⟨_, rfl, ?_⟩; have n0_ := Ya.mk (Yq Za hb); clear HB; have HB := n0_; clear n0_; (try clear hb); (try clear hb2); (try clear hk); (try clear hi)) | ((with_reducible refine Yh (f := 56) rfl ?_); refine Yz (some 10) rfl rfl Tryz.func56 Zi rfl #[.string t227] rfl Zb ?_; (with_reducible refine (Yi.calls k t227 true _ ?side1 A7.out).mono ?_); (case side1 => first | exact HE.out | exact EnvOk.below HE.out Za); rintro e w11 ⟨rfl, hb⟩; refine ⟨_, rfl, ?_⟩; have n0_ := Ya.mk (Yq Za hb); clear HB; have HB := n0_; clear n0_; (try clear hb); (try clear hb2); (try clear hk); (try clear hi)))
  go_ret2
  exact ⟨Zk, Za⟩
 replace c8 := Bool.eq_false_iff.mpr c8
 subst c8
 rw [if_neg (show ¬ (false = true) by decide)] at H
 simp only [Option.some.injEq, Prod.mk.injEq] at H
 obtain ⟨rfl, rfl⟩ := H
 go_enter Tryz.func20, Tryz.ntmps20
 go_wp2_with (first | ((with_reducible refine Yh (f := 55) rfl ?_); refine Yz (some 5) rfl rfl Tryz.func55 Zi rfl #[.string a0] rfl Zb ?_; (with_reducible refine (Yn.calls k a0 t226 _ ?side1 A2.out).mono ?_); (case side1 => first | exact HE.out | exact EnvOk.below HE.out Za); rintro e w12 ⟨rfl, hb⟩; refine ⟨_, rfl, ?_⟩; have n0_ := Ya.mk (Yq Za hb); clear HB; have HB := n0_; clear n0_; (try clear hb); (try clear hb2); (try clear hk); (try clear hi)) | ((with_reducible refine Yh (f := 47) rfl ?_); refine Yz (some 6) rfl rfl Tryz.func47 Zi rfl #[.string t226] rfl Zb ?_; (with_reducible refine (Yka.calls k t226 t227 _ ?side1 A3.out).mono ?_); (case side1 => first | exact HE.out | exact EnvOk.below HE.out Za); rintro e w13 ⟨rfl, hb⟩; refine ⟨_, rfl, ?_⟩; have n0_ := Ya.mk (Yq Za hb); clear HB; have HB := n0_; clear n0_; (try clear hb); (try clear hb2); (try clear hk); (try clear hi)) | ((with_reducible refine Yh (f := 56) rfl ?_); refine Yz (some 10) rfl rfl Tryz.func56 Zi rfl #[.string t227] rfl Zb ?_; (with_reducible refine (Yi.calls k t227 false _ ?side1 A7.out).mono ?_); (case side1 => first | exact HE.out | exact EnvOk.below HE.out Za); rintro e w14 ⟨rfl, hb⟩; refine ⟨_, rfl, ?_⟩; have n0_ := Ya.mk (Yq Za hb); clear HB; have HB := n0_; clear n0_; (try clear hb); (try clear hb2); (try clear hk); (try clear hi)))
 go_ret2
 exact ⟨Zk, Za⟩
mutual
def Ys.j1 : Nat → ByteArray → Option (ByteArray)
 | 0, _ => none
 | k + 1, x0 => Ys.l1 k x0
def Ys.j3 : Nat → ByteArray → Option (ByteArray)
 | 0, _ => none
 | k + 1, x0 => Ys.l2 k x0 ([] : List Int) 0
def Ys.l2 : Nat → ByteArray → List Int → Int → Option (ByteArray)
 | 0, _, _, _ => none
 | k + 1, x0, x3, x4 => if x4 < (x0.size : Int) then (if 0 ≤ x4 then (if (bt x0 x4) = 9 then (Ys.l2 k x0 x3 (wrap64 (x4 + 1))) else (if (bt x0 x4) = 10 then (Ys.l2 k x0 x3 (wrap64 (x4 + 1))) else (if (bt x0 x4) = 13 then (Ys.l2 k x0 x3 (wrap64 (x4 + 1))) else (if x3.length < 140737488355328 then (Ys.l2 k x0 (x3 ++ [bt x0 x4]) (wrap64 (x4 + 1))) else (none))))) else (none)) else (some (strOfNums x3))
def Ys.l1 : Nat → ByteArray → Option (ByteArray)
 | 0, _ => none
 | k + 1, x0 => if (x0.size : Int) > 0 then (if 0 ≤ (wrap64 ((x0.size : Int) - 1)) then (if (wrap64 ((x0.size : Int) - 1)) < (x0.size : Int) then (if (bt x0 (wrap64 ((x0.size : Int) - 1))) ≤ 32 then (if (wrap64 ((x0.size : Int) - 1)) ≤ (x0.size : Int) then (Ys.l1 k (x0.extract 0 ((wrap64 ((x0.size : Int) - 1)) : Int).toNat)) else (none)) else (Ys.j3 k x0)) else (none)) else (none)) else (Ys.j3 k x0)
def Ys.l0 : Nat → ByteArray → Option (ByteArray)
 | 0, _ => none
 | k + 1, x0 => if (x0.size : Int) > 0 then (if 0 < (x0.size : Int) then (if (bt x0 0) ≤ 32 then (if 1 ≤ (x0.size : Int) then (Ys.l0 k (x0.extract 1 x0.size)) else (none)) else (Ys.j1 k x0)) else (none)) else (Ys.j1 k x0)
end
def Ys.f (k : Nat) (a0 : ByteArray) : Option (ByteArray) := Ys.l0 k a0
set_option maxHeartbeats 8000000 in
set_option maxRecDepth 100000 in
theorem Ys.calls (k : Nat) (a0 : ByteArray) (r : ByteArray) (w : World) (hE : EnvOk w) (h : Ys.f k a0 = some r) :
  Calls Tryz.prog 22 #[.string a0] w fun e w' => e = .returned (.string r) ∧ Below w.heap.size w w' := by
 have HE := Ya.mk hE
 clear hE
 have HB := Ya.mk (Below.refl w.heap.size w)
 have H : (Ys.l0 k a0) = some r := h
 clear h
 have HC2 := Ya.mk H
 clear H
 go_enter Tryz.func22, Tryz.ntmps22
 go_upto_block 0 with (fail)
 go_cut [0] (fun v0 wc => ∃ (kq : Nat) (x0_1 : ByteArray), v0 = .string x0_1 ∧ Ya (Ys.j1 kq x0_1 = some r) ∧ Ya (kq ≤ k) ∧ Ya (Below w.heap.size w wc))
 case first =>
  have H := HC2.out
  clear HC2
  have H' := Ya.mk H
  clear H
  go_wp2
  go_loopg [0] k (fun kq v0 w' => ∃ (x0_1 : ByteArray), v0 = .string x0_1 ∧ Ya (Ys.l0 kq x0_1 = some r) ∧ Ya (kq ≤ k) ∧ Ya (Below w.heap.size w w'))
  case atStart => exact ⟨(a0), Zf, H', ⟨Nat.le_refl _⟩, ⟨Za⟩⟩
  case round =>
   clear H'
   try clear c2
   try clear p2
   obtain ⟨x0_1, rfl, HA, HK1, HB⟩ := hrel
   cases gk with
   | zero => exact absurd HA.out (by simp [Ys.l0])
   | succ k1 =>
    have H := HA.out
    clear HA
    simp only [Ys.l0] at H
    by_cases c3 : (x0_1.size : Int) > 0
    rotate_left
    ·rw [if_neg c3] at H
     have c3b0 : decide (0 < (x0_1.size : Int)) = false := decide_eq_false c3
     have c3b1 : decide (0 < x0_1.size) = false := decide_eq_false Zl
     clear c3
     (first | rw [c3b0] | (simp only [Yqa, Yra]; rw [c3b0]) | skip)
     have H' := Ya.mk H
     clear H
     go_wp2
     go_meet
     case rel => exact ⟨_, (x0_1), Zf, H', ⟨Zja⟩, ⟨Za⟩⟩
    rw [if_pos c3] at H
    have c3b0 : decide (0 < (x0_1.size : Int)) = true := decide_eq_true c3
    have c3b1 : decide (0 < x0_1.size) = true := decide_eq_true Zl
    clear c3
    (first | rw [c3b0] | (simp only [Yqa, Yra]; rw [c3b0]) | skip)
    by_cases c4 : 0 < (x0_1.size : Int)
    rotate_left
    ·rw [if_neg c4] at H
     exact absurd H Zv
    rw [if_pos c4] at H
    have c4b0 : decide (0 < (x0_1.size : Int)) = true := decide_eq_true c4
    have c4b1 : decide (0 < x0_1.size) = true := decide_eq_true Zl
    clear c4
    by_cases c6 : (bt x0_1 0) ≤ 32
    rotate_left
    ·rw [if_neg c6] at H
     have c6b0 : decide ((bt x0_1 0) ≤ 32) = false := decide_eq_false c6
     clear c6
     have H' := Ya.mk H
     clear H
     have p5 : 0 ≤ (0 : Int) := Zl
     have q5 : 0 < x0_1.size := (by have : (0 : Int) < (x0_1.size : Int) := of_decide_eq_true Zc; omega)
     have hx5 : ∀ h : 0 < x0_1.size, ((x0_1[0]'h).toNat : Int) = bt x0_1 0 := Yya x0_1 0
     clear p5
     have qi5 : (0 < (x0_1.size : Int)) = True := eq_true (of_decide_eq_true Zc)
     replace q5 := eq_true q5
     go_wp2
     go_meet
     case rel => exact ⟨_, (x0_1), Zf, H', ⟨Zja⟩, ⟨Za⟩⟩
    rw [if_pos c6] at H
    have c6b0 : decide ((bt x0_1 0) ≤ 32) = true := decide_eq_true c6
    clear c6
    by_cases c7 : 1 ≤ (x0_1.size : Int)
    rotate_left
    ·rw [if_neg c7] at H
     exact absurd H Zv
    rw [if_pos c7] at H
    have c7b0 := eq_true c7
    have c7b1 : decide (1 ≤ (x0_1.size : Int)) = true := decide_eq_true c7
    clear c7
    have H' := Ya.mk H
    clear H
    have p5 : 0 ≤ (0 : Int) := Zl
    have q5 : 0 < x0_1.size := (by have : (0 : Int) < (x0_1.size : Int) := of_decide_eq_true Zc; omega)
    have hx5 : ∀ h : 0 < x0_1.size, ((x0_1[0]'h).toNat : Int) = bt x0_1 0 := Yya x0_1 0
    clear p5
    have qi5 : (0 < (x0_1.size : Int)) = True := eq_true (of_decide_eq_true Zc)
    replace q5 := eq_true q5
    go_wp2
    go_roundg k1
    case measure => have := HK1.out; omega
    case rel => exact ⟨(x0_1.extract 1 x0_1.size), Zf, H', ⟨Zaa⟩, ⟨Za⟩⟩
 case rest =>
  clear HC2
  try clear c2
  try clear p2
  try clear c3
  try clear c3b0
  try clear c3b1
  try clear c4
  try clear c4b0
  try clear c4b1
  try clear p5
  try clear q5
  try clear hx5
  try clear qi5
  try clear c6
  try clear c6b0
  try clear c7
  try clear c7b0
  try clear c7b1
  try clear p2
  try clear p5
  try clear q5
  obtain ⟨kq, x0_1, rfl, HA, HJ1, HB⟩ := hcut
  cases kq with
  | zero => exact absurd HA.out (by simp [Ys.j1])
  | succ kj1 =>
   have H := HA.out
   clear HA
   simp only [Ys.j1] at H
   have HC8 := Ya.mk H
   clear H
   go_upto_block 2 with (fail)
   go_cut [0] (fun v0 wc => ∃ (kq : Nat) (x0_7 : ByteArray), v0 = .string x0_7 ∧ Ya (Ys.j3 kq x0_7 = some r) ∧ Ya (kq ≤ kj1) ∧ Ya (Below w.heap.size w wc))
   case first =>
    have H := HC8.out
    clear HC8
    have H' := Ya.mk H
    clear H
    go_wp2
    go_loopg [0] kj1 (fun kq v0 w' => ∃ (x0_2 : ByteArray), v0 = .string x0_2 ∧ Ya (Ys.l1 kq x0_2 = some r) ∧ Ya (kq ≤ kj1) ∧ Ya (Below w.heap.size w w'))
    case atStart => exact ⟨(x0_1), Zf, H', ⟨Nat.le_refl _⟩, ⟨Za⟩⟩
    case round =>
     clear H'
     try clear c2
     try clear p2
     try clear c3
     try clear c3b0
     try clear c3b1
     try clear c4
     try clear c4b0
     try clear c4b1
     try clear p5
     try clear q5
     try clear hx5
     try clear qi5
     try clear c6
     try clear c6b0
     try clear c7
     try clear c7b0
     try clear c7b1
     try clear p2
     try clear p5
     try clear q5
     obtain ⟨x0_2, rfl, HA, HK2, HB⟩ := hrel
     cases gk with
     | zero => exact absurd HA.out (by simp [Ys.l1])
     | succ k2 =>
      have H := HA.out
      clear HA
      simp only [Ys.l1] at H
      by_cases c9 : (x0_2.size : Int) > 0
      rotate_left
      ·rw [if_neg c9] at H
       have c9b0 : decide (0 < (x0_2.size : Int)) = false := decide_eq_false c9
       have c9b1 : decide (0 < x0_2.size) = false := decide_eq_false Zl
       clear c9
       (first | rw [c9b0] | (simp only [Yqa, Yra]; rw [c9b0]) | skip)
       have H' := Ya.mk H
       clear H
       go_wp2
       go_meet
       case rel => exact ⟨_, (x0_2), Zf, H', ⟨by have := HJ1.out; have := HK2.out; first | omega | exact Nat.le_refl _⟩, ⟨Za⟩⟩
      rw [if_pos c9] at H
      have c9b0 : decide (0 < (x0_2.size : Int)) = true := decide_eq_true c9
      have c9b1 : decide (0 < x0_2.size) = true := decide_eq_true Zl
      clear c9
      (first | rw [c9b0] | (simp only [Yqa, Yra]; rw [c9b0]) | skip)
      obtain ⟨ji10, hji10⟩ : ∃ j_ : Int, (wrap64 ((x0_2.size : Int) - 1)) = j_ := ⟨_, rfl⟩
      replace H : (if 0 ≤ (ji10) then (if (ji10) < (x0_2.size : Int) then (if (bt x0_2 (ji10)) ≤ 32 then (if (ji10) ≤ (x0_2.size : Int) then (Ys.l1 k2 (x0_2.extract 0 ((ji10) : Int).toNat)) else (none)) else (Ys.j3 k2 x0_2)) else (none)) else (none)) = some r := by first | (rw [hji10] at H; exact H) | (simp only [hji10] at H ⊢; exact H)
      have hji10w : (IntKind.i64.wrap ((x0_2.size : Int) - 1)) = ji10 := (Yqa _).trans hji10
      by_cases c11 : 0 ≤ (ji10)
      rotate_left
      ·rw [if_neg c11] at H
       exact absurd H Zv
      rw [if_pos c11] at H
      have c11b0 : decide (0 ≤ (ji10)) = true := decide_eq_true c11
      clear c11
      by_cases c12 : (ji10) < (x0_2.size : Int)
      rotate_left
      ·rw [if_neg c12] at H
       exact absurd H Zv
      rw [if_pos c12] at H
      have c12b0 : decide ((ji10) < (x0_2.size : Int)) = true := decide_eq_true c12
      clear c12
      by_cases c14 : (bt x0_2 (ji10)) ≤ 32
      rotate_left
      ·rw [if_neg c14] at H
       have c14b0 : decide ((bt x0_2 (ji10)) ≤ 32) = false := decide_eq_false c14
       clear c14
       have H' := Ya.mk H
       clear H
       have p13 : 0 ≤ ((ji10) : Int) := of_decide_eq_true Zc
       have q13 : (ji10) < (x0_2.size : Int) := of_decide_eq_true Zc
       have hx13 := Yya x0_2 (ji10)
       replace p13 := eq_true p13
       replace q13 := eq_true q13
       go_wp2
       go_meet
       case rel => exact ⟨_, (x0_2), Zf, H', ⟨by have := HJ1.out; have := HK2.out; first | omega | exact Nat.le_refl _⟩, ⟨Za⟩⟩
      rw [if_pos c14] at H
      have c14b0 : decide ((bt x0_2 (ji10)) ≤ 32) = true := decide_eq_true c14
      clear c14
      have c15b0 := eq_true (of_decide_eq_true Zc : 0 ≤ (ji10))
      by_cases c16 : (ji10) ≤ (x0_2.size : Int)
      rotate_left
      ·rw [if_neg c16] at H
       exact absurd H Zv
      rw [if_pos c16] at H
      have c16b0 := eq_true c16
      have c16b1 : decide ((ji10) ≤ (x0_2.size : Int)) = true := decide_eq_true c16
      clear c16
      have H' := Ya.mk H
      clear H
      have p13 : 0 ≤ ((ji10) : Int) := of_decide_eq_true Zc
      have q13 : (ji10) < (x0_2.size : Int) := of_decide_eq_true Zc
      have hx13 := Yya x0_2 (ji10)
      replace p13 := eq_true p13
      replace q13 := eq_true q13
      go_wp2
      go_roundg k2
      case measure => have := HJ1.out; have := HK2.out; omega
      case rel => exact ⟨(x0_2.extract 0 ((ji10) : Int).toNat), (by first | rfl | (simp; done) | (simp only [← hji10] <;> (first | rfl | simp)) | (simp [*]; done)), H', ⟨by have := HJ1.out; have := HK2.out; omega⟩, ⟨Za⟩⟩
   case rest =>
    clear HC8
    try clear c1
    try clear p1
    try clear q1
    try clear hx1
    try clear c2
    try clear p2
    try clear c3
    try clear c3b0
    try clear c3b1
    try clear c4
    try clear c4b0
    try clear c4b1
    try clear p5
    try clear q5
    try clear hx5
    try clear qi5
    try clear c6
    try clear c6b0
    try clear p6
    try clear c7
    try clear c7b0
    try clear c7b1
    try clear c9
    try clear c9b0
    try clear c9b1
    try clear c11
    try clear c11b0
    try clear c12
    try clear c12b0
    try clear p13
    try clear q13
    try clear hx13
    try clear c14
    try clear c14b0
    try clear c15
    try clear c15b0
    try clear c16
    try clear c16b0
    try clear c16b1
    try clear p13
    try clear p2
    try clear p5
    try clear q13
    try clear q5
    obtain ⟨kq, x0_7, rfl, HA, HJ7, HB⟩ := hcut
    cases kq with
    | zero => exact absurd HA.out (by simp [Ys.j3])
    | succ kj7 =>
     have H := HA.out
     clear HA
     simp only [Ys.j3] at H
     have H' := Ya.mk H
     clear H
     go_wp2
     go_loopg [3, 4] kj7 (fun kq v3 v4 w' => ∃ (x3_3 : List Int) (x4_3 : Int), v4 = .int .i64 x4_3 ∧ Ya (Ys.l2 kq x0_7 x3_3 x4_3 = some r) ∧ Ya (kq ≤ kj7) ∧ Ya (Kd.R (Kd.int .u8) 5 w' w.heap.size (fun _ => True) v3 x3_3) ∧ Ya (Below w.heap.size w w'))
     case atStart => exact ⟨(([] : List Int)), (0), Zf, H', ⟨Nat.le_refl _⟩, ⟨Zea⟩, ⟨Za⟩⟩
     case round =>
      clear H'
      try clear c1
      try clear p1
      try clear q1
      try clear hx1
      try clear c2
      try clear p2
      try clear c3
      try clear c3b0
      try clear c3b1
      try clear c4
      try clear c4b0
      try clear c4b1
      try clear p5
      try clear q5
      try clear hx5
      try clear qi5
      try clear c6
      try clear c6b0
      try clear p6
      try clear c7
      try clear c7b0
      try clear c7b1
      try clear c9
      try clear c9b0
      try clear c9b1
      try clear c11
      try clear c11b0
      try clear c12
      try clear c12b0
      try clear p13
      try clear q13
      try clear hx13
      try clear c14
      try clear c14b0
      try clear c15
      try clear c15b0
      try clear c16
      try clear c16b0
      try clear c16b1
      try clear p1
      try clear p13
      try clear p2
      try clear p5
      try clear p6
      try clear q1
      try clear q13
      try clear q5
      obtain ⟨x3_3, x4_3, rfl, HA, HK3, HO_3, HB⟩ := hrel
      cases gk with
      | zero => exact absurd HA.out (by simp [Ys.l2])
      | succ k3 =>
       have H := HA.out
       clear HA
       simp only [Ys.l2] at H
       by_cases c17 : x4_3 < (x0_7.size : Int)
       rotate_left
       ·rw [if_neg c17] at H
        have c17b0 : decide (x4_3 < (x0_7.size : Int)) = false := decide_eq_false c17
        clear c17
        obtain rfl := Option.some.inj H
        have hcv28 := Yyg (P := Tryz.prog) Tryz.underlying62 Tryz.underlying5 Tryz.underlying9 (Kd.own_of_R HO_3.out)
        go_wp2
        go_ret
        exact ⟨Zk, Za⟩
       rw [if_pos c17] at H
       have c17b0 : decide (x4_3 < (x0_7.size : Int)) = true := decide_eq_true c17
       clear c17
       by_cases c18 : 0 ≤ x4_3
       rotate_left
       ·rw [if_neg c18] at H
        exact absurd H Zv
       rw [if_pos c18] at H
       have c18b0 : decide (0 ≤ x4_3) = true := decide_eq_true c18
       clear c18
       by_cases c20 : (bt x0_7 x4_3) = 9
       ·rw [if_pos c20] at H
        have c20b0 : ((bt x0_7 x4_3) == 9) = true := beq_iff_eq.mpr c20
        have c20b1 : ((bt x0_7 x4_3) != 9) = false := bne_eq_false_iff_eq.mpr c20
        clear c20
        have H' := Ya.mk H
        clear H
        have p19 : 0 ≤ (x4_3 : Int) := of_decide_eq_true Zc
        have q19 : x4_3 < (x0_7.size : Int) := of_decide_eq_true Zc
        have hx19 := Yya x0_7 x4_3
        replace p19 := eq_true p19
        replace q19 := eq_true q19
        go_wp2
        go_roundg k3
        case measure => have := HJ1.out; have := HJ7.out; have := HK3.out; omega
        case rel => exact ⟨(x3_3), (wrap64 (x4_3 + 1)), Zf, H', ⟨Znb⟩, ⟨Zm⟩, ⟨Za⟩⟩
       rw [if_neg c20] at H
       have c20b0 : ((bt x0_7 x4_3) == 9) = false := beq_eq_false_iff_ne.mpr c20
       have c20b1 : ((bt x0_7 x4_3) != 9) = true := bne_iff_ne.mpr c20
       by_cases c22 : (bt x0_7 x4_3) = 10
       ·rw [if_pos c22] at H
        have c22b0 : ((bt x0_7 x4_3) == 10) = true := beq_iff_eq.mpr c22
        have c22b1 : ((bt x0_7 x4_3) != 10) = false := bne_eq_false_iff_eq.mpr c22
        clear c22
        have H' := Ya.mk H
        clear H
        have p19 : 0 ≤ (x4_3 : Int) := of_decide_eq_true Zc
        have q19 : x4_3 < (x0_7.size : Int) := of_decide_eq_true Zc
        have hx19 := Yya x0_7 x4_3
        replace p19 := eq_true p19
        replace q19 := eq_true q19
        have p21 : 0 ≤ (x4_3 : Int) := of_decide_eq_true Zc
        have q21 : x4_3 < (x0_7.size : Int) := of_decide_eq_true Zc
        have hx21 := Yya x0_7 x4_3
        replace p21 := eq_true p21
        replace q21 := eq_true q21
        go_wp2
        go_roundg k3
        case measure => have := HJ1.out; have := HJ7.out; have := HK3.out; omega
        case rel => exact ⟨(x3_3), (wrap64 (x4_3 + 1)), Zf, H', ⟨Znb⟩, ⟨Zm⟩, ⟨Za⟩⟩
       rw [if_neg c22] at H
       have c22b0 : ((bt x0_7 x4_3) == 10) = false := beq_eq_false_iff_ne.mpr c22
       have c22b1 : ((bt x0_7 x4_3) != 10) = true := bne_iff_ne.mpr c22
       by_cases c24 : (bt x0_7 x4_3) = 13
       ·rw [if_pos c24] at H
        have c24b0 : ((bt x0_7 x4_3) == 13) = true := beq_iff_eq.mpr c24
        have c24b1 : ((bt x0_7 x4_3) != 13) = false := bne_eq_false_iff_eq.mpr c24
        clear c24
        have H' := Ya.mk H
        clear H
        have p19 : 0 ≤ (x4_3 : Int) := of_decide_eq_true Zc
        have q19 : x4_3 < (x0_7.size : Int) := of_decide_eq_true Zc
        have hx19 := Yya x0_7 x4_3
        replace p19 := eq_true p19
        replace q19 := eq_true q19
        have p21 : 0 ≤ (x4_3 : Int) := of_decide_eq_true Zc
        have q21 : x4_3 < (x0_7.size : Int) := of_decide_eq_true Zc
        have hx21 := Yya x0_7 x4_3
        replace p21 := eq_true p21
        replace q21 := eq_true q21
        have p23 : 0 ≤ (x4_3 : Int) := of_decide_eq_true Zc
        have q23 : x4_3 < (x0_7.size : Int) := of_decide_eq_true Zc
        have hx23 := Yya x0_7 x4_3
        replace p23 := eq_true p23
        replace q23 := eq_true q23
        go_wp2
        go_roundg k3
        case measure => have := HJ1.out; have := HJ7.out; have := HK3.out; omega
        case rel => exact ⟨(x3_3), (wrap64 (x4_3 + 1)), Zf, H', ⟨Znb⟩, ⟨Zm⟩, ⟨Za⟩⟩
       rw [if_neg c24] at H
       have c24b0 : ((bt x0_7 x4_3) == 13) = false := beq_eq_false_iff_ne.mpr c24
       have c24b1 : ((bt x0_7 x4_3) != 13) = true := bne_iff_ne.mpr c24
       by_cases c26 : x3_3.length < 140737488355328
       rotate_left
       ·rw [if_neg c26] at H
        exact absurd H Zv
       rw [if_pos c26] at H
       have LMc26 := Ya.mk c26
       clear c26
       obtain ⟨y229, hy229⟩ : ∃ y_ : List Int, y_ = (x3_3 ++ [bt x0_7 x4_3]) := ⟨_, rfl⟩
       replace H : (Ys.l2 k3 x0_7 y229 (wrap64 (x4_3 + 1))) = some r := by first | (rw [hy229]; with_reducible exact H) | (have H2_ := (Option.bind_some _ _).symm.trans H; rw [hy229]; with_reducible exact H2_) | (have H2_ := (Option.bind_some _ _).symm.trans H; with_reducible exact H2_) | with_reducible exact H | (rw [hy229]; exact H) | exact H
       have Ny229 := Ya.mk hy229
       clear hy229
       have H' := Ya.mk H
       clear H
       have p19 : 0 ≤ (x4_3 : Int) := of_decide_eq_true Zc
       have q19 : x4_3 < (x0_7.size : Int) := of_decide_eq_true Zc
       have hx19 := Yya x0_7 x4_3
       replace p19 := eq_true p19
       replace q19 := eq_true q19
       have p21 : 0 ≤ (x4_3 : Int) := of_decide_eq_true Zc
       have q21 : x4_3 < (x0_7.size : Int) := of_decide_eq_true Zc
       have hx21 := Yya x0_7 x4_3
       replace p21 := eq_true p21
       replace q21 := eq_true q21
       have p23 : 0 ≤ (x4_3 : Int) := of_decide_eq_true Zc
       have q23 : x4_3 < (x0_7.size : Int) := of_decide_eq_true Zc
       have hx23 := Yya x0_7 x4_3
       replace p23 := eq_true p23
       replace q23 := eq_true q23
       have p25 : 0 ≤ (x4_3 : Int) := of_decide_eq_true Zc
       have q25 : x4_3 < (x0_7.size : Int) := of_decide_eq_true Zc
       have hx25 := Yya x0_7 x4_3
       replace p25 := eq_true p25
       replace q25 := eq_true q25
       go_wp2_with (first | ((with_reducible refine Yzd (b := .append) (xs := #[.tmp 53, .tmp 57]) rfl ?_); (try (refine Yhi Zla ?_; dsimp only)); at_builtin; refine Kd.R_append (Kd.int .u8) (w0 := w) w.heap.size rfl (.tmp 53) (.tmp 57) 62 5 (.int .u8 0) 1 rfl Tryz.underlying62 Ywl rfl Zda Zl u3 x3_3 (bt x0_7 x4_3) [.int .u8 (bt x0_7 x4_3)] (fun _ => True) (fun _ => False) rfl rfl ?aP (fun _ hk => hk.elim) ?aF ?aO ?aB ?aS ?aL ?_; (case aP => exact rfl); (case aB => exact Za); (case aF => exact (fun _ _ => trivial)); (case aO => exact Zm); (case aS => exact (Yea Za)); (case aL => have := LMc26.out; omega); intro v230 w27 ho hb hg hat; rw [← Ny229.out] at ho; have n0_ := Ya.mk (hb); have n1_ := Ya.mk (ho); clear HB; clear HO_3; have HB := n0_; have HO231 := n1_; clear n0_ n1_; clear ho hb hg hat))
       go_roundg k3
       case measure => have := HJ1.out; have := HJ7.out; have := HK3.out; omega
       case rel => exact ⟨(y229), (wrap64 (x4_3 + 1)), Zf, H', ⟨Znb⟩, ⟨by (with_reducible repeat (first | apply Kd.R_alloc | apply Kd.R_drewN | apply Kd.R_drew)); exact HO231.out⟩, ⟨Za⟩⟩
end Go.Proofs.YtnmglnglbdpjjaaGreatDoor.X
