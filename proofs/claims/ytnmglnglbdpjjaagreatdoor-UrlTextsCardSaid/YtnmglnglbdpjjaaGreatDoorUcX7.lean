/- Printed by a program of ours: functions as plain Lean, and what a call of each does. -/
import Derived.Test.YtnmglnglbdpjjaaGreatDoorUcX0
import Derived.Test.YtnmglnglbdpjjaaGreatDoorUcX5
import Derived.Test.YtnmglnglbdpjjaaGreatDoorUcX6
namespace Go.Proofs.YtnmglnglbdpjjaaGreatDoor.X
open Go.RowKit Go.Yw.PrintWords Go.Yw.PrintLast Go.Yw.PrintMore
attribute [local go_sem] Yld Yjd Yje Yie Yuc Yvc Yid Yhd
set_option linter.unusedVariables false
set_option linter.unusedSimpArgs false
def Yra.l0 : Nat → ByteArray → Int → Option (Int)
 | 0, _, _ => none
 | k + 1, x0, x3 => if (x0.size : Int) > 0 then (if 0 < (x0.size : Int) then (if (bt x0 0) = 46 then (if 1 ≤ (x0.size : Int) then (Yra.l0 k (x0.extract 1 x0.size) (wrap64 (x3 + 1))) else (none)) else (if (x0.size : Int) > 2 then (if 0 ≤ 3 then (if 3 ≤ (x0.size : Int) then ((Yca.f k (x0.extract 0 3)).bind fun t178 => (if t178.toList = ([37, 50, 101] : List UInt8) then (Yra.l0 k (x0.extract 3 x0.size) (wrap64 (x3 + 1))) else (some 0))) else (none)) else (none)) else (some 0))) else (none)) else (if x3 > 2 then (some 0) else (some x3))
def Yra.f (k : Nat) (a0 : ByteArray) : Option (Int) := Yra.l0 k a0 0
set_option maxHeartbeats 8000000 in
set_option maxRecDepth 100000 in
theorem Yra.calls (k : Nat) (a0 : ByteArray) (r : Int) (w : World) (hE : EnvOk w) (h : Yra.f k a0 = some r) :
  Calls Tryz.prog 65 #[.string a0] w fun e w' => e = .returned (.int .i64 r) ∧ Below w.heap.size w w' := by
 have HE := Ya.mk hE
 clear hE
 have HB := Ya.mk (Below.refl w.heap.size w)
 have H : (Yra.l0 k a0 0) = some r := h
 clear h
 have H' := Ya.mk H
 clear H
 go_enter Tryz.func65, Tryz.ntmps65
 go_wp2
 go_loopg [0, 3] k (fun kq v0 v3 w' => ∃ (x0_1 : ByteArray) (x3_1 : Int), v0 = .string x0_1 ∧ v3 = .int .i64 x3_1 ∧ Ya (Yra.l0 kq x0_1 x3_1 = some r) ∧ Ya (kq ≤ k) ∧ Ya (Below w.heap.size w w'))
 case atStart => exact ⟨(a0), (0), (by first | rfl | (simp; done) | (simp [*]; done)), (by first | rfl | (simp; done) | (simp [*]; done)), H', ⟨Nat.le_refl _⟩, ⟨by repeat (first | (with_reducible first | exact HB.out | apply Yd | apply Yb | apply Yc) | exact HB.out)⟩⟩
 case round =>
  clear H'
  obtain ⟨x0_1, x3_1, rfl, rfl, HA, HK1, HB⟩ := hrel
  cases gk with
  | zero => exact absurd HA.out (by simp [Yra.l0])
  | succ k1 =>
   have H := HA.out
   clear HA
   simp only [Yra.l0] at H
   by_cases c2 : (x0_1.size : Int) > 0
   ·rw [if_pos c2] at H
    have c2b0 : decide (0 < (x0_1.size : Int)) = true := decide_eq_true c2
    have c2b1 : decide (0 < x0_1.size) = true := decide_eq_true (by omega)
    clear c2
    by_cases c3 : 0 < (x0_1.size : Int)
    ·rw [if_pos c3] at H
     have c3b0 : decide (0 < (x0_1.size : Int)) = true := decide_eq_true c3
     have c3b1 : decide (0 < x0_1.size) = true := decide_eq_true (by omega)
     clear c3
     by_cases c5 : (bt x0_1 0) = 46
     ·rw [if_pos c5] at H
      have c5b0 : ((bt x0_1 0) == 46) = true := beq_iff_eq.mpr c5
      have c5b1 : ((bt x0_1 0) != 46) = false := bne_eq_false_iff_eq.mpr c5
      clear c5
      by_cases c6 : 1 ≤ (x0_1.size : Int)
      ·rw [if_pos c6] at H
       have c6b0 := eq_true c6
       have c6b1 : decide (1 ≤ (x0_1.size : Int)) = true := decide_eq_true c6
       clear c6
       have H' := Ya.mk H
       clear H
       have p4 : 0 ≤ (0 : Int) := (by omega)
       have q4 : 0 < x0_1.size := (by have : (0 : Int) < (x0_1.size : Int) := of_decide_eq_true (by first | (with_reducible assumption) | assumption); omega)
       have hx4 : ∀ h : 0 < x0_1.size, ((x0_1[0]'h).toNat : Int) = bt x0_1 0 := Yta x0_1 0
       clear p4
       have qi4 : (0 < (x0_1.size : Int)) = True := eq_true (of_decide_eq_true (by first | (with_reducible assumption) | assumption))
       replace q4 := eq_true q4
       go_wp2
       go_roundg k1
       case measure => have := HK1.out; omega
       case rel => exact ⟨(x0_1.extract 1 x0_1.size), (wrap64 (x3_1 + 1)), (by first | rfl | (simp; done) | (simp [*]; done)), (by first | rfl | (simp; done) | (simp [*]; done)), H', ⟨by have := HK1.out; omega⟩, ⟨by repeat (first | (with_reducible first | exact HB.out | apply Yd | apply Yb | apply Yc) | exact HB.out)⟩⟩
      ·rw [if_neg c6] at H
       exact absurd H (by simp)
     ·rw [if_neg c5] at H
      have c5b0 : ((bt x0_1 0) == 46) = false := beq_eq_false_iff_ne.mpr c5
      have c5b1 : ((bt x0_1 0) != 46) = true := bne_iff_ne.mpr c5
      by_cases c7 : (x0_1.size : Int) > 2
      ·rw [if_pos c7] at H
       have c7b0 : decide (2 < (x0_1.size : Int)) = true := decide_eq_true c7
       have c7b1 : decide (2 < x0_1.size) = true := decide_eq_true (by omega)
       clear c7
       by_cases c8 : 0 ≤ 3
       ·rw [if_pos c8] at H
        have c8b0 := eq_true c8
        have c8b1 : decide (0 ≤ 3) = true := decide_eq_true c8
        clear c8
        by_cases c9 : 3 ≤ (x0_1.size : Int)
        ·rw [if_pos c9] at H
         have c9b0 := eq_true c9
         have c9b1 : decide (3 ≤ (x0_1.size : Int)) = true := decide_eq_true c9
         clear c9
         replace H := Option.bind_eq_some_iff.mp H
         obtain ⟨t178, A100, H⟩ := H
         replace H : (if t178.toList = ([37, 50, 101] : List UInt8) then (Yra.l0 k1 (x0_1.extract 3 x0_1.size) (wrap64 (x3_1 + 1))) else (some 0)) = some r := H
         have A10 := Ya.mk A100
         clear A100
         by_cases c11 : t178.toList = ([37, 50, 101] : List UInt8)
         ·rw [if_pos c11] at H
          have c11b0 : (t178.toList == ([37, 50, 101] : List UInt8)) = true := beq_iff_eq.mpr c11
          have c11b1 : (t178.toList != ([37, 50, 101] : List UInt8)) = false := bne_eq_false_iff_eq.mpr c11
          clear c11
          have c12b0 := eq_true (of_decide_eq_true (by first | (with_reducible assumption) | assumption) : 3 ≤ (x0_1.size : Int))
          have H' := Ya.mk H
          clear H
          have p4 : 0 ≤ (0 : Int) := (by omega)
          have q4 : 0 < x0_1.size := (by have : (0 : Int) < (x0_1.size : Int) := of_decide_eq_true (by first | (with_reducible assumption) | assumption); omega)
          have hx4 : ∀ h : 0 < x0_1.size, ((x0_1[0]'h).toNat : Int) = bt x0_1 0 := Yta x0_1 0
          clear p4
          have qi4 : (0 < (x0_1.size : Int)) = True := eq_true (of_decide_eq_true (by first | (with_reducible assumption) | assumption))
          replace q4 := eq_true q4
          go_wp2_with (first | (go_at_call 47; (with_reducible refine (Yca.calls k1 (x0_1.extract 0 3) t178 _ ?side1 A10.out).mono ?_); (case side1 => first | exact HE.out | exact EnvOk.below HE.out (by repeat (first | (with_reducible first | exact HB.out | apply Yd | apply Yb | apply Yc) | exact HB.out))); rintro e w13 ⟨rfl, hb⟩; have n0_ := Ya.mk (Ys (by repeat (first | (with_reducible first | exact HB.out | apply Yd | apply Yb | apply Yc) | exact HB.out)) hb); clear HB; have HB := n0_; clear n0_; (try clear hb); (try clear hb2); (try clear hk); (try clear hi)))
          go_roundg k1
          case measure => have := HK1.out; omega
          case rel => exact ⟨(x0_1.extract 3 x0_1.size), (wrap64 (x3_1 + 1)), (by first | rfl | (simp; done) | (simp [*]; done)), (by first | rfl | (simp; done) | (simp [*]; done)), H', ⟨by have := HK1.out; omega⟩, ⟨by repeat (first | (with_reducible first | exact HB.out | apply Yd | apply Yb | apply Yc) | exact HB.out)⟩⟩
         ·rw [if_neg c11] at H
          have c11b0 : (t178.toList == ([37, 50, 101] : List UInt8)) = false := beq_eq_false_iff_ne.mpr c11
          have c11b1 : (t178.toList != ([37, 50, 101] : List UInt8)) = true := bne_iff_ne.mpr c11
          obtain rfl := Option.some.inj H
          have p4 : 0 ≤ (0 : Int) := (by omega)
          have q4 : 0 < x0_1.size := (by have : (0 : Int) < (x0_1.size : Int) := of_decide_eq_true (by first | (with_reducible assumption) | assumption); omega)
          have hx4 : ∀ h : 0 < x0_1.size, ((x0_1[0]'h).toNat : Int) = bt x0_1 0 := Yta x0_1 0
          clear p4
          have qi4 : (0 < (x0_1.size : Int)) = True := eq_true (of_decide_eq_true (by first | (with_reducible assumption) | assumption))
          replace q4 := eq_true q4
          go_wp2_with (first | (go_at_call 47; (with_reducible refine (Yca.calls k1 (x0_1.extract 0 3) t178 _ ?side1 A10.out).mono ?_); (case side1 => first | exact HE.out | exact EnvOk.below HE.out (by repeat (first | (with_reducible first | exact HB.out | apply Yd | apply Yb | apply Yc) | exact HB.out))); rintro e w14 ⟨rfl, hb⟩; have n0_ := Ya.mk (Ys (by repeat (first | (with_reducible first | exact HB.out | apply Yd | apply Yb | apply Yc) | exact HB.out)) hb); clear HB; have HB := n0_; clear n0_; (try clear hb); (try clear hb2); (try clear hk); (try clear hi)))
          go_ret
          exact ⟨by first | rfl | (simp [Yl, Ym] <;> rfl) | (simp [*, Yl, Ym] <;> rfl), by repeat (first | (with_reducible first | exact HB.out | apply Yd | apply Yb | apply Yc) | exact HB.out)⟩
        ·rw [if_neg c9] at H
         exact absurd H (by simp)
       ·rw [if_neg c8] at H
        exact absurd H (by simp)
      ·rw [if_neg c7] at H
       have c7b0 : decide (2 < (x0_1.size : Int)) = false := decide_eq_false c7
       have c7b1 : decide (2 < x0_1.size) = false := decide_eq_false (by omega)
       clear c7
       obtain rfl := Option.some.inj H
       have p4 : 0 ≤ (0 : Int) := (by omega)
       have q4 : 0 < x0_1.size := (by have : (0 : Int) < (x0_1.size : Int) := of_decide_eq_true (by first | (with_reducible assumption) | assumption); omega)
       have hx4 : ∀ h : 0 < x0_1.size, ((x0_1[0]'h).toNat : Int) = bt x0_1 0 := Yta x0_1 0
       clear p4
       have qi4 : (0 < (x0_1.size : Int)) = True := eq_true (of_decide_eq_true (by first | (with_reducible assumption) | assumption))
       replace q4 := eq_true q4
       go_wp2
       go_ret
       exact ⟨by first | rfl | (simp [Yl, Ym] <;> rfl) | (simp [*, Yl, Ym] <;> rfl), by repeat (first | (with_reducible first | exact HB.out | apply Yd | apply Yb | apply Yc) | exact HB.out)⟩
    ·rw [if_neg c3] at H
     exact absurd H (by simp)
   ·rw [if_neg c2] at H
    have c2b0 : decide (0 < (x0_1.size : Int)) = false := decide_eq_false c2
    have c2b1 : decide (0 < x0_1.size) = false := decide_eq_false (by omega)
    clear c2
    by_cases c15 : x3_1 > 2
    ·rw [if_pos c15] at H
     have c15b0 : decide (2 < x3_1) = true := decide_eq_true c15
     clear c15
     obtain rfl := Option.some.inj H
     go_wp2
     go_ret
     exact ⟨by first | rfl | (simp [Yl, Ym] <;> rfl) | (simp [*, Yl, Ym] <;> rfl), by repeat (first | (with_reducible first | exact HB.out | apply Yd | apply Yb | apply Yc) | exact HB.out)⟩
    ·rw [if_neg c15] at H
     have c15b0 : decide (2 < x3_1) = false := decide_eq_false c15
     clear c15
     obtain rfl := Option.some.inj H
     go_wp2
     go_ret
     exact ⟨by first | rfl | (simp [Yl, Ym] <;> rfl) | (simp [*, Yl, Ym] <;> rfl), by repeat (first | (with_reducible first | exact HB.out | apply Yd | apply Yb | apply Yc) | exact HB.out)⟩
def Yya.l0 : Nat → ByteArray → List ByteArray → ByteArray → Int → Option (ByteArray)
 | 0, _, _, _, _ => none
 | k + 1, x0, x1, x5, x6 => if x6 < (x1.length : Int) then (if x6 > 0 then (if x5.size + x0.size ≤ 9223372036854775807 then (if 0 ≤ x6 then (if (x5 ++ x0).size + (rdOf ByteArray.empty x1 x6).size ≤ 9223372036854775807 then (Yya.l0 k x0 x1 ((x5 ++ x0) ++ (rdOf ByteArray.empty x1 x6)) (wrap64 (x6 + 1))) else (none)) else (none)) else (none)) else (if 0 ≤ x6 then (if x5.size + (rdOf ByteArray.empty x1 x6).size ≤ 9223372036854775807 then (Yya.l0 k x0 x1 (x5 ++ (rdOf ByteArray.empty x1 x6)) (wrap64 (x6 + 1))) else (none)) else (none))) else (some x5)
def Yya.f (k : Nat) (a0 : ByteArray) (l1 : List ByteArray) : Option (ByteArray) := Yya.l0 k a0 l1 (⟨#[]⟩ : ByteArray) 0
set_option maxHeartbeats 8000000 in
set_option maxRecDepth 100000 in
theorem Yya.calls (k : Nat) (a0 : ByteArray) (A1 : Option Addr) (c1 : Nat) (l1 : List ByteArray) (r : ByteArray) (w : World) (hE : EnvOk w) (hr1 : Kd.C Kd.string w A1 l1.length l1) (hc1 : l1.length ≤ c1) (h : Yya.f k a0 l1 = some r) :
  Calls Tryz.prog 66 #[.string a0, .slice A1 l1.length c1] w fun e w' => e = .returned (.string r) ∧ Drawn0 w w' := by
 have HR1 := Ya.mk hr1
 have HC1 := Ya.mk hc1
 clear hr1 hc1
 have HE := Ya.mk hE
 clear hE
 have H : (Yya.l0 k a0 l1 (⟨#[]⟩ : ByteArray) 0) = some r := h
 clear h
 have H' := Ya.mk H
 clear H
 go_enter Tryz.func66, Tryz.ntmps66
 go_wp2
 go_loopg [5, 6] k (fun kq v5 v6 w' => ∃ (x5_1 : ByteArray) (x6_1 : Int), v5 = .string x5_1 ∧ v6 = .int .i64 x6_1 ∧ Ya (Yya.l0 kq a0 l1 x5_1 x6_1 = some r) ∧ Ya (kq ≤ k) ∧ Drawn0 w w')
 case atStart => exact ⟨((⟨#[]⟩ : ByteArray)), (0), (by first | rfl | (simp; done) | (simp [*]; done)), (by first | rfl | (simp; done) | (simp [*]; done)), H', ⟨Nat.le_refl _⟩, by repeat (first | exact Drawn0.refl _ | apply Drawn0.step)⟩
 case round =>
  clear H'
  try clear c1
  try clear p2
  obtain ⟨x5_1, x6_1, rfl, rfl, HA, HK1, ⟨m1, rfl⟩⟩ := hrel
  cases gk with
  | zero => exact absurd HA.out (by simp [Yya.l0])
  | succ k1 =>
   have H := HA.out
   clear HA
   simp only [Yya.l0] at H
   by_cases c3 : x6_1 < (l1.length : Int)
   ·rw [if_pos c3] at H
    have c3b0 : decide (x6_1 < (l1.length : Int)) = true := decide_eq_true c3
    clear c3
    by_cases c4 : x6_1 > 0
    ·rw [if_pos c4] at H
     have c4b0 : decide (0 < x6_1) = true := decide_eq_true c4
     clear c4
     by_cases c5 : x5_1.size + a0.size ≤ 9223372036854775807
     ·rw [if_pos c5] at H
      have c5b0 := eq_true c5
      have c5b1 : decide (x5_1.size + a0.size ≤ 9223372036854775807) = true := decide_eq_true c5
      try have c5b2 : (9223372036854775807 < x5_1.size + a0.size) = False := eq_false (Nat.not_lt.2 c5)
      by_cases c6 : 0 ≤ x6_1
      ·rw [if_pos c6] at H
       have c6b0 : decide (0 ≤ x6_1) = true := decide_eq_true c6
       clear c6
       by_cases c7 : (x5_1 ++ a0).size + (rdOf ByteArray.empty l1 x6_1).size ≤ 9223372036854775807
       ·rw [if_pos c7] at H
        have c7b0 := eq_true c7
        have c7b1 : decide ((x5_1 ++ a0).size + (rdOf ByteArray.empty l1 x6_1).size ≤ 9223372036854775807) = true := decide_eq_true c7
        try have c7b2 : (9223372036854775807 < (x5_1 ++ a0).size + (rdOf ByteArray.empty l1 x6_1).size) = False := eq_false (Nat.not_lt.2 c7)
        have H' := Ya.mk H
        clear H
        have p179 : 0 ≤ (x6_1 : Int) := of_decide_eq_true (by first | (with_reducible assumption) | assumption)
        have q179 : x6_1 < (l1.length : Int) := of_decide_eq_true (by first | (with_reducible assumption) | assumption)
        obtain ⟨ad179, e179, hx179_0⟩ := Kd.at_string HR1.out x6_1 p179 q179
        cases e179
        replace p179 := eq_true p179
        replace q179 := eq_true q179
        go_wp2
        go_roundg k1
        case measure => have := HK1.out; omega
        case rel => exact ⟨((x5_1 ++ a0) ++ (rdOf ByteArray.empty l1 x6_1)), (wrap64 (x6_1 + 1)), (by first | rfl | (simp; done) | (simp [*]; done)), (by first | rfl | (simp; done) | (simp [*]; done)), H', ⟨by have := HK1.out; omega⟩, by repeat (first | exact Drawn0.refl _ | apply Drawn0.step)⟩
       ·rw [if_neg c7] at H
        exact absurd H (by simp)
      ·rw [if_neg c6] at H
       exact absurd H (by simp)
     ·rw [if_neg c5] at H
      exact absurd H (by simp)
    ·rw [if_neg c4] at H
     have c4b0 : decide (0 < x6_1) = false := decide_eq_false c4
     clear c4
     by_cases c8 : 0 ≤ x6_1
     ·rw [if_pos c8] at H
      have c8b0 : decide (0 ≤ x6_1) = true := decide_eq_true c8
      clear c8
      by_cases c9 : x5_1.size + (rdOf ByteArray.empty l1 x6_1).size ≤ 9223372036854775807
      ·rw [if_pos c9] at H
       have c9b0 := eq_true c9
       have c9b1 : decide (x5_1.size + (rdOf ByteArray.empty l1 x6_1).size ≤ 9223372036854775807) = true := decide_eq_true c9
       try have c9b2 : (9223372036854775807 < x5_1.size + (rdOf ByteArray.empty l1 x6_1).size) = False := eq_false (Nat.not_lt.2 c9)
       have H' := Ya.mk H
       clear H
       have p180 : 0 ≤ (x6_1 : Int) := of_decide_eq_true (by first | (with_reducible assumption) | assumption)
       have q180 : x6_1 < (l1.length : Int) := of_decide_eq_true (by first | (with_reducible assumption) | assumption)
       obtain ⟨ad180, e180, hx180_0⟩ := Kd.at_string HR1.out x6_1 p180 q180
       cases e180
       replace p180 := eq_true p180
       replace q180 := eq_true q180
       go_wp2
       go_roundg k1
       case measure => have := HK1.out; omega
       case rel => exact ⟨(x5_1 ++ (rdOf ByteArray.empty l1 x6_1)), (wrap64 (x6_1 + 1)), (by first | rfl | (simp; done) | (simp [*]; done)), (by first | rfl | (simp; done) | (simp [*]; done)), H', ⟨by have := HK1.out; omega⟩, by repeat (first | exact Drawn0.refl _ | apply Drawn0.step)⟩
      ·rw [if_neg c9] at H
       exact absurd H (by simp)
     ·rw [if_neg c8] at H
      exact absurd H (by simp)
   ·rw [if_neg c3] at H
    have c3b0 : decide (x6_1 < (l1.length : Int)) = false := decide_eq_false c3
    clear c3
    obtain rfl := Option.some.inj H
    go_wp2
    go_ret
    exact ⟨by first | rfl | (simp; done) | (simp [*]; done), by repeat (first | exact Drawn0.refl _ | apply Drawn0.step)⟩
def Yga.l0 : Nat → ByteArray → ByteArray → Int → Option (Int)
 | 0, _, _, _ => none
 | k + 1, x0, x1, x5 => if x5 < (x0.size : Int) then (if 0 ≤ x5 then ((Yx.f k (bt x0 x5) x1).bind fun t181 => (if t181 = true then (some x5) else (Yga.l0 k x0 x1 (wrap64 (x5 + 1))))) else (none)) else (some x5)
def Yga.f (k : Nat) (a0 : ByteArray) (a1 : ByteArray) : Option (Int) := Yga.l0 k a0 a1 0
set_option maxHeartbeats 8000000 in
set_option maxRecDepth 100000 in
theorem Yga.calls (k : Nat) (a0 : ByteArray) (a1 : ByteArray) (r : Int) (w : World) (hE : EnvOk w) (h : Yga.f k a0 a1 = some r) :
  Calls Tryz.prog 49 #[.string a0, .string a1] w fun e w' => e = .returned (.int .i64 r) ∧ Drawn0 w w' := by
 have HE := Ya.mk hE
 clear hE
 have H : (Yga.l0 k a0 a1 0) = some r := h
 clear h
 have H' := Ya.mk H
 clear H
 go_enter Tryz.func49, Tryz.ntmps49
 go_wp2
 go_loopg [5] k (fun kq v5 w' => ∃ (x5_1 : Int), v5 = .int .i64 x5_1 ∧ Ya (Yga.l0 kq a0 a1 x5_1 = some r) ∧ Ya (kq ≤ k) ∧ Drawn0 w w')
 case atStart => exact ⟨(0), (by first | rfl | (simp; done) | (simp [*]; done)), H', ⟨Nat.le_refl _⟩, by repeat (first | exact Drawn0.refl _ | apply Drawn0.step)⟩
 case round =>
  clear H'
  try clear p2
  obtain ⟨x5_1, rfl, HA, HK1, ⟨m1, rfl⟩⟩ := hrel
  cases gk with
  | zero => exact absurd HA.out (by simp [Yga.l0])
  | succ k1 =>
   have H := HA.out
   clear HA
   simp only [Yga.l0] at H
   by_cases c3 : x5_1 < (a0.size : Int)
   ·rw [if_pos c3] at H
    have c3b0 : decide (x5_1 < (a0.size : Int)) = true := decide_eq_true c3
    clear c3
    by_cases c4 : 0 ≤ x5_1
    ·rw [if_pos c4] at H
     have c4b0 : decide (0 ≤ x5_1) = true := decide_eq_true c4
     clear c4
     replace H := Option.bind_eq_some_iff.mp H
     obtain ⟨t181, A60, H⟩ := H
     replace H : (if t181 = true then (some x5_1) else (Yga.l0 k1 a0 a1 (wrap64 (x5_1 + 1)))) = some r := H
     have A6 := Ya.mk A60
     clear A60
     by_cases c7 : t181 = true
     ·subst c7
      have H1 : (some x5_1) = some r := by rw [if_pos rfl] at H; exact H
      clear H
      have H := H1
      clear H1
      obtain rfl := Option.some.inj H
      have p5 : 0 ≤ (x5_1 : Int) := of_decide_eq_true (by first | (with_reducible assumption) | assumption)
      have q5 : x5_1 < (a0.size : Int) := of_decide_eq_true (by first | (with_reducible assumption) | assumption)
      have hx5 := Yta a0 x5_1
      replace p5 := eq_true p5
      replace q5 := eq_true q5
      go_wp2_with (first | (go_at_call 88; (with_reducible refine (Yx.calls k1 (bt a0 x5_1) a1 true _ ?side1 A6.out).mono ?_); (case side1 => first | exact HE.out | exact EnvOk.heap HE.out rfl); rintro e w' ⟨rfl, ⟨nd, rfl⟩⟩))
      go_ret
      exact ⟨by first | rfl | (simp; done) | (simp [*]; done), by repeat (first | exact Drawn0.refl _ | apply Drawn0.step)⟩
     ·replace c7 := Bool.eq_false_iff.mpr c7
      subst c7
      have H1 : (Yga.l0 k1 a0 a1 (wrap64 (x5_1 + 1))) = some r := by rw [if_neg (show ¬ (false = true) by decide)] at H; exact H
      clear H
      have H := H1
      clear H1
      have H' := Ya.mk H
      clear H
      have p5 : 0 ≤ (x5_1 : Int) := of_decide_eq_true (by first | (with_reducible assumption) | assumption)
      have q5 : x5_1 < (a0.size : Int) := of_decide_eq_true (by first | (with_reducible assumption) | assumption)
      have hx5 := Yta a0 x5_1
      replace p5 := eq_true p5
      replace q5 := eq_true q5
      go_wp2_with (first | (go_at_call 88; (with_reducible refine (Yx.calls k1 (bt a0 x5_1) a1 false _ ?side1 A6.out).mono ?_); (case side1 => first | exact HE.out | exact EnvOk.heap HE.out rfl); rintro e w' ⟨rfl, ⟨nd, rfl⟩⟩))
      go_roundg k1
      case measure => have := HK1.out; omega
      case rel => exact ⟨(wrap64 (x5_1 + 1)), (by first | rfl | (simp; done) | (simp [*]; done)), H', ⟨by have := HK1.out; omega⟩, by repeat (first | exact Drawn0.refl _ | apply Drawn0.step)⟩
    ·rw [if_neg c4] at H
     exact absurd H (by simp)
   ·rw [if_neg c3] at H
    have c3b0 : decide (x5_1 < (a0.size : Int)) = false := decide_eq_false c3
    clear c3
    obtain rfl := Option.some.inj H
    go_wp2
    go_ret
    exact ⟨by first | rfl | (simp; done) | (simp [*]; done), by repeat (first | exact Drawn0.refl _ | apply Drawn0.step)⟩
def Yda.j0 : Nat → Int → Bool → Option (Int)
 | 0, _, _ => none
 | k + 1, x0, x9 => if x9 = true then (some (((x0 - 97) % 256) + 10)) else (if x0 ≥ 65 then (if x0 ≤ 70 then (some (((x0 - 65) % 256) + 10)) else (some 16)) else (some 16))
def Yda.f (k : Nat) (a0 : Int) : Option (Int) := (Yr.f a0).bind fun t182 => (if t182 = true then (some ((a0 - 48) % 256)) else (if a0 ≥ 97 then (Yda.j0 k a0 (decide (a0 ≤ 102))) else (Yda.j0 k a0 false)))
theorem Yda.mono_l : ∀ k, (∀ y0 y1, LeO (Yda.j0 k y0 y1) (Yda.j0 (k + 1) y0 y1))
 | 0 => fun _ _ r h => by simp [Yda.j0] at h
 | k + 1 => by
  have ih0 := Yda.mono_l k
  ·intro y0 y1
   unfold Yda.j0
   repeat' first
   | (with_reducible exact ih0 _ _)
   | (with_reducible exact LeO.refl _)
   | (with_reducible exact LeO.none _)
   | (with_reducible refine LeO.ite ?_ ?_)
   | (with_reducible refine LeO.bind ?_ (fun _ => ?_))
   | exact ih0 _ _
   | exact LeO.none _
   | refine LeO.ite ?_ ?_
   | refine LeO.bind ?_ (fun _ => ?_)
theorem Yda.mono : ∀ a0 k, LeO (Yda.f k a0) (Yda.f (k + 1) a0) := by
 intro a0 k
 have ih0 := Yda.mono_l k
 unfold Yda.f
 repeat' first
   | (with_reducible exact ih0 _ _)
   | (with_reducible exact LeO.refl _)
   | (with_reducible exact LeO.none _)
   | (with_reducible refine LeO.ite ?_ ?_)
   | (with_reducible refine LeO.bind ?_ (fun _ => ?_))
   | exact ih0 _ _
   | exact LeO.none _
   | refine LeO.ite ?_ ?_
   | refine LeO.bind ?_ (fun _ => ?_)
set_option maxHeartbeats 8000000 in
set_option maxRecDepth 100000 in
theorem Yda.calls (k : Nat) (a0 : Int) (r : Int) (w : World) (hE : EnvOk w) (h : Yda.f k a0 = some r) :
  Calls Tryz.prog 123 #[.int .u8 a0] w fun e w' => e = .returned (.int .u32 r) ∧ Drawn0 w w' := by
 have HE := Ya.mk hE
 clear hE
 have H : ((Yr.f a0).bind fun t182 => (if t182 = true then (some ((a0 - 48) % 256)) else (if a0 ≥ 97 then (Yda.j0 k a0 (decide (a0 ≤ 102))) else (Yda.j0 k a0 false)))) = some r := h
 clear h
 replace H := Option.bind_eq_some_iff.mp H
 obtain ⟨t182, A20, H⟩ := H
 replace H : (if t182 = true then (some ((a0 - 48) % 256)) else (if a0 ≥ 97 then (Yda.j0 k a0 (decide (a0 ≤ 102))) else (Yda.j0 k a0 false))) = some r := H
 have A2 := Ya.mk A20
 clear A20
 by_cases c3 : t182 = true
 ·subst c3
  have H1 : (some ((a0 - 48) % 256)) = some r := by rw [if_pos rfl] at H; exact H
  clear H
  have H := H1
  clear H1
  obtain rfl := Option.some.inj H
  go_enter Tryz.func123, Tryz.ntmps123
  go_wp2_with (first | ((with_reducible refine Yi (f := 87) rfl ?_); refine Yy (some 5) rfl rfl Tryz.func87 (by kernel_rfl) rfl #[.int .u8 a0] rfl (by (try simp only [List.map_toArray, List.map_cons, List.map_nil]); first | done | rfl | (simp only [List.length_drop, List.length_take]; rfl)) ?_; (with_reducible refine (Yr.calls a0 true _ ?side1 A2.out).mono ?_); (case side1 => first | exact HE.out | exact EnvOk.heap HE.out rfl); rintro e w' ⟨rfl, ⟨nd, rfl⟩⟩; refine ⟨_, rfl, ?_⟩))
  go_ret
  exact ⟨by first | rfl | (simp; done) | (simp [*]; done), by repeat (first | exact Drawn0.refl _ | apply Drawn0.step)⟩
 ·replace c3 := Bool.eq_false_iff.mpr c3
  subst c3
  have H1 : (if a0 ≥ 97 then (Yda.j0 k a0 (decide (a0 ≤ 102))) else (Yda.j0 k a0 false)) = some r := by rw [if_neg (show ¬ (false = true) by decide)] at H; exact H
  clear H
  have H := H1
  clear H1
  have HC4 := Ya.mk H
  clear H
  go_enter Tryz.func123, Tryz.ntmps123
  go_upto_region 3 with (first | ((with_reducible refine Yi (f := 87) rfl ?_); refine Yy (some 5) rfl rfl Tryz.func87 (by kernel_rfl) rfl #[.int .u8 a0] rfl (by (try simp only [List.map_toArray, List.map_cons, List.map_nil]); first | done | rfl | (simp only [List.length_drop, List.length_take]; rfl)) ?_; (with_reducible refine (Yr.calls a0 false _ ?side1 A2.out).mono ?_); (case side1 => first | exact HE.out | exact EnvOk.heap HE.out rfl); rintro e w' ⟨rfl, ⟨nd, rfl⟩⟩; refine ⟨_, rfl, ?_⟩))
  (try simp only [Act.put, List.setIfInBounds_toArray, List.set_cons_zero, List.set_cons_succ])
  go_cut [9] (fun v9 wc => ∃ (kq : Nat) (x9_3 : Bool), v9 = .bool x9_3 ∧ Ya (Yda.j0 kq a0 x9_3 = some r) ∧ Ya (kq ≤ k) ∧ Drawn0 w wc)
  case first =>
   have H := HC4.out
   clear HC4
   by_cases c5 : a0 ≥ 97
   ·rw [if_pos c5] at H
    have c5b0 : decide (97 ≤ a0) = true := decide_eq_true c5
    clear c5
    (first | rw [c5b0] | (simp only [Yaa, Yba]; rw [c5b0]) | skip)
    have H' := Ya.mk H
    clear H
    go_wp2
    go_meet
    case rel => exact ⟨_, (decide (a0 ≤ 102)), (by first | rfl | (simp; done) | (simp [*]; done)), H', ⟨by first | omega | exact Nat.le_refl _⟩, by repeat (first | exact Drawn0.refl _ | apply Drawn0.step)⟩
   ·rw [if_neg c5] at H
    have c5b0 : decide (97 ≤ a0) = false := decide_eq_false c5
    clear c5
    (first | rw [c5b0] | (simp only [Yaa, Yba]; rw [c5b0]) | skip)
    have H' := Ya.mk H
    clear H
    go_wp2
    go_meet
    case rel => exact ⟨_, (false), (by first | rfl | (simp; done) | (simp [*]; done)), H', ⟨by first | omega | exact Nat.le_refl _⟩, by repeat (first | exact Drawn0.refl _ | apply Drawn0.step)⟩
  case rest =>
   clear HC4
   try clear c1
   try clear p2
   try clear c3
   try clear c5
   try clear c5b0
   obtain ⟨kq, x9_3, rfl, HA, HJ3, ⟨mc3, rfl⟩⟩ := hcut
   cases kq with
   | zero => exact absurd HA.out (by simp [Yda.j0])
   | succ kj3 =>
    have H := HA.out
    clear HA
    simp only [Yda.j0] at H
    by_cases c6 : x9_3 = true
    ·subst c6
     have H1 : (some (((a0 - 97) % 256) + 10)) = some r := by rw [if_pos rfl] at H; exact H
     clear H
     have H := H1
     clear H1
     obtain rfl := Option.some.inj H
     go_wp2
     go_ret
     exact ⟨by first | rfl | (simp; done) | (simp [*]; done), by repeat (first | exact Drawn0.refl _ | apply Drawn0.step)⟩
    ·replace c6 := Bool.eq_false_iff.mpr c6
     subst c6
     have H1 : (if a0 ≥ 65 then (if a0 ≤ 70 then (some (((a0 - 65) % 256) + 10)) else (some 16)) else (some 16)) = some r := by rw [if_neg (show ¬ (false = true) by decide)] at H; exact H
     clear H
     have H := H1
     clear H1
     by_cases c7 : a0 ≥ 65
     ·rw [if_pos c7] at H
      have c7b0 : decide (65 ≤ a0) = true := decide_eq_true c7
      clear c7
      by_cases c8 : a0 ≤ 70
      ·rw [if_pos c8] at H
       have c8b0 : decide (a0 ≤ 70) = true := decide_eq_true c8
       clear c8
       obtain rfl := Option.some.inj H
       go_wp2
       go_ret
       exact ⟨by first | rfl | (simp; done) | (simp [*]; done), by repeat (first | exact Drawn0.refl _ | apply Drawn0.step)⟩
      ·rw [if_neg c8] at H
       have c8b0 : decide (a0 ≤ 70) = false := decide_eq_false c8
       clear c8
       obtain rfl := Option.some.inj H
       go_wp2
       go_ret
       exact ⟨by first | rfl | (simp; done) | (simp [*]; done), by repeat (first | exact Drawn0.refl _ | apply Drawn0.step)⟩
     ·rw [if_neg c7] at H
      have c7b0 : decide (65 ≤ a0) = false := decide_eq_false c7
      clear c7
      obtain rfl := Option.some.inj H
      go_wp2
      go_ret
      exact ⟨by first | rfl | (simp; done) | (simp [*]; done), by repeat (first | exact Drawn0.refl _ | apply Drawn0.step)⟩
def Yv.f (k : Nat) (a0 : Int) : Option (Int) := (Yda.f k a0).bind fun t183 => (some t183)
theorem Yv.mono : ∀ a0 k, LeO (Yv.f k a0) (Yv.f (k + 1) a0) := by
 intro a0 k
 unfold Yv.f
 repeat' first
   | (with_reducible exact Yda.mono _ _)
   | (with_reducible exact LeO.refl _)
   | (with_reducible exact LeO.none _)
   | (with_reducible refine LeO.ite ?_ ?_)
   | (with_reducible refine LeO.bind ?_ (fun _ => ?_))
   | exact Yda.mono _ _
   | exact LeO.none _
   | refine LeO.ite ?_ ?_
   | refine LeO.bind ?_ (fun _ => ?_)
set_option maxHeartbeats 8000000 in
set_option maxRecDepth 100000 in
theorem Yv.calls (k : Nat) (a0 : Int) (r : Int) (w : World) (hE : EnvOk w) (h : Yv.f k a0 = some r) :
  Calls Tryz.prog 97 #[.int .u8 a0] w fun e w' => e = .returned (.int .u32 r) ∧ Drawn0 w w' := by
 have HE := Ya.mk hE
 clear hE
 have H : ((Yda.f k a0).bind fun t183 => (some t183)) = some r := h
 clear h
 replace H := Option.bind_eq_some_iff.mp H
 obtain ⟨t183, A20, H⟩ := H
 replace H : (some t183) = some r := H
 have A2 := Ya.mk A20
 clear A20
 obtain rfl := Option.some.inj H
 go_enter Tryz.func97, Tryz.ntmps97
 go_wp2_with (first | ((with_reducible refine Yi (f := 123) rfl ?_); refine Yy (some 4) rfl rfl Tryz.func123 (by kernel_rfl) rfl #[.int .u8 a0] rfl (by (try simp only [List.map_toArray, List.map_cons, List.map_nil]); first | done | rfl | (simp only [List.length_drop, List.length_take]; rfl)) ?_; (with_reducible refine (Yda.calls k a0 t183 _ ?side1 A2.out).mono ?_); (case side1 => first | exact HE.out | exact EnvOk.heap HE.out rfl); rintro e w' ⟨rfl, ⟨nd, rfl⟩⟩; refine ⟨_, rfl, ?_⟩))
 go_ret
 exact ⟨by first | rfl | (simp; done) | (simp [*]; done), by repeat (first | exact Drawn0.refl _ | apply Drawn0.step)⟩
end Go.Proofs.YtnmglnglbdpjjaaGreatDoor.X
