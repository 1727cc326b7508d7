/- Printed by a program of ours: functions as plain Lean, and what a call of each does. -/
import Derived.Test.YtnmglnglbdpjjaaGreatDoorUjWords
import Derived.Test.YtnmglnglbdpjjaaGreatDoorUjX0
import Derived.Test.YtnmglnglbdpjjaaGreatDoorUjX5
import Derived.Test.YtnmglnglbdpjjaaGreatDoorUjX9
namespace Go.Proofs.YtnmglnglbdpjjaaGreatDoor.X
open Go.RowKit Go.Yw.PrintWords Go.Yw.PrintLast Go.Yw.PrintMore
attribute [local go_sem] Yvd Yyd Yke Yme Yld Ykd Yud Ywd
set_option linter.unusedVariables false
set_option linter.unusedSimpArgs false
def Yca.j0 : Nat → ByteArray → ByteArray → ByteArray → Int → ByteArray → ByteArray → ByteArray → Bool → Bool → Option (ByteArray)
 | 0, _, _, _, _, _, _, _, _, _ => none
 | k + 1, x3, x233000, x233001, x233002, x233003, x233004, x233005, x233006, x233007 => if x3.size + x233003.size ≤ 9223372036854775807 then (if x233006 = true then (if 1 + x233004.size ≤ 9223372036854775807 then (if (x3 ++ x233003).size + ((⟨#[63]⟩ : ByteArray) ++ x233004).size ≤ 9223372036854775807 then (if x233007 = true then (if 1 + x233005.size ≤ 9223372036854775807 then (if ((x3 ++ x233003) ++ ((⟨#[63]⟩ : ByteArray) ++ x233004)).size + ((⟨#[35]⟩ : ByteArray) ++ x233005).size ≤ 9223372036854775807 then (some (((x3 ++ x233003) ++ ((⟨#[63]⟩ : ByteArray) ++ x233004)) ++ ((⟨#[35]⟩ : ByteArray) ++ x233005))) else (none)) else (none)) else (some ((x3 ++ x233003) ++ ((⟨#[63]⟩ : ByteArray) ++ x233004)))) else (none)) else (none)) else (if x233007 = true then (if 1 + x233005.size ≤ 9223372036854775807 then (if (x3 ++ x233003).size + ((⟨#[35]⟩ : ByteArray) ++ x233005).size ≤ 9223372036854775807 then (some ((x3 ++ x233003) ++ ((⟨#[35]⟩ : ByteArray) ++ x233005))) else (none)) else (none)) else (some (x3 ++ x233003)))) else (none)
def Yca.f (k : Nat) (a0_0 : ByteArray) (a0_1 : ByteArray) (a0_2 : Int) (a0_3 : ByteArray) (a0_4 : ByteArray) (a0_5 : ByteArray) (a0_6 : Bool) (a0_7 : Bool) : Option (ByteArray) := if a0_0.size + 3 ≤ 9223372036854775807 then (if (a0_0 ++ (⟨#[58, 47, 47]⟩ : ByteArray)).size + a0_1.size ≤ 9223372036854775807 then (if a0_2 = 0 then (Yca.j0 k ((a0_0 ++ (⟨#[58, 47, 47]⟩ : ByteArray)) ++ a0_1) a0_0 a0_1 a0_2 a0_3 a0_4 a0_5 a0_6 a0_7) else ((Ytc.f k a0_2).bind fun t233 => (if 1 + t233.size ≤ 9223372036854775807 then (if ((a0_0 ++ (⟨#[58, 47, 47]⟩ : ByteArray)) ++ a0_1).size + ((⟨#[58]⟩ : ByteArray) ++ t233).size ≤ 9223372036854775807 then (Yca.j0 k (((a0_0 ++ (⟨#[58, 47, 47]⟩ : ByteArray)) ++ a0_1) ++ ((⟨#[58]⟩ : ByteArray) ++ t233)) a0_0 a0_1 a0_2 a0_3 a0_4 a0_5 a0_6 a0_7) else (none)) else (none)))) else (none)) else (none)
set_option maxHeartbeats 8000000 in
set_option maxRecDepth 100000 in
theorem Yca.calls (k : Nat) (a0_0 : ByteArray) (a0_1 : ByteArray) (a0_2 : Int) (a0_3 : ByteArray) (a0_4 : ByteArray) (a0_5 : ByteArray) (a0_6 : Bool) (a0_7 : Bool) (r : ByteArray) (w : World) (hE : EnvOk w) (h : Yca.f k a0_0 a0_1 a0_2 a0_3 a0_4 a0_5 a0_6 a0_7 = some r) :
  Calls Tryz.prog 25 #[.agg #[.string a0_0, .string a0_1, .int .i64 a0_2, .string a0_3, .string a0_4, .string a0_5, .bool a0_6, .bool a0_7]] w fun e w' => e = .returned (.string r) ∧ Below w.heap.size w w' := by
 have hu25 := Tryz.underlying25
 have HE := Ya.mk hE
 clear hE
 have HB := Ya.mk (Below.refl w.heap.size w)
 have H : (if a0_0.size + 3 ≤ 9223372036854775807 then (if (a0_0 ++ (⟨#[58, 47, 47]⟩ : ByteArray)).size + a0_1.size ≤ 9223372036854775807 then (if a0_2 = 0 then (Yca.j0 k ((a0_0 ++ (⟨#[58, 47, 47]⟩ : ByteArray)) ++ a0_1) a0_0 a0_1 a0_2 a0_3 a0_4 a0_5 a0_6 a0_7) else ((Ytc.f k a0_2).bind fun t233 => (if 1 + t233.size ≤ 9223372036854775807 then (if ((a0_0 ++ (⟨#[58, 47, 47]⟩ : ByteArray)) ++ a0_1).size + ((⟨#[58]⟩ : ByteArray) ++ t233).size ≤ 9223372036854775807 then (Yca.j0 k (((a0_0 ++ (⟨#[58, 47, 47]⟩ : ByteArray)) ++ a0_1) ++ ((⟨#[58]⟩ : ByteArray) ++ t233)) a0_0 a0_1 a0_2 a0_3 a0_4 a0_5 a0_6 a0_7) else (none)) else (none)))) else (none)) else (none)) = some r := h
 clear h
 by_cases c2 : a0_0.size + 3 ≤ 9223372036854775807
 rotate_left
 ·rw [if_neg c2] at H
  exact absurd H Zv
 rw [if_pos c2] at H
 have c2b0 := eq_true c2
 have c2b1 : decide (a0_0.size + 3 ≤ 9223372036854775807) = true := decide_eq_true c2
 try have c2b2 : (9223372036854775807 < a0_0.size + 3) = False := eq_false (Nat.not_lt.2 c2)
 by_cases c3 : (a0_0 ++ (⟨#[58, 47, 47]⟩ : ByteArray)).size + a0_1.size ≤ 9223372036854775807
 rotate_left
 ·rw [if_neg c3] at H
  exact absurd H Zv
 rw [if_pos c3] at H
 have c3b0 := eq_true c3
 have c3b1 : decide ((a0_0 ++ (⟨#[58, 47, 47]⟩ : ByteArray)).size + a0_1.size ≤ 9223372036854775807) = true := decide_eq_true c3
 try have c3b2 : (9223372036854775807 < (a0_0 ++ (⟨#[58, 47, 47]⟩ : ByteArray)).size + a0_1.size) = False := eq_false (Nat.not_lt.2 c3)
 have HC4 := Ya.mk H
 clear H
 go_enter Tryz.func25, Tryz.ntmps25
 go_upto_if 12 with (first | ((with_reducible refine Yuc (N := 1) rfl ?_); refine Yrc ?hg (N := 1) ?hd (cs := #[.string a0_0, .string a0_1, .int .i64 a0_2, .string a0_3, .string a0_4, .string a0_5, .bool a0_6, .bool a0_7]) (t := 25) ?hr ?_; (case hd => rfl); (case hg => rfl); (case hr => first | (go_simp; done) | (go_simp; rfl)); intro gb232 hg w5 hbox hb; have n0_ := Ya.mk (Yq Za hb); have n1_ := Ya.mk (hbox); have n2_ := Ya.mk ((by rw [hg]; exact (Yea Za) : w.heap.size ≤ gb232)); have n3_ := Ya.mk ((by rw [hg]; exact (Yea Za) : w.heap.size ≤ gb232)); clear HB; have HB := n0_; have BK232 := n1_; have GW232 := n2_; have GE232 := n3_; clear n0_ n1_ n2_ n3_; clear hb hbox hg; have hcz6_0 : w5.cell? ⟨gb232, 0, none⟩ = some (.string a0_0) := (Yf BK232.out 0).trans rfl; have hcz6_1 : w5.cell? ⟨gb232, 1, none⟩ = some (.string a0_1) := (Yf BK232.out 1).trans rfl; have hcz6_2 : w5.cell? ⟨gb232, 2, none⟩ = some (.int .i64 a0_2) := (Yf BK232.out 2).trans rfl; have hcz6_3 : w5.cell? ⟨gb232, 3, none⟩ = some (.string a0_3) := (Yf BK232.out 3).trans rfl; have hcz6_4 : w5.cell? ⟨gb232, 4, none⟩ = some (.string a0_4) := (Yf BK232.out 4).trans rfl; have hcz6_5 : w5.cell? ⟨gb232, 5, none⟩ = some (.string a0_5) := (Yf BK232.out 5).trans rfl; have hcz6_6 : w5.cell? ⟨gb232, 6, none⟩ = some (.bool a0_6) := (Yf BK232.out 6).trans rfl; have hcz6_7 : w5.cell? ⟨gb232, 7, none⟩ = some (.bool a0_7) := (Yf BK232.out 7).trans rfl; have hfz6_0 := Ye BK232.out 0; have hfz6_1 := Ye BK232.out 1; have hfz6_2 := Ye BK232.out 2; have hfz6_3 := Ye BK232.out 3; have hfz6_4 := Ye BK232.out 4; have hfz6_5 := Ye BK232.out 5; have hfz6_6 := Ye BK232.out 6; have hfz6_7 := Ye BK232.out 7))
 (try simp only [Act.put, List.setIfInBounds_toArray, List.set_cons_zero, List.set_cons_succ])
 go_cut [3] (fun v3 wc => ∃ (kq : Nat) (x3_3 : ByteArray), v3 = .string x3_3 ∧ Ya (Yca.j0 kq x3_3 a0_0 a0_1 a0_2 a0_3 a0_4 a0_5 a0_6 a0_7 = some r) ∧ Ya (kq ≤ k) ∧ Ya (wc.heap[gb232]? = some (.cells #[.string a0_0, .string a0_1, .int .i64 a0_2, .string a0_3, .string a0_4, .string a0_5, .bool a0_6, .bool a0_7] 25 (0, 0))) ∧ Ya (Below w.heap.size w wc))
 case first =>
  have H := HC4.out
  clear HC4
  by_cases c7 : a0_2 = 0
  ·rw [if_pos c7] at H
   have c7b0 : (a0_2 == 0) = true := beq_iff_eq.mpr c7
   have c7b1 : (a0_2 != 0) = false := bne_eq_false_iff_eq.mpr c7
   clear c7
   (first | rw [c7b0] | (simp only [Yqa, Yra]; rw [c7b0]) | skip)
   have H' := Ya.mk H
   clear H
   go_wp2
   go_meet
   case rel => exact ⟨_, ((a0_0 ++ (⟨#[58, 47, 47]⟩ : ByteArray)) ++ a0_1), Zf, H', ⟨Zna⟩, ⟨Zfb⟩, ⟨Zw⟩⟩
  rw [if_neg c7] at H
  have c7b0 : (a0_2 == 0) = false := beq_eq_false_iff_ne.mpr c7
  have c7b1 : (a0_2 != 0) = true := bne_iff_ne.mpr c7
  (first | rw [c7b0] | (simp only [Yqa, Yra]; rw [c7b0]) | skip)
  replace H := Option.bind_eq_some_iff.mp H
  obtain ⟨t233, A80, H⟩ := H
  try dsimp -simprocs only at H
  have A8 := Ya.mk A80
  clear A80
  by_cases c9 : 1 + t233.size ≤ 9223372036854775807
  rotate_left
  ·rw [if_neg c9] at H
   exact absurd H Zv
  rw [if_pos c9] at H
  have c9b0 := eq_true c9
  have c9b1 : decide (1 + t233.size ≤ 9223372036854775807) = true := decide_eq_true c9
  try have c9b2 : (9223372036854775807 < 1 + t233.size) = False := eq_false (Nat.not_lt.2 c9)
  by_cases c10 : ((a0_0 ++ (⟨#[58, 47, 47]⟩ : ByteArray)) ++ a0_1).size + ((⟨#[58]⟩ : ByteArray) ++ t233).size ≤ 9223372036854775807
  rotate_left
  ·rw [if_neg c10] at H
   exact absurd H Zv
  rw [if_pos c10] at H
  have c10b0 := eq_true c10
  have c10b1 : decide (((a0_0 ++ (⟨#[58, 47, 47]⟩ : ByteArray)) ++ a0_1).size + ((⟨#[58]⟩ : ByteArray) ++ t233).size ≤ 9223372036854775807) = true := decide_eq_true c10
  try have c10b2 : (9223372036854775807 < ((a0_0 ++ (⟨#[58, 47, 47]⟩ : ByteArray)) ++ a0_1).size + ((⟨#[58]⟩ : ByteArray) ++ t233).size) = False := eq_false (Nat.not_lt.2 c10)
  have H' := Ya.mk H
  clear H
  have hcz11_0 : w5.cell? ⟨gb232, 0, none⟩ = some (.string a0_0) := (Yf BK232.out 0).trans rfl
  have hcz11_1 : w5.cell? ⟨gb232, 1, none⟩ = some (.string a0_1) := (Yf BK232.out 1).trans rfl
  have hcz11_2 : w5.cell? ⟨gb232, 2, none⟩ = some (.int .i64 a0_2) := (Yf BK232.out 2).trans rfl
  have hcz11_3 : w5.cell? ⟨gb232, 3, none⟩ = some (.string a0_3) := (Yf BK232.out 3).trans rfl
  have hcz11_4 : w5.cell? ⟨gb232, 4, none⟩ = some (.string a0_4) := (Yf BK232.out 4).trans rfl
  have hcz11_5 : w5.cell? ⟨gb232, 5, none⟩ = some (.string a0_5) := (Yf BK232.out 5).trans rfl
  have hcz11_6 : w5.cell? ⟨gb232, 6, none⟩ = some (.bool a0_6) := (Yf BK232.out 6).trans rfl
  have hcz11_7 : w5.cell? ⟨gb232, 7, none⟩ = some (.bool a0_7) := (Yf BK232.out 7).trans rfl
  have hfz11_0 := Ye BK232.out 0
  have hfz11_1 := Ye BK232.out 1
  have hfz11_2 := Ye BK232.out 2
  have hfz11_3 := Ye BK232.out 3
  have hfz11_4 := Ye BK232.out 4
  have hfz11_5 := Ye BK232.out 5
  have hfz11_6 := Ye BK232.out 6
  have hfz11_7 := Ye BK232.out 7
  go_wp2_with (first | ((with_reducible refine Yh (f := 67) rfl ?_); refine Yz (some 16) rfl rfl Tryz.func67 Zi rfl #[.int .i64 a0_2] rfl Zb ?_; (with_reducible refine (Ytc.calls k a0_2 t233 _ ?side1 A8.out).mono ?_); (case side1 => first | exact HE.out | exact EnvOk.below HE.out Zw); rintro e w12 ⟨rfl, hb⟩; refine ⟨_, rfl, ?_⟩; have n0_ := Ya.mk (Ydb (g := gb232) (o := .cells #[.string a0_0, .string a0_1, .int .i64 a0_2, .string a0_3, .string a0_4, .string a0_5, .bool a0_6, .bool a0_7] 25 (0, 0)) Zfb hb); have n1_ := Ya.mk (Yq Zw hb); clear BK232; clear HB; have BK232 := n0_; have HB := n1_; clear n0_ n1_; (try clear hb); (try clear hb2); (try clear hk); (try clear hi)))
  go_meet
  case rel => exact ⟨_, (((a0_0 ++ (⟨#[58, 47, 47]⟩ : ByteArray)) ++ a0_1) ++ ((⟨#[58]⟩ : ByteArray) ++ t233)), Zf, H', ⟨Zna⟩, ⟨Zfb⟩, ⟨Zw⟩⟩
 case rest =>
  clear HC4
  try clear c1
  try clear c2
  try clear c2b0
  try clear c2b1
  try clear c2b2
  try clear p2
  try clear c3
  try clear c3b0
  try clear c3b1
  try clear c3b2
  try clear c6
  try clear c7
  try clear c7b0
  try clear c7b1
  try clear c9
  try clear c9b0
  try clear c9b1
  try clear c9b2
  try clear c10
  try clear c10b0
  try clear c10b1
  try clear c10b2
  try clear hcz11_0
  try clear hcz11_1
  try clear hcz11_2
  try clear hcz11_3
  try clear hcz11_4
  try clear hcz11_5
  try clear hcz11_6
  try clear hcz11_7
  try clear hcz6_0
  try clear hcz6_1
  try clear hcz6_2
  try clear hcz6_3
  try clear hcz6_4
  try clear hcz6_5
  try clear hcz6_6
  try clear hcz6_7
  try clear hfz11_0
  try clear hfz11_1
  try clear hfz11_2
  try clear hfz11_3
  try clear hfz11_4
  try clear hfz11_5
  try clear hfz11_6
  try clear hfz11_7
  try clear hfz6_0
  try clear hfz6_1
  try clear hfz6_2
  try clear hfz6_3
  try clear hfz6_4
  try clear hfz6_5
  try clear hfz6_6
  try clear hfz6_7
  obtain ⟨kq, x3_3, rfl, HA, HJ3, BK232, HB⟩ := hcut
  cases kq with
  | zero => exact absurd HA.out (by simp [Yca.j0])
  | succ kj3 =>
   have H := HA.out
   clear HA
   simp only [Yca.j0] at H
   by_cases c13 : x3_3.size + a0_3.size ≤ 9223372036854775807
   rotate_left
   ·rw [if_neg c13] at H
    exact absurd H Zv
   rw [if_pos c13] at H
   have c13b0 := eq_true c13
   have c13b1 : decide (x3_3.size + a0_3.size ≤ 9223372036854775807) = true := decide_eq_true c13
   try have c13b2 : (9223372036854775807 < x3_3.size + a0_3.size) = False := eq_false (Nat.not_lt.2 c13)
   by_cases c14 : a0_6 = true
   rotate_left
   ·replace c14 := Bool.eq_false_iff.mpr c14
    subst c14
    rw [if_neg (show ¬ (false = true) by decide)] at H
    by_cases c22 : a0_7 = true
    rotate_left
    ·replace c22 := Bool.eq_false_iff.mpr c22
     subst c22
     rw [if_neg (show ¬ (false = true) by decide)] at H
     obtain rfl := Option.some.inj H
     have hcz26_0 : wc.cell? ⟨gb232, 0, none⟩ = some (.string a0_0) := (Yf BK232.out 0).trans rfl
     have hcz26_1 : wc.cell? ⟨gb232, 1, none⟩ = some (.string a0_1) := (Yf BK232.out 1).trans rfl
     have hcz26_2 : wc.cell? ⟨gb232, 2, none⟩ = some (.int .i64 a0_2) := (Yf BK232.out 2).trans rfl
     have hcz26_3 : wc.cell? ⟨gb232, 3, none⟩ = some (.string a0_3) := (Yf BK232.out 3).trans rfl
     have hcz26_4 : wc.cell? ⟨gb232, 4, none⟩ = some (.string a0_4) := (Yf BK232.out 4).trans rfl
     have hcz26_5 : wc.cell? ⟨gb232, 5, none⟩ = some (.string a0_5) := (Yf BK232.out 5).trans rfl
     have hcz26_6 : wc.cell? ⟨gb232, 6, none⟩ = some (.bool false) := (Yf BK232.out 6).trans rfl
     have hcz26_7 : wc.cell? ⟨gb232, 7, none⟩ = some (.bool false) := (Yf BK232.out 7).trans rfl
     have hfz26_0 := Ye BK232.out 0
     have hfz26_1 := Ye BK232.out 1
     have hfz26_2 := Ye BK232.out 2
     have hfz26_3 := Ye BK232.out 3
     have hfz26_4 := Ye BK232.out 4
     have hfz26_5 := Ye BK232.out 5
     have hfz26_6 := Ye BK232.out 6
     have hfz26_7 := Ye BK232.out 7
     go_wp2
     go_ret
     exact ⟨Zk, Zw⟩
    subst c22
    rw [if_pos rfl] at H
    by_cases c23 : 1 + a0_5.size ≤ 9223372036854775807
    rotate_left
    ·rw [if_neg c23] at H
     exact absurd H Zv
    rw [if_pos c23] at H
    have c23b0 := eq_true c23
    have c23b1 : decide (1 + a0_5.size ≤ 9223372036854775807) = true := decide_eq_true c23
    try have c23b2 : (9223372036854775807 < 1 + a0_5.size) = False := eq_false (Nat.not_lt.2 c23)
    by_cases c24 : (x3_3 ++ a0_3).size + ((⟨#[35]⟩ : ByteArray) ++ a0_5).size ≤ 9223372036854775807
    rotate_left
    ·rw [if_neg c24] at H
     exact absurd H Zv
    rw [if_pos c24] at H
    have c24b0 := eq_true c24
    have c24b1 : decide ((x3_3 ++ a0_3).size + ((⟨#[35]⟩ : ByteArray) ++ a0_5).size ≤ 9223372036854775807) = true := decide_eq_true c24
    try have c24b2 : (9223372036854775807 < (x3_3 ++ a0_3).size + ((⟨#[35]⟩ : ByteArray) ++ a0_5).size) = False := eq_false (Nat.not_lt.2 c24)
    obtain rfl := Option.some.inj H
    have hcz25_0 : wc.cell? ⟨gb232, 0, none⟩ = some (.string a0_0) := (Yf BK232.out 0).trans rfl
    have hcz25_1 : wc.cell? ⟨gb232, 1, none⟩ = some (.string a0_1) := (Yf BK232.out 1).trans rfl
    have hcz25_2 : wc.cell? ⟨gb232, 2, none⟩ = some (.int .i64 a0_2) := (Yf BK232.out 2).trans rfl
    have hcz25_3 : wc.cell? ⟨gb232, 3, none⟩ = some (.string a0_3) := (Yf BK232.out 3).trans rfl
    have hcz25_4 : wc.cell? ⟨gb232, 4, none⟩ = some (.string a0_4) := (Yf BK232.out 4).trans rfl
    have hcz25_5 : wc.cell? ⟨gb232, 5, none⟩ = some (.string a0_5) := (Yf BK232.out 5).trans rfl
    have hcz25_6 : wc.cell? ⟨gb232, 6, none⟩ = some (.bool false) := (Yf BK232.out 6).trans rfl
    have hcz25_7 : wc.cell? ⟨gb232, 7, none⟩ = some (.bool true) := (Yf BK232.out 7).trans rfl
    have hfz25_0 := Ye BK232.out 0
    have hfz25_1 := Ye BK232.out 1
    have hfz25_2 := Ye BK232.out 2
    have hfz25_3 := Ye BK232.out 3
    have hfz25_4 := Ye BK232.out 4
    have hfz25_5 := Ye BK232.out 5
    have hfz25_6 := Ye BK232.out 6
    have hfz25_7 := Ye BK232.out 7
    go_wp2
    go_ret
    exact ⟨Zk, Zw⟩
   subst c14
   rw [if_pos rfl] at H
   by_cases c15 : 1 + a0_4.size ≤ 9223372036854775807
   rotate_left
   ·rw [if_neg c15] at H
    exact absurd H Zv
   rw [if_pos c15] at H
   have c15b0 := eq_true c15
   have c15b1 : decide (1 + a0_4.size ≤ 9223372036854775807) = true := decide_eq_true c15
   try have c15b2 : (9223372036854775807 < 1 + a0_4.size) = False := eq_false (Nat.not_lt.2 c15)
   by_cases c16 : (x3_3 ++ a0_3).size + ((⟨#[63]⟩ : ByteArray) ++ a0_4).size ≤ 9223372036854775807
   rotate_left
   ·rw [if_neg c16] at H
    exact absurd H Zv
   rw [if_pos c16] at H
   have c16b0 := eq_true c16
   have c16b1 : decide ((x3_3 ++ a0_3).size + ((⟨#[63]⟩ : ByteArray) ++ a0_4).size ≤ 9223372036854775807) = true := decide_eq_true c16
   try have c16b2 : (9223372036854775807 < (x3_3 ++ a0_3).size + ((⟨#[63]⟩ : ByteArray) ++ a0_4).size) = False := eq_false (Nat.not_lt.2 c16)
   by_cases c17 : a0_7 = true
   rotate_left
   ·replace c17 := Bool.eq_false_iff.mpr c17
    subst c17
    rw [if_neg (show ¬ (false = true) by decide)] at H
    obtain rfl := Option.some.inj H
    have hcz21_0 : wc.cell? ⟨gb232, 0, none⟩ = some (.string a0_0) := (Yf BK232.out 0).trans rfl
    have hcz21_1 : wc.cell? ⟨gb232, 1, none⟩ = some (.string a0_1) := (Yf BK232.out 1).trans rfl
    have hcz21_2 : wc.cell? ⟨gb232, 2, none⟩ = some (.int .i64 a0_2) := (Yf BK232.out 2).trans rfl
    have hcz21_3 : wc.cell? ⟨gb232, 3, none⟩ = some (.string a0_3) := (Yf BK232.out 3).trans rfl
    have hcz21_4 : wc.cell? ⟨gb232, 4, none⟩ = some (.string a0_4) := (Yf BK232.out 4).trans rfl
    have hcz21_5 : wc.cell? ⟨gb232, 5, none⟩ = some (.string a0_5) := (Yf BK232.out 5).trans rfl
    have hcz21_6 : wc.cell? ⟨gb232, 6, none⟩ = some (.bool true) := (Yf BK232.out 6).trans rfl
    have hcz21_7 : wc.cell? ⟨gb232, 7, none⟩ = some (.bool false) := (Yf BK232.out 7).trans rfl
    have hfz21_0 := Ye BK232.out 0
    have hfz21_1 := Ye BK232.out 1
    have hfz21_2 := Ye BK232.out 2
    have hfz21_3 := Ye BK232.out 3
    have hfz21_4 := Ye BK232.out 4
    have hfz21_5 := Ye BK232.out 5
    have hfz21_6 := Ye BK232.out 6
    have hfz21_7 := Ye BK232.out 7
    go_wp2
    go_ret
    exact ⟨Zk, Zw⟩
   subst c17
   rw [if_pos rfl] at H
   by_cases c18 : 1 + a0_5.size ≤ 9223372036854775807
   rotate_left
   ·rw [if_neg c18] at H
    exact absurd H Zv
   rw [if_pos c18] at H
   have c18b0 := eq_true c18
   have c18b1 : decide (1 + a0_5.size ≤ 9223372036854775807) = true := decide_eq_true c18
   try have c18b2 : (9223372036854775807 < 1 + a0_5.size) = False := eq_false (Nat.not_lt.2 c18)
   by_cases c19 : ((x3_3 ++ a0_3) ++ ((⟨#[63]⟩ : ByteArray) ++ a0_4)).size + ((⟨#[35]⟩ : ByteArray) ++ a0_5).size ≤ 9223372036854775807
   rotate_left
   ·rw [if_neg c19] at H
    exact absurd H Zv
   rw [if_pos c19] at H
   have c19b0 := eq_true c19
   have c19b1 : decide (((x3_3 ++ a0_3) ++ ((⟨#[63]⟩ : ByteArray) ++ a0_4)).size + ((⟨#[35]⟩ : ByteArray) ++ a0_5).size ≤ 9223372036854775807) = true := decide_eq_true c19
   try have c19b2 : (9223372036854775807 < ((x3_3 ++ a0_3) ++ ((⟨#[63]⟩ : ByteArray) ++ a0_4)).size + ((⟨#[35]⟩ : ByteArray) ++ a0_5).size) = False := eq_false (Nat.not_lt.2 c19)
   obtain rfl := Option.some.inj H
   have hcz20_0 : wc.cell? ⟨gb232, 0, none⟩ = some (.string a0_0) := (Yf BK232.out 0).trans rfl
   have hcz20_1 : wc.cell? ⟨gb232, 1, none⟩ = some (.string a0_1) := (Yf BK232.out 1).trans rfl
   have hcz20_2 : wc.cell? ⟨gb232, 2, none⟩ = some (.int .i64 a0_2) := (Yf BK232.out 2).trans rfl
   have hcz20_3 : wc.cell? ⟨gb232, 3, none⟩ = some (.string a0_3) := (Yf BK232.out 3).trans rfl
   have hcz20_4 : wc.cell? ⟨gb232, 4, none⟩ = some (.string a0_4) := (Yf BK232.out 4).trans rfl
   have hcz20_5 : wc.cell? ⟨gb232, 5, none⟩ = some (.string a0_5) := (Yf BK232.out 5).trans rfl
   have hcz20_6 : wc.cell? ⟨gb232, 6, none⟩ = some (.bool true) := (Yf BK232.out 6).trans rfl
   have hcz20_7 : wc.cell? ⟨gb232, 7, none⟩ = some (.bool true) := (Yf BK232.out 7).trans rfl
   have hfz20_0 := Ye BK232.out 0
   have hfz20_1 := Ye BK232.out 1
   have hfz20_2 := Ye BK232.out 2
   have hfz20_3 := Ye BK232.out 3
   have hfz20_4 := Ye BK232.out 4
   have hfz20_5 := Ye BK232.out 5
   have hfz20_6 := Ye BK232.out 6
   have hfz20_7 := Ye BK232.out 7
   go_wp2
   go_ret
   exact ⟨Zk, Zw⟩
def Yw.l0 : Nat → ByteArray → Int → Option (Int)
 | 0, _, _ => none
 | k + 1, x0, x3 => if x3 < (x0.size : Int) then (if 0 ≤ x3 then ((Ysa.f (bt x0 x3)).bind fun t234 => (if t234 = true then (Yw.l0 k x0 (wrap64 (x3 + 1))) else (if x3 > 0 then ((Yv.f (bt x0 x3)).bind fun t235 => (if t235 = true then (Yw.l0 k x0 (wrap64 (x3 + 1))) else ((Yga.f k (bt x0 x3) (⟨#[43, 45, 46]⟩ : ByteArray)).bind fun t236 => (if t236 = true then (Yw.l0 k x0 (wrap64 (x3 + 1))) else (if x3 = 0 then (some 0) else (if x3 = (x0.size : Int) then (some 0) else (if (bt x0 x3) = 58 then (some (wrap64 (x3 + 1))) else (some 0)))))))) else (if x3 = 0 then (some 0) else (if x3 = (x0.size : Int) then (some 0) else (if (bt x0 x3) = 58 then (some (wrap64 (x3 + 1))) else (some 0))))))) else (none)) else (if x3 = 0 then (some 0) else (if x3 = (x0.size : Int) then (some 0) else (if 0 ≤ x3 then (none) else (none))))
def Yw.f (k : Nat) (a0 : ByteArray) : Option (Int) := Yw.l0 k a0 0
set_option maxHeartbeats 8000000 in
set_option maxRecDepth 100000 in
theorem Yw.calls (k : Nat) (a0 : ByteArray) (r : Int) (w : World) (hE : EnvOk w) (h : Yw.f k a0 = some r) :
  Calls Tryz.prog 46 #[.string a0] w fun e w' => e = .returned (.int .i64 r) ∧ Drawn0 w w' := by
 have HE := Ya.mk hE
 clear hE
 have H : (Yw.l0 k a0 0) = some r := h
 clear h
 have H' := Ya.mk H
 clear H
 go_enter Tryz.func46, Tryz.ntmps46
 go_wp2
 go_loopg [3] k (fun kq v3 w' => ∃ (x3_1 : Int), v3 = .int .i64 x3_1 ∧ Ya (Yw.l0 kq a0 x3_1 = some r) ∧ Ya (kq ≤ k) ∧ Drawn0 w w')
 case atStart => exact ⟨(0), Zf, H', ⟨Nat.le_refl _⟩, Zh⟩
 case round =>
  clear H'
  obtain ⟨x3_1, rfl, HA, HK1, ⟨m1, rfl⟩⟩ := hrel
  cases gk with
  | zero => exact absurd HA.out (by simp [Yw.l0])
  | succ k1 =>
   have H := HA.out
   clear HA
   simp only [Yw.l0] at H
   by_cases c2 : x3_1 < (a0.size : Int)
   rotate_left
   ·rw [if_neg c2] at H
    have c2b0 : decide (x3_1 < (a0.size : Int)) = false := decide_eq_false c2
    clear c2
    by_cases c22 : x3_1 = 0
    ·rw [if_pos c22] at H
     have c22b0 : (x3_1 == 0) = true := beq_iff_eq.mpr c22
     have c22b1 : (x3_1 != 0) = false := bne_eq_false_iff_eq.mpr c22
     clear c22
     obtain rfl := Option.some.inj H
     go_wp2
     go_ret
     exact ⟨Zf, Zh⟩
    rw [if_neg c22] at H
    have c22b0 : (x3_1 == 0) = false := beq_eq_false_iff_ne.mpr c22
    have c22b1 : (x3_1 != 0) = true := bne_iff_ne.mpr c22
    by_cases c23 : x3_1 = (a0.size : Int)
    rotate_left
    ·rw [if_neg c23] at H
     have c23b0 : (x3_1 == (a0.size : Int)) = false := beq_eq_false_iff_ne.mpr c23
     have c23b1 : (x3_1 != (a0.size : Int)) = true := bne_iff_ne.mpr c23
     by_cases c24 : 0 ≤ x3_1
     rotate_left
     ·rw [if_neg c24] at H
      exact absurd H Zv
     rw [if_pos c24] at H
     exact absurd H Zv
    rw [if_pos c23] at H
    have c23b0 : (x3_1 == (a0.size : Int)) = true := beq_iff_eq.mpr c23
    have c23b1 : (x3_1 != (a0.size : Int)) = false := bne_eq_false_iff_eq.mpr c23
    clear c23
    obtain rfl := Option.some.inj H
    go_wp2
    go_ret
    exact ⟨Zf, Zh⟩
   rw [if_pos c2] at H
   have c2b0 : decide (x3_1 < (a0.size : Int)) = true := decide_eq_true c2
   clear c2
   by_cases c3 : 0 ≤ x3_1
   rotate_left
   ·rw [if_neg c3] at H
    exact absurd H Zv
   rw [if_pos c3] at H
   have c3b0 : decide (0 ≤ x3_1) = true := decide_eq_true c3
   clear c3
   replace H := Option.bind_eq_some_iff.mp H
   obtain ⟨t234, A50, H⟩ := H
   try dsimp -simprocs only at H
   have A5 := Ya.mk A50
   clear A50
   by_cases c6 : t234 = true
   ·subst c6
    rw [if_pos rfl] at H
    have H' := Ya.mk H
    clear H
    have p4 : 0 ≤ (x3_1 : Int) := of_decide_eq_true Zc
    have q4 : x3_1 < (a0.size : Int) := of_decide_eq_true Zc
    have hx4 := Yya a0 x3_1
    replace p4 := eq_true p4
    replace q4 := eq_true q4
    go_wp2_with (first | (go_at_call 86; (with_reducible refine (Ysa.calls (bt a0 x3_1) true _ ?side1 A5.out).mono ?_); (case side1 => first | exact HE.out | exact EnvOk.heap HE.out rfl); rintro e w' ⟨rfl, ⟨nd, rfl⟩⟩))
    go_roundg k1
    case measure => have := HK1.out; omega
    case rel => exact ⟨(wrap64 (x3_1 + 1)), Zf, H', ⟨Zaa⟩, Zh⟩
   replace c6 := Bool.eq_false_iff.mpr c6
   subst c6
   rw [if_neg (show ¬ (false = true) by decide)] at H
   by_cases c7 : x3_1 > 0
   rotate_left
   ·rw [if_neg c7] at H
    have c7b0 : decide (0 < x3_1) = false := decide_eq_false c7
    clear c7
    by_cases c18 : x3_1 = 0
    ·rw [if_pos c18] at H
     have c18b0 : (x3_1 == 0) = true := beq_iff_eq.mpr c18
     have c18b1 : (x3_1 != 0) = false := bne_eq_false_iff_eq.mpr c18
     clear c18
     obtain rfl := Option.some.inj H
     have p4 : 0 ≤ (x3_1 : Int) := of_decide_eq_true Zc
     have q4 : x3_1 < (a0.size : Int) := of_decide_eq_true Zc
     have hx4 := Yya a0 x3_1
     replace p4 := eq_true p4
     replace q4 := eq_true q4
     go_wp2_with (first | (go_at_call 86; (with_reducible refine (Ysa.calls (bt a0 x3_1) false _ ?side1 A5.out).mono ?_); (case side1 => first | exact HE.out | exact EnvOk.heap HE.out rfl); rintro e w' ⟨rfl, ⟨nd, rfl⟩⟩))
     go_ret
     exact ⟨Zf, Zh⟩
    rw [if_neg c18] at H
    have c18b0 : (x3_1 == 0) = false := beq_eq_false_iff_ne.mpr c18
    have c18b1 : (x3_1 != 0) = true := bne_iff_ne.mpr c18
    by_cases c19 : x3_1 = (a0.size : Int)
    ·rw [if_pos c19] at H
     have c19b0 : (x3_1 == (a0.size : Int)) = true := beq_iff_eq.mpr c19
     have c19b1 : (x3_1 != (a0.size : Int)) = false := bne_eq_false_iff_eq.mpr c19
     clear c19
     obtain rfl := Option.some.inj H
     have p4 : 0 ≤ (x3_1 : Int) := of_decide_eq_true Zc
     have q4 : x3_1 < (a0.size : Int) := of_decide_eq_true Zc
     have hx4 := Yya a0 x3_1
     replace p4 := eq_true p4
     replace q4 := eq_true q4
     go_wp2_with (first | (go_at_call 86; (with_reducible refine (Ysa.calls (bt a0 x3_1) false _ ?side1 A5.out).mono ?_); (case side1 => first | exact HE.out | exact EnvOk.heap HE.out rfl); rintro e w' ⟨rfl, ⟨nd, rfl⟩⟩))
     go_ret
     exact ⟨Zf, Zh⟩
    rw [if_neg c19] at H
    have c19b0 : (x3_1 == (a0.size : Int)) = false := beq_eq_false_iff_ne.mpr c19
    have c19b1 : (x3_1 != (a0.size : Int)) = true := bne_iff_ne.mpr c19
    by_cases c21 : (bt a0 x3_1) = 58
    rotate_left
    ·rw [if_neg c21] at H
     have c21b0 : ((bt a0 x3_1) == 58) = false := beq_eq_false_iff_ne.mpr c21
     have c21b1 : ((bt a0 x3_1) != 58) = true := bne_iff_ne.mpr c21
     obtain rfl := Option.some.inj H
     have p4 : 0 ≤ (x3_1 : Int) := of_decide_eq_true Zc
     have q4 : x3_1 < (a0.size : Int) := of_decide_eq_true Zc
     have hx4 := Yya a0 x3_1
     replace p4 := eq_true p4
     replace q4 := eq_true q4
     go_wp2_with (first | (go_at_call 86; (with_reducible refine (Ysa.calls (bt a0 x3_1) false _ ?side1 A5.out).mono ?_); (case side1 => first | exact HE.out | exact EnvOk.heap HE.out rfl); rintro e w' ⟨rfl, ⟨nd, rfl⟩⟩; have p20 : 0 ≤ (x3_1 : Int) := of_decide_eq_true Zc; have q20 : x3_1 < (a0.size : Int) := of_decide_eq_true Zc; have hx20 := Yya a0 x3_1; replace p20 := eq_true p20; replace q20 := eq_true q20))
     go_ret
     exact ⟨Zf, Zh⟩
    rw [if_pos c21] at H
    have c21b0 : ((bt a0 x3_1) == 58) = true := beq_iff_eq.mpr c21
    have c21b1 : ((bt a0 x3_1) != 58) = false := bne_eq_false_iff_eq.mpr c21
    clear c21
    obtain rfl := Option.some.inj H
    have p4 : 0 ≤ (x3_1 : Int) := of_decide_eq_true Zc
    have q4 : x3_1 < (a0.size : Int) := of_decide_eq_true Zc
    have hx4 := Yya a0 x3_1
    replace p4 := eq_true p4
    replace q4 := eq_true q4
    go_wp2_with (first | (go_at_call 86; (with_reducible refine (Ysa.calls (bt a0 x3_1) false _ ?side1 A5.out).mono ?_); (case side1 => first | exact HE.out | exact EnvOk.heap HE.out rfl); rintro e w' ⟨rfl, ⟨nd, rfl⟩⟩; have p20 : 0 ≤ (x3_1 : Int) := of_decide_eq_true Zc; have q20 : x3_1 < (a0.size : Int) := of_decide_eq_true Zc; have hx20 := Yya a0 x3_1; replace p20 := eq_true p20; replace q20 := eq_true q20))
    go_ret
    exact ⟨Zf, Zh⟩
   rw [if_pos c7] at H
   have c7b0 : decide (0 < x3_1) = true := decide_eq_true c7
   clear c7
   replace H := Option.bind_eq_some_iff.mp H
   obtain ⟨t235, A90, H⟩ := H
   try dsimp -simprocs only at H
   have A9 := Ya.mk A90
   clear A90
   by_cases c10 : t235 = true
   ·subst c10
    rw [if_pos rfl] at H
    have H' := Ya.mk H
    clear H
    have p4 : 0 ≤ (x3_1 : Int) := of_decide_eq_true Zc
    have q4 : x3_1 < (a0.size : Int) := of_decide_eq_true Zc
    have hx4 := Yya a0 x3_1
    replace p4 := eq_true p4
    replace q4 := eq_true q4
    go_wp2_with (first | (go_at_call 86; (with_reducible refine (Ysa.calls (bt a0 x3_1) false _ ?side1 A5.out).mono ?_); (case side1 => first | exact HE.out | exact EnvOk.heap HE.out rfl); rintro e w' ⟨rfl, ⟨nd, rfl⟩⟩; have p8 : 0 ≤ (x3_1 : Int) := of_decide_eq_true Zc; have q8 : x3_1 < (a0.size : Int) := of_decide_eq_true Zc; have hx8 := Yya a0 x3_1; replace p8 := eq_true p8; replace q8 := eq_true q8) | (go_at_call 87; (with_reducible refine (Yv.calls (bt a0 x3_1) true _ ?side1 A9.out).mono ?_); (case side1 => first | exact HE.out | exact EnvOk.heap HE.out rfl); rintro e w' ⟨rfl, ⟨nd, rfl⟩⟩))
    go_roundg k1
    case measure => have := HK1.out; omega
    case rel => exact ⟨(wrap64 (x3_1 + 1)), Zf, H', ⟨Zaa⟩, Zh⟩
   replace c10 := Bool.eq_false_iff.mpr c10
   subst c10
   rw [if_neg (show ¬ (false = true) by decide)] at H
   replace H := Option.bind_eq_some_iff.mp H
   obtain ⟨t236, A120, H⟩ := H
   try dsimp -simprocs only at H
   have A12 := Ya.mk A120
   clear A120
   by_cases c13 : t236 = true
   ·subst c13
    rw [if_pos rfl] at H
    have H' := Ya.mk H
    clear H
    have p4 : 0 ≤ (x3_1 : Int) := of_decide_eq_true Zc
    have q4 : x3_1 < (a0.size : Int) := of_decide_eq_true Zc
    have hx4 := Yya a0 x3_1
    replace p4 := eq_true p4
    replace q4 := eq_true q4
    go_wp2_with (first | (go_at_call 86; (with_reducible refine (Ysa.calls (bt a0 x3_1) false _ ?side1 A5.out).mono ?_); (case side1 => first | exact HE.out | exact EnvOk.heap HE.out rfl); rintro e w' ⟨rfl, ⟨nd, rfl⟩⟩; have p8 : 0 ≤ (x3_1 : Int) := of_decide_eq_true Zc; have q8 : x3_1 < (a0.size : Int) := of_decide_eq_true Zc; have hx8 := Yya a0 x3_1; replace p8 := eq_true p8; replace q8 := eq_true q8) | (go_at_call 87; (with_reducible refine (Yv.calls (bt a0 x3_1) false _ ?side1 A9.out).mono ?_); (case side1 => first | exact HE.out | exact EnvOk.heap HE.out rfl); rintro e w' ⟨rfl, ⟨nd, rfl⟩⟩; have p11 : 0 ≤ (x3_1 : Int) := of_decide_eq_true Zc; have q11 : x3_1 < (a0.size : Int) := of_decide_eq_true Zc; have hx11 := Yya a0 x3_1; replace p11 := eq_true p11; replace q11 := eq_true q11) | (go_at_call 88; (with_reducible refine (Yga.calls k1 (bt a0 x3_1) (⟨#[43, 45, 46]⟩ : ByteArray) true _ ?side1 A12.out).mono ?_); (case side1 => first | exact HE.out | exact EnvOk.heap HE.out rfl); rintro e w' ⟨rfl, ⟨nd, rfl⟩⟩))
    go_roundg k1
    case measure => have := HK1.out; omega
    case rel => exact ⟨(wrap64 (x3_1 + 1)), Zf, H', ⟨Zaa⟩, Zh⟩
   replace c13 := Bool.eq_false_iff.mpr c13
   subst c13
   rw [if_neg (show ¬ (false = true) by decide)] at H
   by_cases c14 : x3_1 = 0
   ·rw [if_pos c14] at H
    have c14b0 : (x3_1 == 0) = true := beq_iff_eq.mpr c14
    have c14b1 : (x3_1 != 0) = false := bne_eq_false_iff_eq.mpr c14
    clear c14
    obtain rfl := Option.some.inj H
    have p4 : 0 ≤ (x3_1 : Int) := of_decide_eq_true Zc
    have q4 : x3_1 < (a0.size : Int) := of_decide_eq_true Zc
    have hx4 := Yya a0 x3_1
    replace p4 := eq_true p4
    replace q4 := eq_true q4
    go_wp2_with (first | (go_at_call 86; (with_reducible refine (Ysa.calls (bt a0 x3_1) false _ ?side1 A5.out).mono ?_); (case side1 => first | exact HE.out | exact EnvOk.heap HE.out rfl); rintro e w' ⟨rfl, ⟨nd, rfl⟩⟩; have p8 : 0 ≤ (x3_1 : Int) := of_decide_eq_true Zc; have q8 : x3_1 < (a0.size : Int) := of_decide_eq_true Zc; have hx8 := Yya a0 x3_1; replace p8 := eq_true p8; replace q8 := eq_true q8) | (go_at_call 87; (with_reducible refine (Yv.calls (bt a0 x3_1) false _ ?side1 A9.out).mono ?_); (case side1 => first | exact HE.out | exact EnvOk.heap HE.out rfl); rintro e w' ⟨rfl, ⟨nd, rfl⟩⟩; have p11 : 0 ≤ (x3_1 : Int) := of_decide_eq_true Zc; have q11 : x3_1 < (a0.size : Int) := of_decide_eq_true Zc; have hx11 := Yya a0 x3_1; replace p11 := eq_true p11; replace q11 := eq_true q11) | (go_at_call 88; (with_reducible refine (Yga.calls k1 (bt a0 x3_1) (⟨#[43, 45, 46]⟩ : ByteArray) false _ ?side1 A12.out).mono ?_); (case side1 => first | exact HE.out | exact EnvOk.heap HE.out rfl); rintro e w' ⟨rfl, ⟨nd, rfl⟩⟩))
    go_ret
    exact ⟨Zf, Zh⟩
   rw [if_neg c14] at H
   have c14b0 : (x3_1 == 0) = false := beq_eq_false_iff_ne.mpr c14
   have c14b1 : (x3_1 != 0) = true := bne_iff_ne.mpr c14
   by_cases c15 : x3_1 = (a0.size : Int)
   ·rw [if_pos c15] at H
    have c15b0 : (x3_1 == (a0.size : Int)) = true := beq_iff_eq.mpr c15
    have c15b1 : (x3_1 != (a0.size : Int)) = false := bne_eq_false_iff_eq.mpr c15
    clear c15
    obtain rfl := Option.some.inj H
    have p4 : 0 ≤ (x3_1 : Int) := of_decide_eq_true Zc
    have q4 : x3_1 < (a0.size : Int) := of_decide_eq_true Zc
    have hx4 := Yya a0 x3_1
    replace p4 := eq_true p4
    replace q4 := eq_true q4
    go_wp2_with (first | (go_at_call 86; (with_reducible refine (Ysa.calls (bt a0 x3_1) false _ ?side1 A5.out).mono ?_); (case side1 => first | exact HE.out | exact EnvOk.heap HE.out rfl); rintro e w' ⟨rfl, ⟨nd, rfl⟩⟩; have p8 : 0 ≤ (x3_1 : Int) := of_decide_eq_true Zc; have q8 : x3_1 < (a0.size : Int) := of_decide_eq_true Zc; have hx8 := Yya a0 x3_1; replace p8 := eq_true p8; replace q8 := eq_true q8) | (go_at_call 87; (with_reducible refine (Yv.calls (bt a0 x3_1) false _ ?side1 A9.out).mono ?_); (case side1 => first | exact HE.out | exact EnvOk.heap HE.out rfl); rintro e w' ⟨rfl, ⟨nd, rfl⟩⟩; have p11 : 0 ≤ (x3_1 : Int) := of_decide_eq_true Zc; have q11 : x3_1 < (a0.size : Int) := of_decide_eq_true Zc; have hx11 := Yya a0 x3_1; replace p11 := eq_true p11; replace q11 := eq_true q11) | (go_at_call 88; (with_reducible refine (Yga.calls k1 (bt a0 x3_1) (⟨#[43, 45, 46]⟩ : ByteArray) false _ ?side1 A12.out).mono ?_); (case side1 => first | exact HE.out | exact EnvOk.heap HE.out rfl); rintro e w' ⟨rfl, ⟨nd, rfl⟩⟩))
    go_ret
    exact ⟨Zf, Zh⟩
   rw [if_neg c15] at H
   have c15b0 : (x3_1 == (a0.size : Int)) = false := beq_eq_false_iff_ne.mpr c15
   have c15b1 : (x3_1 != (a0.size : Int)) = true := bne_iff_ne.mpr c15
   by_cases c17 : (bt a0 x3_1) = 58
   rotate_left
   ·rw [if_neg c17] at H
    have c17b0 : ((bt a0 x3_1) == 58) = false := beq_eq_false_iff_ne.mpr c17
    have c17b1 : ((bt a0 x3_1) != 58) = true := bne_iff_ne.mpr c17
    obtain rfl := Option.some.inj H
    have p4 : 0 ≤ (x3_1 : Int) := of_decide_eq_true Zc
    have q4 : x3_1 < (a0.size : Int) := of_decide_eq_true Zc
    have hx4 := Yya a0 x3_1
    replace p4 := eq_true p4
    replace q4 := eq_true q4
    go_wp2_with (first | (go_at_call 86; (with_reducible refine (Ysa.calls (bt a0 x3_1) false _ ?side1 A5.out).mono ?_); (case side1 => first | exact HE.out | exact EnvOk.heap HE.out rfl); rintro e w' ⟨rfl, ⟨nd, rfl⟩⟩; have p8 : 0 ≤ (x3_1 : Int) := of_decide_eq_true Zc; have q8 : x3_1 < (a0.size : Int) := of_decide_eq_true Zc; have hx8 := Yya a0 x3_1; replace p8 := eq_true p8; replace q8 := eq_true q8) | (go_at_call 87; (with_reducible refine (Yv.calls (bt a0 x3_1) false _ ?side1 A9.out).mono ?_); (case side1 => first | exact HE.out | exact EnvOk.heap HE.out rfl); rintro e w' ⟨rfl, ⟨nd, rfl⟩⟩; have p11 : 0 ≤ (x3_1 : Int) := of_decide_eq_true Zc; have q11 : x3_1 < (a0.size : Int) := of_decide_eq_true Zc; have hx11 := Yya a0 x3_1; replace p11 := eq_true p11; replace q11 := eq_true q11) | (go_at_call 88; (with_reducible refine (Yga.calls k1 (bt a0 x3_1) (⟨#[43, 45, 46]⟩ : ByteArray) false _ ?side1 A12.out).mono ?_); (case side1 => first | exact HE.out | exact EnvOk.heap HE.out rfl); rintro e w' ⟨rfl, ⟨nd, rfl⟩⟩; have p16 : 0 ≤ (x3_1 : Int) := of_decide_eq_true Zc; have q16 : x3_1 < (a0.size : Int) := of_decide_eq_true Zc; have hx16 := Yya a0 x3_1; replace p16 := eq_true p16; replace q16 := eq_true q16))
    go_ret
    exact ⟨Zf, Zh⟩
   rw [if_pos c17] at H
   have c17b0 : ((bt a0 x3_1) == 58) = true := beq_iff_eq.mpr c17
   have c17b1 : ((bt a0 x3_1) != 58) = false := bne_eq_false_iff_eq.mpr c17
   clear c17
   obtain rfl := Option.some.inj H
   have p4 : 0 ≤ (x3_1 : Int) := of_decide_eq_true Zc
   have q4 : x3_1 < (a0.size : Int) := of_decide_eq_true Zc
   have hx4 := Yya a0 x3_1
   replace p4 := eq_true p4
   replace q4 := eq_true q4
   go_wp2_with (first | (go_at_call 86; (with_reducible refine (Ysa.calls (bt a0 x3_1) false _ ?side1 A5.out).mono ?_); (case side1 => first | exact HE.out | exact EnvOk.heap HE.out rfl); rintro e w' ⟨rfl, ⟨nd, rfl⟩⟩; have p8 : 0 ≤ (x3_1 : Int) := of_decide_eq_true Zc; have q8 : x3_1 < (a0.size : Int) := of_decide_eq_true Zc; have hx8 := Yya a0 x3_1; replace p8 := eq_true p8; replace q8 := eq_true q8) | (go_at_call 87; (with_reducible refine (Yv.calls (bt a0 x3_1) false _ ?side1 A9.out).mono ?_); (case side1 => first | exact HE.out | exact EnvOk.heap HE.out rfl); rintro e w' ⟨rfl, ⟨nd, rfl⟩⟩; have p11 : 0 ≤ (x3_1 : Int) := of_decide_eq_true Zc; have q11 : x3_1 < (a0.size : Int) := of_decide_eq_true Zc; have hx11 := Yya a0 x3_1; replace p11 := eq_true p11; replace q11 := eq_true q11) | (go_at_call 88; (with_reducible refine (Yga.calls k1 (bt a0 x3_1) (⟨#[43, 45, 46]⟩ : ByteArray) false _ ?side1 A12.out).mono ?_); (case side1 => first | exact HE.out | exact EnvOk.heap HE.out rfl); rintro e w' ⟨rfl, ⟨nd, rfl⟩⟩; have p16 : 0 ≤ (x3_1 : Int) := of_decide_eq_true Zc; have q16 : x3_1 < (a0.size : Int) := of_decide_eq_true Zc; have hx16 := Yya a0 x3_1; replace p16 := eq_true p16; replace q16 := eq_true q16))
   go_ret
   exact ⟨Zf, Zh⟩
def Yni.f (a0_0 : ByteArray) (a0_1 : ByteArray) (a0_2 : Int) (a0_3 : ByteArray) (a0_4 : ByteArray) (a0_5 : ByteArray) (a0_6 : Bool) (a0_7 : Bool) : Option (ByteArray × ByteArray × Int × ByteArray × ByteArray × ByteArray × Bool × Bool) := some (a0_0, a0_1, a0_2, a0_3, a0_4, (⟨#[]⟩ : ByteArray), a0_6, false)
set_option maxHeartbeats 8000000 in
set_option maxRecDepth 100000 in
theorem Yni.calls (a0_0 : ByteArray) (a0_1 : ByteArray) (a0_2 : Int) (a0_3 : ByteArray) (a0_4 : ByteArray) (a0_5 : ByteArray) (a0_6 : Bool) (a0_7 : Bool) (r1 : ByteArray) (r2 : ByteArray) (r3 : Int) (r4 : ByteArray) (r5 : ByteArray) (r6 : ByteArray) (r7 : Bool) (r8 : Bool) (w : World) (hE : EnvOk w) (h : Yni.f a0_0 a0_1 a0_2 a0_3 a0_4 a0_5 a0_6 a0_7 = some (r1, r2, r3, r4, r5, r6, r7, r8)) :
  Calls Tryz.prog 28 #[.agg #[.string a0_0, .string a0_1, .int .i64 a0_2, .string a0_3, .string a0_4, .string a0_5, .bool a0_6, .bool a0_7]] w fun e w' => e = .returned (.agg #[.string r1, .string r2, .int .i64 r3, .string r4, .string r5, .string r6, .bool r7, .bool r8]) ∧ Below w.heap.size w w' := by
 have hu25 := Tryz.underlying25
 have HE := Ya.mk hE
 clear hE
 have HB := Ya.mk (Below.refl w.heap.size w)
 have H : (some (a0_0, a0_1, a0_2, a0_3, a0_4, (⟨#[]⟩ : ByteArray), a0_6, false)) = some (r1, r2, r3, r4, r5, r6, r7, r8) := h
 clear h
 simp only [Option.some.injEq, Prod.mk.injEq] at H
 obtain ⟨rfl, rfl, rfl, rfl, rfl, rfl, rfl, rfl⟩ := H
 go_enter Tryz.func28, Tryz.ntmps28
 go_wp2_with (first | ((with_reducible refine Yuc (N := 1) rfl ?_); refine Yrc ?hg (N := 1) ?hd (cs := #[.string a0_0, .string a0_1, .int .i64 a0_2, .string a0_3, .string a0_4, .string a0_5, .bool a0_6, .bool a0_7]) (t := 25) ?hr ?_; (case hd => rfl); (case hg => rfl); (case hr => first | (go_simp; done) | (go_simp; rfl)); intro gb237 hg w2 hbox hb; have n0_ := Ya.mk (Yq Za hb); have n1_ := Ya.mk (hbox); have n2_ := Ya.mk ((by rw [hg]; exact (Yea Za) : w.heap.size ≤ gb237)); have n3_ := Ya.mk ((by rw [hg]; exact (Yea Za) : w.heap.size ≤ gb237)); clear HB; have HB := n0_; have BK237 := n1_; have GW237 := n2_; have GE237 := n3_; clear n0_ n1_ n2_ n3_; clear hb hbox hg) | ((with_reducible refine Yuc (N := 2) rfl ?_); refine Yrc ?hg (N := 2) ?hd (cs := #[.string (⟨#[]⟩ : ByteArray), .string (⟨#[]⟩ : ByteArray), .int .i64 0, .string (⟨#[]⟩ : ByteArray), .string (⟨#[]⟩ : ByteArray), .string (⟨#[]⟩ : ByteArray), .bool false, .bool false]) (t := 25) ?hr ?_; (case hd => rfl); (case hg => rfl); (case hr => first | (go_simp; done) | (go_simp; rfl)); intro gb238 hg w3 hbox hb; have n0_ := Ya.mk (Ydb (g := gb237) (o := .cells #[.string a0_0, .string a0_1, .int .i64 a0_2, .string a0_3, .string a0_4, .string a0_5, .bool a0_6, .bool a0_7] 25 (0, 0)) Zgb hb); have n1_ := Ya.mk (Yq Zva hb); have n2_ := Ya.mk (hbox); have n3_ := Ya.mk ((by rw [hg]; exact (Yea Zva) : w.heap.size ≤ gb238)); have n4_ := Ya.mk ((by rw [hg]; exact (Yea Zva) : w.heap.size ≤ gb238)); have n5_ := Ya.mk ((by rw [hg]; exact Nat.ne_of_lt (Yje (g := gb237) (o := .cells #[.string a0_0, .string a0_1, .int .i64 a0_2, .string a0_3, .string a0_4, .string a0_5, .bool a0_6, .bool a0_7] 25 (0, 0)) Zgb) : gb237 ≠ gb238)); have n6_ := Ya.mk ((by rw [hg]; exact Nat.ne_of_gt (Yje (g := gb237) (o := .cells #[.string a0_0, .string a0_1, .int .i64 a0_2, .string a0_3, .string a0_4, .string a0_5, .bool a0_6, .bool a0_7] 25 (0, 0)) Zgb) : gb238 ≠ gb237)); clear BK237; clear HB; have BK237 := n0_; have HB := n1_; have BK238 := n2_; have GW238 := n3_; have GE238 := n4_; have NB237_238 := n5_; have NB238_237 := n6_; clear n0_ n1_ n2_ n3_ n4_ n5_ n6_; clear hb hbox hg; have hnb4 := NB237_238.out; have hnc4 := NB238_237.out; have hcz5_0 : w3.cell? ⟨gb237, 0, none⟩ = some (.string a0_0) := (Yf BK237.out 0).trans rfl; have hcz5_1 : w3.cell? ⟨gb237, 1, none⟩ = some (.string a0_1) := (Yf BK237.out 1).trans rfl; have hcz5_2 : w3.cell? ⟨gb237, 2, none⟩ = some (.int .i64 a0_2) := (Yf BK237.out 2).trans rfl; have hcz5_3 : w3.cell? ⟨gb237, 3, none⟩ = some (.string a0_3) := (Yf BK237.out 3).trans rfl; have hcz5_4 : w3.cell? ⟨gb237, 4, none⟩ = some (.string a0_4) := (Yf BK237.out 4).trans rfl; have hcz5_5 : w3.cell? ⟨gb237, 5, none⟩ = some (.string a0_5) := (Yf BK237.out 5).trans rfl; have hcz5_6 : w3.cell? ⟨gb237, 6, none⟩ = some (.bool a0_6) := (Yf BK237.out 6).trans rfl; have hcz5_7 : w3.cell? ⟨gb237, 7, none⟩ = some (.bool a0_7) := (Yf BK237.out 7).trans rfl; have hfz5_0 := Ye BK237.out 0; have hfz5_1 := Ye BK237.out 1; have hfz5_2 := Ye BK237.out 2; have hfz5_3 := Ye BK237.out 3; have hfz5_4 := Ye BK237.out 4; have hfz5_5 := Ye BK237.out 5; have hfz5_6 := Ye BK237.out 6; have hfz5_7 := Ye BK237.out 7; have hcz6_0 : w3.cell? ⟨gb238, 0, none⟩ = some (.string (⟨#[]⟩ : ByteArray)) := (Yf BK238.out 0).trans rfl; have hcz6_1 : w3.cell? ⟨gb238, 1, none⟩ = some (.string (⟨#[]⟩ : ByteArray)) := (Yf BK238.out 1).trans rfl; have hcz6_2 : w3.cell? ⟨gb238, 2, none⟩ = some (.int .i64 0) := (Yf BK238.out 2).trans rfl; have hcz6_3 : w3.cell? ⟨gb238, 3, none⟩ = some (.string (⟨#[]⟩ : ByteArray)) := (Yf BK238.out 3).trans rfl; have hcz6_4 : w3.cell? ⟨gb238, 4, none⟩ = some (.string (⟨#[]⟩ : ByteArray)) := (Yf BK238.out 4).trans rfl; have hcz6_5 : w3.cell? ⟨gb238, 5, none⟩ = some (.string (⟨#[]⟩ : ByteArray)) := (Yf BK238.out 5).trans rfl; have hcz6_6 : w3.cell? ⟨gb238, 6, none⟩ = some (.bool false) := (Yf BK238.out 6).trans rfl; have hcz6_7 : w3.cell? ⟨gb238, 7, none⟩ = some (.bool false) := (Yf BK238.out 7).trans rfl; have hfz6_0 := Ye BK238.out 0; have hfz6_1 := Ye BK238.out 1; have hfz6_2 := Ye BK238.out 2; have hfz6_3 := Ye BK238.out 3; have hfz6_4 := Ye BK238.out 4; have hfz6_5 := Ye BK238.out 5; have hfz6_6 := Ye BK238.out 6; have hfz6_7 := Ye BK238.out 7))
 refine bodyPost_ret (results_cell_row rfl _ _ gb238 25 #[.string a0_0, .string a0_1, .int .i64 a0_2, .string a0_3, .string a0_4, .string (⟨#[]⟩ : ByteArray), .bool a0_6, .bool false] (0, 0) _ rfl (by (with_reducible repeat (first | refine Yl ?_ _ | refine Yp ?_ | refine Ym ?_ _)); refine Yma (cs := #[.string a0_0, .string a0_1, .int .i64 a0_2, .string a0_3, .string a0_4, .string (⟨#[]⟩ : ByteArray), .bool a0_6, .bool false]) ?_ 7 _ rfl; (with_reducible repeat (first | refine Yl ?_ _ | refine Yp ?_ | refine Ym ?_ _)); refine Yma (cs := #[.string a0_0, .string a0_1, .int .i64 a0_2, .string a0_3, .string a0_4, .string (⟨#[]⟩ : ByteArray), .bool false, .bool false]) ?_ 6 _ rfl; (with_reducible repeat (first | refine Yl ?_ _ | refine Yp ?_ | refine Ym ?_ _)); refine Yma (cs := #[.string a0_0, .string a0_1, .int .i64 a0_2, .string a0_3, .string a0_4, .string (⟨#[]⟩ : ByteArray), .bool false, .bool false]) ?_ 5 _ rfl; (with_reducible repeat (first | refine Yl ?_ _ | refine Yp ?_ | refine Ym ?_ _)); refine Yma (cs := #[.string a0_0, .string a0_1, .int .i64 a0_2, .string a0_3, .string (⟨#[]⟩ : ByteArray), .string (⟨#[]⟩ : ByteArray), .bool false, .bool false]) ?_ 4 _ rfl; (with_reducible repeat (first | refine Yl ?_ _ | refine Yp ?_ | refine Ym ?_ _)); refine Yma (cs := #[.string a0_0, .string a0_1, .int .i64 a0_2, .string (⟨#[]⟩ : ByteArray), .string (⟨#[]⟩ : ByteArray), .string (⟨#[]⟩ : ByteArray), .bool false, .bool false]) ?_ 3 _ rfl; (with_reducible repeat (first | refine Yl ?_ _ | refine Yp ?_ | refine Ym ?_ _)); refine Yma (cs := #[.string a0_0, .string a0_1, .int .i64 0, .string (⟨#[]⟩ : ByteArray), .string (⟨#[]⟩ : ByteArray), .string (⟨#[]⟩ : ByteArray), .bool false, .bool false]) ?_ 2 _ rfl; (with_reducible repeat (first | refine Yl ?_ _ | refine Yp ?_ | refine Ym ?_ _)); refine Yma (cs := #[.string a0_0, .string (⟨#[]⟩ : ByteArray), .int .i64 0, .string (⟨#[]⟩ : ByteArray), .string (⟨#[]⟩ : ByteArray), .string (⟨#[]⟩ : ByteArray), .bool false, .bool false]) ?_ 1 _ rfl; (with_reducible repeat (first | refine Yl ?_ _ | refine Yp ?_ | refine Ym ?_ _)); refine Yma (cs := #[.string (⟨#[]⟩ : ByteArray), .string (⟨#[]⟩ : ByteArray), .int .i64 0, .string (⟨#[]⟩ : ByteArray), .string (⟨#[]⟩ : ByteArray), .string (⟨#[]⟩ : ByteArray), .bool false, .bool false]) ?_ 0 _ rfl; (with_reducible repeat (first | refine Yl ?_ _ | refine Yp ?_ | refine Ym ?_ _)); refine Yvb ?_ NB238_237.out _; (with_reducible repeat (first | refine Yl ?_ _ | refine Yp ?_ | refine Ym ?_ _)); refine Yvb ?_ NB238_237.out _; (with_reducible repeat (first | refine Yl ?_ _ | refine Yp ?_ | refine Ym ?_ _)); exact BK238.out) Tryz.underlying25 rfl Zi) rfl ?_
 exact ⟨Zk, by repeat (first | (with_reducible first | exact HB.out | apply Yd | apply Yb | apply Yc | refine Yg ?_ GE237.out | refine Yg ?_ GE238.out) | exact HB.out)⟩
def Ygb.f (a0 : ByteArray) : Option (Bool) := some (decide ((a0.size : Int) > 2200))
set_option maxHeartbeats 8000000 in
set_option maxRecDepth 100000 in
theorem Ygb.calls (a0 : ByteArray) (r : Bool) (w : World) (hE : EnvOk w) (h : Ygb.f a0 = some r) :
  Calls Tryz.prog 31 #[.string a0] w fun e w' => e = .returned (.bool r) ∧ Drawn0 w w' := by
 have HE := Ya.mk hE
 clear hE
 have H : (some (decide ((a0.size : Int) > 2200))) = some r := h
 clear h
 obtain rfl := Option.some.inj H
 go_enter Tryz.func31, Tryz.ntmps31
 go_wp2
 go_ret
 exact ⟨Zf, Zh⟩
def Yia.f (k : Nat) (a0_0 : ByteArray) (a0_1 : ByteArray) (a0_2 : Int) (a0_3 : ByteArray) (a0_4 : ByteArray) (a0_5 : ByteArray) (a0_6 : Bool) (a0_7 : Bool) : Option (Bool) := (Ygb.f a0_0).bind fun t240 => (if t240 = true then (some true) else ((Yca.f k a0_0 a0_1 a0_2 a0_3 a0_4 a0_5 a0_6 a0_7).bind fun t241 => ((Ygb.f t241).bind fun t242 => (some t242))))
set_option maxHeartbeats 8000000 in
set_option maxRecDepth 100000 in
theorem Yia.calls (k : Nat) (a0_0 : ByteArray) (a0_1 : ByteArray) (a0_2 : Int) (a0_3 : ByteArray) (a0_4 : ByteArray) (a0_5 : ByteArray) (a0_6 : Bool) (a0_7 : Bool) (r : Bool) (w : World) (hE : EnvOk w) (h : Yia.f k a0_0 a0_1 a0_2 a0_3 a0_4 a0_5 a0_6 a0_7 = some r) :
  Calls Tryz.prog 30 #[.agg #[.string a0_0, .string a0_1, .int .i64 a0_2, .string a0_3, .string a0_4, .string a0_5, .bool a0_6, .bool a0_7]] w fun e w' => e = .returned (.bool r) ∧ Below w.heap.size w w' := by
 have hu25 := Tryz.underlying25
 have HE := Ya.mk hE
 clear hE
 have HB := Ya.mk (Below.refl w.heap.size w)
 have H : ((Ygb.f a0_0).bind fun t240 => (if t240 = true then (some true) else ((Yca.f k a0_0 a0_1 a0_2 a0_3 a0_4 a0_5 a0_6 a0_7).bind fun t241 => ((Ygb.f t241).bind fun t242 => (some t242))))) = some r := h
 clear h
 replace H := Option.bind_eq_some_iff.mp H
 obtain ⟨t240, A20, H⟩ := H
 try dsimp -simprocs only at H
 have A2 := Ya.mk A20
 clear A20
 by_cases c3 : t240 = true
 ·subst c3
  rw [if_pos rfl] at H
  obtain rfl := Option.some.inj H
  go_enter Tryz.func30, Tryz.ntmps30
  go_wp2_with (first | ((with_reducible refine Yuc (N := 1) rfl ?_); refine Yrc ?hg (N := 1) ?hd (cs := #[.string a0_0, .string a0_1, .int .i64 a0_2, .string a0_3, .string a0_4, .string a0_5, .bool a0_6, .bool a0_7]) (t := 25) ?hr ?_; (case hd => rfl); (case hg => rfl); (case hr => first | (go_simp; done) | (go_simp; rfl)); intro gb239 hg w4 hbox hb; have n0_ := Ya.mk (Yq Za hb); have n1_ := Ya.mk (hbox); have n2_ := Ya.mk ((by rw [hg]; exact (Yea Za) : w.heap.size ≤ gb239)); have n3_ := Ya.mk ((by rw [hg]; exact (Yea Za) : w.heap.size ≤ gb239)); clear HB; have HB := n0_; have BK239 := n1_; have GW239 := n2_; have GE239 := n3_; clear n0_ n1_ n2_ n3_; clear hb hbox hg; have hcz5_0 : w4.cell? ⟨gb239, 0, none⟩ = some (.string a0_0) := (Yf BK239.out 0).trans rfl; have hcz5_1 : w4.cell? ⟨gb239, 1, none⟩ = some (.string a0_1) := (Yf BK239.out 1).trans rfl; have hcz5_2 : w4.cell? ⟨gb239, 2, none⟩ = some (.int .i64 a0_2) := (Yf BK239.out 2).trans rfl; have hcz5_3 : w4.cell? ⟨gb239, 3, none⟩ = some (.string a0_3) := (Yf BK239.out 3).trans rfl; have hcz5_4 : w4.cell? ⟨gb239, 4, none⟩ = some (.string a0_4) := (Yf BK239.out 4).trans rfl; have hcz5_5 : w4.cell? ⟨gb239, 5, none⟩ = some (.string a0_5) := (Yf BK239.out 5).trans rfl; have hcz5_6 : w4.cell? ⟨gb239, 6, none⟩ = some (.bool a0_6) := (Yf BK239.out 6).trans rfl; have hcz5_7 : w4.cell? ⟨gb239, 7, none⟩ = some (.bool a0_7) := (Yf BK239.out 7).trans rfl; have hfz5_0 := Ye BK239.out 0; have hfz5_1 := Ye BK239.out 1; have hfz5_2 := Ye BK239.out 2; have hfz5_3 := Ye BK239.out 3; have hfz5_4 := Ye BK239.out 4; have hfz5_5 := Ye BK239.out 5; have hfz5_6 := Ye BK239.out 6; have hfz5_7 := Ye BK239.out 7) | ((with_reducible refine Yh (f := 31) rfl ?_); refine Yz (some 5) rfl rfl Tryz.func31 Zi rfl #[.string a0_0] rfl Zb ?_; (with_reducible refine (Ygb.calls a0_0 true _ ?side1 A2.out).mono ?_); (case side1 => first | exact HE.out | exact EnvOk.below HE.out Zz); rintro e w' ⟨rfl, ⟨nd, rfl⟩⟩; refine ⟨_, rfl, ?_⟩))
  go_ret
  exact ⟨Zk, Zz⟩
 replace c3 := Bool.eq_false_iff.mpr c3
 subst c3
 rw [if_neg (show ¬ (false = true) by decide)] at H
 replace H := Option.bind_eq_some_iff.mp H
 obtain ⟨t241, A60, H⟩ := H
 try dsimp -simprocs only at H
 have A6 := Ya.mk A60
 clear A60
 replace H := Option.bind_eq_some_iff.mp H
 obtain ⟨t242, A70, H⟩ := H
 try dsimp -simprocs only at H
 have A7 := Ya.mk A70
 clear A70
 obtain rfl := Option.some.inj H
 go_enter Tryz.func30, Tryz.ntmps30
 go_wp2_with (first | ((with_reducible refine Yuc (N := 1) rfl ?_); refine Yrc ?hg (N := 1) ?hd (cs := #[.string a0_0, .string a0_1, .int .i64 a0_2, .string a0_3, .string a0_4, .string a0_5, .bool a0_6, .bool a0_7]) (t := 25) ?hr ?_; (case hd => rfl); (case hg => rfl); (case hr => first | (go_simp; done) | (go_simp; rfl)); intro gb239 hg w8 hbox hb; have n0_ := Ya.mk (Yq Za hb); have n1_ := Ya.mk (hbox); have n2_ := Ya.mk ((by rw [hg]; exact (Yea Za) : w.heap.size ≤ gb239)); have n3_ := Ya.mk ((by rw [hg]; exact (Yea Za) : w.heap.size ≤ gb239)); clear HB; have HB := n0_; have BK239 := n1_; have GW239 := n2_; have GE239 := n3_; clear n0_ n1_ n2_ n3_; clear hb hbox hg; have hcz9_0 : w8.cell? ⟨gb239, 0, none⟩ = some (.string a0_0) := (Yf BK239.out 0).trans rfl; have hcz9_1 : w8.cell? ⟨gb239, 1, none⟩ = some (.string a0_1) := (Yf BK239.out 1).trans rfl; have hcz9_2 : w8.cell? ⟨gb239, 2, none⟩ = some (.int .i64 a0_2) := (Yf BK239.out 2).trans rfl; have hcz9_3 : w8.cell? ⟨gb239, 3, none⟩ = some (.string a0_3) := (Yf BK239.out 3).trans rfl; have hcz9_4 : w8.cell? ⟨gb239, 4, none⟩ = some (.string a0_4) := (Yf BK239.out 4).trans rfl; have hcz9_5 : w8.cell? ⟨gb239, 5, none⟩ = some (.string a0_5) := (Yf BK239.out 5).trans rfl; have hcz9_6 : w8.cell? ⟨gb239, 6, none⟩ = some (.bool a0_6) := (Yf BK239.out 6).trans rfl; have hcz9_7 : w8.cell? ⟨gb239, 7, none⟩ = some (.bool a0_7) := (Yf BK239.out 7).trans rfl; have hfz9_0 := Ye BK239.out 0; have hfz9_1 := Ye BK239.out 1; have hfz9_2 := Ye BK239.out 2; have hfz9_3 := Ye BK239.out 3; have hfz9_4 := Ye BK239.out 4; have hfz9_5 := Ye BK239.out 5; have hfz9_6 := Ye BK239.out 6; have hfz9_7 := Ye BK239.out 7) | ((with_reducible refine Yh (f := 31) rfl ?_); refine Yz (some 5) rfl rfl Tryz.func31 Zi rfl #[.string a0_0] rfl Zb ?_; (with_reducible refine (Ygb.calls a0_0 false _ ?side1 A2.out).mono ?_); (case side1 => first | exact HE.out | exact EnvOk.below HE.out Zz); rintro e w' ⟨rfl, ⟨nd, rfl⟩⟩; refine ⟨_, rfl, ?_⟩) | (go_at_call 25; (with_reducible refine (Yca.calls k a0_0 a0_1 a0_2 a0_3 a0_4 a0_5 a0_6 a0_7 t241 _ ?side1 A6.out).mono ?_); (case side1 => first | exact HE.out | exact EnvOk.below HE.out Zz); rintro e w10 ⟨rfl, hb⟩; have n0_ := Ya.mk (Ydb (g := gb239) (o := .cells #[.string a0_0, .string a0_1, .int .i64 a0_2, .string a0_3, .string a0_4, .string a0_5, .bool a0_6, .bool a0_7] 25 (0, 0)) (by (with_reducible repeat (first | refine Yl ?_ _ | refine Yp ?_ | refine Ym ?_ _)); exact BK239.out) hb); have n1_ := Ya.mk (Yq Zz hb); clear BK239; clear HB; have BK239 := n0_; have HB := n1_; clear n0_ n1_; (try clear hb); (try clear hb2); (try clear hk); (try clear hi)) | (go_at_call 31; (with_reducible refine (Ygb.calls t241 t242 _ ?side1 A7.out).mono ?_); (case side1 => first | exact HE.out | exact EnvOk.below HE.out Zz); rintro e w' ⟨rfl, ⟨nd, rfl⟩⟩))
 go_ret
 exact ⟨Zk, Zz⟩
end Go.Proofs.YtnmglnglbdpjjaaGreatDoor.X
