/- Printed by a program of ours: functions as plain Lean, and what a call of each does. -/
import Derived.Test.YtnmglnglbdpjjaaGreatDoorUjWords
import Derived.Test.YtnmglnglbdpjjaaGreatDoorUjX0
import Derived.Test.YtnmglnglbdpjjaaGreatDoorUjX2
namespace Go.Proofs.YtnmglnglbdpjjaaGreatDoor.X
open Go.RowKit Go.Yw.PrintWords Go.Yw.PrintLast Go.Yw.PrintMore
attribute [local go_sem] Yvd Yyd Yke Yme Yld Ykd Yud Ywd
set_option linter.unusedVariables false
set_option linter.unusedSimpArgs false
def Ygd.f (k : Nat) (a0_0 : ByteArray) (a0_1 : ByteArray) (a0_2 : Int) (a0_3 : ByteArray) (a0_4 : ByteArray) (a0_5 : ByteArray) (a0_6 : Bool) (a0_7 : Bool) : Option (ByteArray) := (Yze.f k a0_0 a0_1 a0_2 a0_3 a0_4 a0_5 a0_6 a0_7).bind fun t120 => (if t120.size + a0_3.size ≤ 9223372036854775807 then (if a0_6 = true then (if 1 + a0_4.size ≤ 9223372036854775807 then (if (t120 ++ a0_3).size + ((⟨#[63]⟩ : ByteArray) ++ a0_4).size ≤ 9223372036854775807 then (if a0_7 = true then (if 1 + a0_5.size ≤ 9223372036854775807 then (if ((t120 ++ a0_3) ++ ((⟨#[63]⟩ : ByteArray) ++ a0_4)).size + ((⟨#[35]⟩ : ByteArray) ++ a0_5).size ≤ 9223372036854775807 then (some (((t120 ++ a0_3) ++ ((⟨#[63]⟩ : ByteArray) ++ a0_4)) ++ ((⟨#[35]⟩ : ByteArray) ++ a0_5))) else (none)) else (none)) else (some ((t120 ++ a0_3) ++ ((⟨#[63]⟩ : ByteArray) ++ a0_4)))) else (none)) else (none)) else (if a0_7 = true then (if 1 + a0_5.size ≤ 9223372036854775807 then (if (t120 ++ a0_3).size + ((⟨#[35]⟩ : ByteArray) ++ a0_5).size ≤ 9223372036854775807 then (some ((t120 ++ a0_3) ++ ((⟨#[35]⟩ : ByteArray) ++ a0_5))) else (none)) else (none)) else (some (t120 ++ a0_3)))) else (none))
set_option maxHeartbeats 8000000 in
set_option maxRecDepth 100000 in
theorem Ygd.calls (k : Nat) (a0_0 : ByteArray) (a0_1 : ByteArray) (a0_2 : Int) (a0_3 : ByteArray) (a0_4 : ByteArray) (a0_5 : ByteArray) (a0_6 : Bool) (a0_7 : Bool) (r : ByteArray) (w : World) (hE : EnvOk w) (h : Ygd.f k a0_0 a0_1 a0_2 a0_3 a0_4 a0_5 a0_6 a0_7 = some r) :
  Calls Tryz.prog 26 #[.agg #[.string a0_0, .string a0_1, .int .i64 a0_2, .string a0_3, .string a0_4, .string a0_5, .bool a0_6, .bool a0_7]] w fun e w' => e = .returned (.string r) ∧ Below w.heap.size w w' := by
 have hu25 := Tryz.underlying25
 have HE := Ya.mk hE
 clear hE
 have HB := Ya.mk (Below.refl w.heap.size w)
 have H : ((Yze.f k a0_0 a0_1 a0_2 a0_3 a0_4 a0_5 a0_6 a0_7).bind fun t120 => (if t120.size + a0_3.size ≤ 9223372036854775807 then (if a0_6 = true then (if 1 + a0_4.size ≤ 9223372036854775807 then (if (t120 ++ a0_3).size + ((⟨#[63]⟩ : ByteArray) ++ a0_4).size ≤ 9223372036854775807 then (if a0_7 = true then (if 1 + a0_5.size ≤ 9223372036854775807 then (if ((t120 ++ a0_3) ++ ((⟨#[63]⟩ : ByteArray) ++ a0_4)).size + ((⟨#[35]⟩ : ByteArray) ++ a0_5).size ≤ 9223372036854775807 then (some (((t120 ++ a0_3) ++ ((⟨#[63]⟩ : ByteArray) ++ a0_4)) ++ ((⟨#[35]⟩ : ByteArray) ++ a0_5))) else (none)) else (none)) else (some ((t120 ++ a0_3) ++ ((⟨#[63]⟩ : ByteArray) ++ a0_4)))) else (none)) else (none)) else (if a0_7 = true then (if 1 + a0_5.size ≤ 9223372036854775807 then (if (t120 ++ a0_3).size + ((⟨#[35]⟩ : ByteArray) ++ a0_5).size ≤ 9223372036854775807 then (some ((t120 ++ a0_3) ++ ((⟨#[35]⟩ : ByteArray) ++ a0_5))) else (none)) else (none)) else (some (t120 ++ a0_3)))) else (none))) = some r := h
 clear h
 replace H := Option.bind_eq_some_iff.mp H
 obtain ⟨t120, A20, H⟩ := H
 try dsimp -simprocs only at H
 have A2 := Ya.mk A20
 clear A20
 by_cases c3 : t120.size + a0_3.size ≤ 9223372036854775807
 rotate_left
 ·rw [if_neg c3] at H
  exact absurd H Zv
 rw [if_pos c3] at H
 have c3b0 := eq_true c3
 have c3b1 : decide (t120.size + a0_3.size ≤ 9223372036854775807) = true := decide_eq_true c3
 try have c3b2 : (9223372036854775807 < t120.size + a0_3.size) = False := eq_false (Nat.not_lt.2 c3)
 by_cases c4 : a0_6 = true
 rotate_left
 ·replace c4 := Bool.eq_false_iff.mpr c4
  subst c4
  rw [if_neg (show ¬ (false = true) by decide)] at H
  by_cases c18 : a0_7 = true
  rotate_left
  ·replace c18 := Bool.eq_false_iff.mpr c18
   subst c18
   rw [if_neg (show ¬ (false = true) by decide)] at H
   obtain rfl := Option.some.inj H
   go_enter Tryz.func26, Tryz.ntmps26
   try go_wp2_with (first | ((with_reducible refine Yuc (N := 1) rfl ?_); refine Yrc ?hg (N := 1) ?hd (cs := #[.string a0_0, .string a0_1, .int .i64 a0_2, .string a0_3, .string a0_4, .string a0_5, .bool false, .bool false]) (t := 25) ?hr ?_; (case hd => rfl); (case hg => rfl); (case hr => first | (go_simp; done) | (go_simp; rfl)); intro gb119 hg w25 hbox hb; have n0_ := Ya.mk (Yq Za hb); have n1_ := Ya.mk (hbox); have n2_ := Ya.mk ((by rw [hg]; exact (Yea Za) : w.heap.size ≤ gb119)); have n3_ := Ya.mk ((by rw [hg]; exact (Yea Za) : w.heap.size ≤ gb119)); clear HB; have HB := n0_; have BK119 := n1_; have GW119 := n2_; have GE119 := n3_; clear n0_ n1_ n2_ n3_; clear hb hbox hg))
   have n0_ := Ya.mk (Yp BK119.out)
   have n1_ := Ya.mk (Yc HB.out)
   clear BK119
   clear HB
   have BK119 := n0_
   have HB := n1_
   clear n0_ n1_
   refine Ylh (n := 6) (S := fun w' => w'.cell? ⟨gb119, 0, none⟩ = some (.string a0_0) ∧ w'.cell? ⟨gb119, 1, none⟩ = some (.string a0_1) ∧ w'.cell? ⟨gb119, 2, none⟩ = some (.int .i64 a0_2) ∧ w'.cell? ⟨gb119, 3, none⟩ = some (.string a0_3) ∧ w'.cell? ⟨gb119, 4, none⟩ = some (.string a0_4) ∧ w'.cell? ⟨gb119, 5, none⟩ = some (.string a0_5) ∧ w'.cell? ⟨gb119, 6, none⟩ = some (.bool false) ∧ w'.cell? ⟨gb119, 7, none⟩ = some (.bool false)) (ds := []) #[false, false, false, false, false, false] Zi rfl rfl ⟨(Yf BK119.out 0).trans rfl, (Yf BK119.out 1).trans rfl, (Yf BK119.out 2).trans rfl, (Yf BK119.out 3).trans rfl, (Yf BK119.out 4).trans rfl, (Yf BK119.out 5).trans rfl, (Yf BK119.out 6).trans rfl, (Yf BK119.out 7).trans rfl⟩ (fun hHeld => ?_)
   generalize w25.drew = w26 at BK119 HB hHeld ⊢
   refine Yrb (i := 2) (N := some 6) (v := ?_) (a' := ?_) #[false, false, true, false, false, false] rfl rfl Zi (fun _ _ _ h => h) (Or.inl ⟨Zla, ?_⟩) ?_ ?_
   rotate_left
   ·intro w'
    go_simp
    with_reducible rfl
   rotate_left
   ·simp only [Act.put, List.setIfInBounds_toArray, List.set_cons_zero, List.set_cons_succ, Yqa, Yra]
    rfl
   refine Ymg (i := 0) (N := some 4) (v := ?_) (a' := ?_) #[true, false, true, false, false, false] rfl rfl Zi (fun _ _ _ h => h) (Or.inl ⟨Zla, ?_⟩) hHeld ?_ ?_
   rotate_left
   ·rintro w' ⟨s0, s1, s2, s3, s4, s5, s6, s7⟩
    go_simp
    with_reducible rfl
   rotate_left
   ·simp only [Act.put, List.setIfInBounds_toArray, List.set_cons_zero, List.set_cons_succ, Yqa, Yra]
    rfl
   refine Ymg (i := 3) (N := some 7) (v := ?_) (a' := ?_) #[true, false, true, true, false, false] rfl rfl Zi (fun _ _ _ h => h) (Or.inl ⟨Zla, ?_⟩) hHeld ?_ ?_
   rotate_left
   ·rintro w' ⟨s0, s1, s2, s3, s4, s5, s6, s7⟩
    go_simp
    with_reducible rfl
   rotate_left
   ·simp only [Act.put, List.setIfInBounds_toArray, List.set_cons_zero, List.set_cons_succ, Yqa, Yra]
    rfl
   refine one_ (i := 1) (N := some 5) #[true, true, true, true, false, false] rfl rfl Zi Zda (fun K hK => ?_)
   refine Yvh Tryz.func29 Zi rfl #[.agg #[.string a0_0, .string a0_1, .int .i64 a0_2, .string a0_3, .string a0_4, .string a0_5, .bool false, .bool false]] Zla rfl rfl Zb ?_
   with_reducible refine (Yze.calls k a0_0 a0_1 a0_2 a0_3 a0_4 a0_5 false false t120 _ ?side1 A2.out).mono ?_
   (case side1 => first | exact HE.out | exact EnvOk.below HE.out Zs)
   rintro e w27 ⟨rfl, hb⟩
   refine ⟨_, rfl, ?_⟩
   have n0_ := Ya.mk (Ydb (g := gb119) (o := .cells #[.string a0_0, .string a0_1, .int .i64 a0_2, .string a0_3, .string a0_4, .string a0_5, .bool false, .bool false] 25 (0, 0)) Zsa hb)
   have n1_ := Ya.mk (Yq Zs hb)
   clear BK119
   clear HB
   have BK119 := n0_
   have HB := n1_
   clear n0_ n1_
   (try clear hb)
   (try clear hb2)
   (try clear hk)
   (try clear hi)
   refine hK.out _ _ ⟨(Yf BK119.out 0).trans rfl, (Yf BK119.out 1).trans rfl, (Yf BK119.out 2).trans rfl, (Yf BK119.out 3).trans rfl, (Yf BK119.out 4).trans rfl, (Yf BK119.out 5).trans rfl, (Yf BK119.out 6).trans rfl, (Yf BK119.out 7).trans rfl⟩ (fun hHeld => ?_)
   clear hK K
   refine Ywf (a' := ?_) ?_ ?_
   rotate_left
   ·show Act.put _ (some 5) _ = _
    simp only [Act.put, List.setIfInBounds_toArray, List.set_cons_zero, List.set_cons_succ, Yqa, Yra]
    rfl
   refine Yrb (i := 4) (N := some 8) (v := ?_) (a' := ?_) #[true, true, true, true, true, false] rfl rfl Zi (fun _ _ _ h => h) (Or.inl ⟨Zla, ?_⟩) ?_ ?_
   rotate_left
   ·intro w'
    go_simp
    with_reducible rfl
   rotate_left
   ·simp only [Act.put, List.setIfInBounds_toArray, List.set_cons_zero, List.set_cons_succ, Yqa, Yra]
    rfl
   refine Yrb (i := 5) (N := some 3) (v := ?_) (a' := ?_) #[true, true, true, true, true, true] rfl rfl Zi (fun _ _ _ h => h) (Or.inl ⟨Zla, ?_⟩) ?_ ?_
   rotate_left
   ·intro w'
    go_simp
    with_reducible rfl
   rotate_left
   ·simp only [Act.put, List.setIfInBounds_toArray, List.set_cons_zero, List.set_cons_succ, Yqa, Yra]
    rfl
   refine Yqi Zi ?_
   have hcz28_0 : w27.cell? ⟨gb119, 0, none⟩ = some (.string a0_0) := (Yf BK119.out 0).trans rfl
   have hcz28_1 : w27.cell? ⟨gb119, 1, none⟩ = some (.string a0_1) := (Yf BK119.out 1).trans rfl
   have hcz28_2 : w27.cell? ⟨gb119, 2, none⟩ = some (.int .i64 a0_2) := (Yf BK119.out 2).trans rfl
   have hcz28_3 : w27.cell? ⟨gb119, 3, none⟩ = some (.string a0_3) := (Yf BK119.out 3).trans rfl
   have hcz28_4 : w27.cell? ⟨gb119, 4, none⟩ = some (.string a0_4) := (Yf BK119.out 4).trans rfl
   have hcz28_5 : w27.cell? ⟨gb119, 5, none⟩ = some (.string a0_5) := (Yf BK119.out 5).trans rfl
   have hcz28_6 : w27.cell? ⟨gb119, 6, none⟩ = some (.bool false) := (Yf BK119.out 6).trans rfl
   have hcz28_7 : w27.cell? ⟨gb119, 7, none⟩ = some (.bool false) := (Yf BK119.out 7).trans rfl
   have hfz28_0 := Ye BK119.out 0
   have hfz28_1 := Ye BK119.out 1
   have hfz28_2 := Ye BK119.out 2
   have hfz28_3 := Ye BK119.out 3
   have hfz28_4 := Ye BK119.out 4
   have hfz28_5 := Ye BK119.out 5
   have hfz28_6 := Ye BK119.out 6
   have hfz28_7 := Ye BK119.out 7
   try go_wp2
   go_ret
   exact ⟨Zk, Zs⟩
  subst c18
  rw [if_pos rfl] at H
  by_cases c19 : 1 + a0_5.size ≤ 9223372036854775807
  rotate_left
  ·rw [if_neg c19] at H
   exact absurd H Zv
  rw [if_pos c19] at H
  have c19b0 := eq_true c19
  have c19b1 : decide (1 + a0_5.size ≤ 9223372036854775807) = true := decide_eq_true c19
  try have c19b2 : (9223372036854775807 < 1 + a0_5.size) = False := eq_false (Nat.not_lt.2 c19)
  by_cases c20 : (t120 ++ a0_3).size + ((⟨#[35]⟩ : ByteArray) ++ a0_5).size ≤ 9223372036854775807
  rotate_left
  ·rw [if_neg c20] at H
   exact absurd H Zv
  rw [if_pos c20] at H
  have c20b0 := eq_true c20
  have c20b1 : decide ((t120 ++ a0_3).size + ((⟨#[35]⟩ : ByteArray) ++ a0_5).size ≤ 9223372036854775807) = true := decide_eq_true c20
  try have c20b2 : (9223372036854775807 < (t120 ++ a0_3).size + ((⟨#[35]⟩ : ByteArray) ++ a0_5).size) = False := eq_false (Nat.not_lt.2 c20)
  obtain rfl := Option.some.inj H
  go_enter Tryz.func26, Tryz.ntmps26
  try go_wp2_with (first | ((with_reducible refine Yuc (N := 1) rfl ?_); refine Yrc ?hg (N := 1) ?hd (cs := #[.string a0_0, .string a0_1, .int .i64 a0_2, .string a0_3, .string a0_4, .string a0_5, .bool false, .bool true]) (t := 25) ?hr ?_; (case hd => rfl); (case hg => rfl); (case hr => first | (go_simp; done) | (go_simp; rfl)); intro gb119 hg w21 hbox hb; have n0_ := Ya.mk (Yq Za hb); have n1_ := Ya.mk (hbox); have n2_ := Ya.mk ((by rw [hg]; exact (Yea Za) : w.heap.size ≤ gb119)); have n3_ := Ya.mk ((by rw [hg]; exact (Yea Za) : w.heap.size ≤ gb119)); clear HB; have HB := n0_; have BK119 := n1_; have GW119 := n2_; have GE119 := n3_; clear n0_ n1_ n2_ n3_; clear hb hbox hg))
  have n0_ := Ya.mk (Yp BK119.out)
  have n1_ := Ya.mk (Yc HB.out)
  clear BK119
  clear HB
  have BK119 := n0_
  have HB := n1_
  clear n0_ n1_
  refine Ylh (n := 6) (S := fun w' => w'.cell? ⟨gb119, 0, none⟩ = some (.string a0_0) ∧ w'.cell? ⟨gb119, 1, none⟩ = some (.string a0_1) ∧ w'.cell? ⟨gb119, 2, none⟩ = some (.int .i64 a0_2) ∧ w'.cell? ⟨gb119, 3, none⟩ = some (.string a0_3) ∧ w'.cell? ⟨gb119, 4, none⟩ = some (.string a0_4) ∧ w'.cell? ⟨gb119, 5, none⟩ = some (.string a0_5) ∧ w'.cell? ⟨gb119, 6, none⟩ = some (.bool false) ∧ w'.cell? ⟨gb119, 7, none⟩ = some (.bool true)) (ds := []) #[false, false, false, false, false, false] Zi rfl rfl ⟨(Yf BK119.out 0).trans rfl, (Yf BK119.out 1).trans rfl, (Yf BK119.out 2).trans rfl, (Yf BK119.out 3).trans rfl, (Yf BK119.out 4).trans rfl, (Yf BK119.out 5).trans rfl, (Yf BK119.out 6).trans rfl, (Yf BK119.out 7).trans rfl⟩ (fun hHeld => ?_)
  generalize w21.drew = w22 at BK119 HB hHeld ⊢
  refine Yrb (i := 2) (N := some 6) (v := ?_) (a' := ?_) #[false, false, true, false, false, false] rfl rfl Zi (fun _ _ _ h => h) (Or.inl ⟨Zla, ?_⟩) ?_ ?_
  rotate_left
  ·intro w'
   go_simp
   with_reducible rfl
  rotate_left
  ·simp only [Act.put, List.setIfInBounds_toArray, List.set_cons_zero, List.set_cons_succ, Yqa, Yra]
   rfl
  refine Ymg (i := 0) (N := some 4) (v := ?_) (a' := ?_) #[true, false, true, false, false, false] rfl rfl Zi (fun _ _ _ h => h) (Or.inl ⟨Zla, ?_⟩) hHeld ?_ ?_
  rotate_left
  ·rintro w' ⟨s0, s1, s2, s3, s4, s5, s6, s7⟩
   go_simp
   with_reducible rfl
  rotate_left
  ·simp only [Act.put, List.setIfInBounds_toArray, List.set_cons_zero, List.set_cons_succ, Yqa, Yra]
   rfl
  refine Ymg (i := 3) (N := some 7) (v := ?_) (a' := ?_) #[true, false, true, true, false, false] rfl rfl Zi (fun _ _ _ h => h) (Or.inl ⟨Zla, ?_⟩) hHeld ?_ ?_
  rotate_left
  ·rintro w' ⟨s0, s1, s2, s3, s4, s5, s6, s7⟩
   go_simp
   with_reducible rfl
  rotate_left
  ·simp only [Act.put, List.setIfInBounds_toArray, List.set_cons_zero, List.set_cons_succ, Yqa, Yra]
   rfl
  refine one_ (i := 1) (N := some 5) #[true, true, true, true, false, false] rfl rfl Zi Zda (fun K hK => ?_)
  refine Yvh Tryz.func29 Zi rfl #[.agg #[.string a0_0, .string a0_1, .int .i64 a0_2, .string a0_3, .string a0_4, .string a0_5, .bool false, .bool true]] Zla rfl rfl Zb ?_
  with_reducible refine (Yze.calls k a0_0 a0_1 a0_2 a0_3 a0_4 a0_5 false true t120 _ ?side1 A2.out).mono ?_
  (case side1 => first | exact HE.out | exact EnvOk.below HE.out Zs)
  rintro e w23 ⟨rfl, hb⟩
  refine ⟨_, rfl, ?_⟩
  have n0_ := Ya.mk (Ydb (g := gb119) (o := .cells #[.string a0_0, .string a0_1, .int .i64 a0_2, .string a0_3, .string a0_4, .string a0_5, .bool false, .bool true] 25 (0, 0)) Zsa hb)
  have n1_ := Ya.mk (Yq Zs hb)
  clear BK119
  clear HB
  have BK119 := n0_
  have HB := n1_
  clear n0_ n1_
  (try clear hb)
  (try clear hb2)
  (try clear hk)
  (try clear hi)
  refine hK.out _ _ ⟨(Yf BK119.out 0).trans rfl, (Yf BK119.out 1).trans rfl, (Yf BK119.out 2).trans rfl, (Yf BK119.out 3).trans rfl, (Yf BK119.out 4).trans rfl, (Yf BK119.out 5).trans rfl, (Yf BK119.out 6).trans rfl, (Yf BK119.out 7).trans rfl⟩ (fun hHeld => ?_)
  clear hK K
  refine Ywf (a' := ?_) ?_ ?_
  rotate_left
  ·show Act.put _ (some 5) _ = _
   simp only [Act.put, List.setIfInBounds_toArray, List.set_cons_zero, List.set_cons_succ, Yqa, Yra]
   rfl
  refine Yrb (i := 4) (N := some 8) (v := ?_) (a' := ?_) #[true, true, true, true, true, false] rfl rfl Zi (fun _ _ _ h => h) (Or.inl ⟨Zla, ?_⟩) ?_ ?_
  rotate_left
  ·intro w'
   go_simp
   with_reducible rfl
  rotate_left
  ·simp only [Act.put, List.setIfInBounds_toArray, List.set_cons_zero, List.set_cons_succ, Yqa, Yra]
   rfl
  refine Yrb (i := 5) (N := some 3) (v := ?_) (a' := ?_) #[true, true, true, true, true, true] rfl rfl Zi (fun _ _ _ h => h) (Or.inl ⟨Zla, ?_⟩) ?_ ?_
  rotate_left
  ·intro w'
   go_simp
   with_reducible rfl
  rotate_left
  ·simp only [Act.put, List.setIfInBounds_toArray, List.set_cons_zero, List.set_cons_succ, Yqa, Yra]
   rfl
  refine Yqi Zi ?_
  have hcz24_0 : w23.cell? ⟨gb119, 0, none⟩ = some (.string a0_0) := (Yf BK119.out 0).trans rfl
  have hcz24_1 : w23.cell? ⟨gb119, 1, none⟩ = some (.string a0_1) := (Yf BK119.out 1).trans rfl
  have hcz24_2 : w23.cell? ⟨gb119, 2, none⟩ = some (.int .i64 a0_2) := (Yf BK119.out 2).trans rfl
  have hcz24_3 : w23.cell? ⟨gb119, 3, none⟩ = some (.string a0_3) := (Yf BK119.out 3).trans rfl
  have hcz24_4 : w23.cell? ⟨gb119, 4, none⟩ = some (.string a0_4) := (Yf BK119.out 4).trans rfl
  have hcz24_5 : w23.cell? ⟨gb119, 5, none⟩ = some (.string a0_5) := (Yf BK119.out 5).trans rfl
  have hcz24_6 : w23.cell? ⟨gb119, 6, none⟩ = some (.bool false) := (Yf BK119.out 6).trans rfl
  have hcz24_7 : w23.cell? ⟨gb119, 7, none⟩ = some (.bool true) := (Yf BK119.out 7).trans rfl
  have hfz24_0 := Ye BK119.out 0
  have hfz24_1 := Ye BK119.out 1
  have hfz24_2 := Ye BK119.out 2
  have hfz24_3 := Ye BK119.out 3
  have hfz24_4 := Ye BK119.out 4
  have hfz24_5 := Ye BK119.out 5
  have hfz24_6 := Ye BK119.out 6
  have hfz24_7 := Ye BK119.out 7
  try go_wp2
  go_ret
  exact ⟨Zk, Zs⟩
 subst c4
 rw [if_pos rfl] at H
 by_cases c5 : 1 + a0_4.size ≤ 9223372036854775807
 rotate_left
 ·rw [if_neg c5] at H
  exact absurd H Zv
 rw [if_pos c5] at H
 have c5b0 := eq_true c5
 have c5b1 : decide (1 + a0_4.size ≤ 9223372036854775807) = true := decide_eq_true c5
 try have c5b2 : (9223372036854775807 < 1 + a0_4.size) = False := eq_false (Nat.not_lt.2 c5)
 by_cases c6 : (t120 ++ a0_3).size + ((⟨#[63]⟩ : ByteArray) ++ a0_4).size ≤ 9223372036854775807
 rotate_left
 ·rw [if_neg c6] at H
  exact absurd H Zv
 rw [if_pos c6] at H
 have c6b0 := eq_true c6
 have c6b1 : decide ((t120 ++ a0_3).size + ((⟨#[63]⟩ : ByteArray) ++ a0_4).size ≤ 9223372036854775807) = true := decide_eq_true c6
 try have c6b2 : (9223372036854775807 < (t120 ++ a0_3).size + ((⟨#[63]⟩ : ByteArray) ++ a0_4).size) = False := eq_false (Nat.not_lt.2 c6)
 by_cases c7 : a0_7 = true
 rotate_left
 ·replace c7 := Bool.eq_false_iff.mpr c7
  subst c7
  rw [if_neg (show ¬ (false = true) by decide)] at H
  obtain rfl := Option.some.inj H
  go_enter Tryz.func26, Tryz.ntmps26
  try go_wp2_with (first | ((with_reducible refine Yuc (N := 1) rfl ?_); refine Yrc ?hg (N := 1) ?hd (cs := #[.string a0_0, .string a0_1, .int .i64 a0_2, .string a0_3, .string a0_4, .string a0_5, .bool true, .bool false]) (t := 25) ?hr ?_; (case hd => rfl); (case hg => rfl); (case hr => first | (go_simp; done) | (go_simp; rfl)); intro gb119 hg w14 hbox hb; have n0_ := Ya.mk (Yq Za hb); have n1_ := Ya.mk (hbox); have n2_ := Ya.mk ((by rw [hg]; exact (Yea Za) : w.heap.size ≤ gb119)); have n3_ := Ya.mk ((by rw [hg]; exact (Yea Za) : w.heap.size ≤ gb119)); clear HB; have HB := n0_; have BK119 := n1_; have GW119 := n2_; have GE119 := n3_; clear n0_ n1_ n2_ n3_; clear hb hbox hg))
  have n0_ := Ya.mk (Yp BK119.out)
  have n1_ := Ya.mk (Yc HB.out)
  clear BK119
  clear HB
  have BK119 := n0_
  have HB := n1_
  clear n0_ n1_
  refine Ylh (n := 6) (S := fun w' => w'.cell? ⟨gb119, 0, none⟩ = some (.string a0_0) ∧ w'.cell? ⟨gb119, 1, none⟩ = some (.string a0_1) ∧ w'.cell? ⟨gb119, 2, none⟩ = some (.int .i64 a0_2) ∧ w'.cell? ⟨gb119, 3, none⟩ = some (.string a0_3) ∧ w'.cell? ⟨gb119, 4, none⟩ = some (.string a0_4) ∧ w'.cell? ⟨gb119, 5, none⟩ = some (.string a0_5) ∧ w'.cell? ⟨gb119, 6, none⟩ = some (.bool true) ∧ w'.cell? ⟨gb119, 7, none⟩ = some (.bool false)) (ds := []) #[false, false, false, false, false, false] Zi rfl rfl ⟨(Yf BK119.out 0).trans rfl, (Yf BK119.out 1).trans rfl, (Yf BK119.out 2).trans rfl, (Yf BK119.out 3).trans rfl, (Yf BK119.out 4).trans rfl, (Yf BK119.out 5).trans rfl, (Yf BK119.out 6).trans rfl, (Yf BK119.out 7).trans rfl⟩ (fun hHeld => ?_)
  generalize w14.drew = w15 at BK119 HB hHeld ⊢
  refine Yrb (i := 2) (N := some 6) (v := ?_) (a' := ?_) #[false, false, true, false, false, false] rfl rfl Zi (fun _ _ _ h => h) (Or.inl ⟨Zla, ?_⟩) ?_ ?_
  rotate_left
  ·intro w'
   go_simp
   with_reducible rfl
  rotate_left
  ·simp only [Act.put, List.setIfInBounds_toArray, List.set_cons_zero, List.set_cons_succ, Yqa, Yra]
   rfl
  refine Ymg (i := 0) (N := some 4) (v := ?_) (a' := ?_) #[true, false, true, false, false, false] rfl rfl Zi (fun _ _ _ h => h) (Or.inl ⟨Zla, ?_⟩) hHeld ?_ ?_
  rotate_left
  ·rintro w' ⟨s0, s1, s2, s3, s4, s5, s6, s7⟩
   go_simp
   with_reducible rfl
  rotate_left
  ·simp only [Act.put, List.setIfInBounds_toArray, List.set_cons_zero, List.set_cons_succ, Yqa, Yra]
   rfl
  refine Ymg (i := 3) (N := some 7) (v := ?_) (a' := ?_) #[true, false, true, true, false, false] rfl rfl Zi (fun _ _ _ h => h) (Or.inl ⟨Zla, ?_⟩) hHeld ?_ ?_
  rotate_left
  ·rintro w' ⟨s0, s1, s2, s3, s4, s5, s6, s7⟩
   go_simp
   with_reducible rfl
  rotate_left
  ·simp only [Act.put, List.setIfInBounds_toArray, List.set_cons_zero, List.set_cons_succ, Yqa, Yra]
   rfl
  refine one_ (i := 1) (N := some 5) #[true, true, true, true, false, false] rfl rfl Zi Zda (fun K hK => ?_)
  refine Yvh Tryz.func29 Zi rfl #[.agg #[.string a0_0, .string a0_1, .int .i64 a0_2, .string a0_3, .string a0_4, .string a0_5, .bool true, .bool false]] Zla rfl rfl Zb ?_
  with_reducible refine (Yze.calls k a0_0 a0_1 a0_2 a0_3 a0_4 a0_5 true false t120 _ ?side1 A2.out).mono ?_
  (case side1 => first | exact HE.out | exact EnvOk.below HE.out Zs)
  rintro e w16 ⟨rfl, hb⟩
  refine ⟨_, rfl, ?_⟩
  have n0_ := Ya.mk (Ydb (g := gb119) (o := .cells #[.string a0_0, .string a0_1, .int .i64 a0_2, .string a0_3, .string a0_4, .string a0_5, .bool true, .bool false] 25 (0, 0)) Zsa hb)
  have n1_ := Ya.mk (Yq Zs hb)
  clear BK119
  clear HB
  have BK119 := n0_
  have HB := n1_
  clear n0_ n1_
  (try clear hb)
  (try clear hb2)
  (try clear hk)
  (try clear hi)
  refine hK.out _ _ ⟨(Yf BK119.out 0).trans rfl, (Yf BK119.out 1).trans rfl, (Yf BK119.out 2).trans rfl, (Yf BK119.out 3).trans rfl, (Yf BK119.out 4).trans rfl, (Yf BK119.out 5).trans rfl, (Yf BK119.out 6).trans rfl, (Yf BK119.out 7).trans rfl⟩ (fun hHeld => ?_)
  clear hK K
  refine Ywf (a' := ?_) ?_ ?_
  rotate_left
  ·show Act.put _ (some 5) _ = _
   simp only [Act.put, List.setIfInBounds_toArray, List.set_cons_zero, List.set_cons_succ, Yqa, Yra]
   rfl
  refine Yrb (i := 4) (N := some 8) (v := ?_) (a' := ?_) #[true, true, true, true, true, false] rfl rfl Zi (fun _ _ _ h => h) (Or.inl ⟨Zla, ?_⟩) ?_ ?_
  rotate_left
  ·intro w'
   go_simp
   with_reducible rfl
  rotate_left
  ·simp only [Act.put, List.setIfInBounds_toArray, List.set_cons_zero, List.set_cons_succ, Yqa, Yra]
   rfl
  refine Yrb (i := 5) (N := some 3) (v := ?_) (a' := ?_) #[true, true, true, true, true, true] rfl rfl Zi (fun _ _ _ h => h) (Or.inl ⟨Zla, ?_⟩) ?_ ?_
  rotate_left
  ·intro w'
   go_simp
   with_reducible rfl
  rotate_left
  ·simp only [Act.put, List.setIfInBounds_toArray, List.set_cons_zero, List.set_cons_succ, Yqa, Yra]
   rfl
  refine Yqi Zi ?_
  have hcz17_0 : w16.cell? ⟨gb119, 0, none⟩ = some (.string a0_0) := (Yf BK119.out 0).trans rfl
  have hcz17_1 : w16.cell? ⟨gb119, 1, none⟩ = some (.string a0_1) := (Yf BK119.out 1).trans rfl
  have hcz17_2 : w16.cell? ⟨gb119, 2, none⟩ = some (.int .i64 a0_2) := (Yf BK119.out 2).trans rfl
  have hcz17_3 : w16.cell? ⟨gb119, 3, none⟩ = some (.string a0_3) := (Yf BK119.out 3).trans rfl
  have hcz17_4 : w16.cell? ⟨gb119, 4, none⟩ = some (.string a0_4) := (Yf BK119.out 4).trans rfl
  have hcz17_5 : w16.cell? ⟨gb119, 5, none⟩ = some (.string a0_5) := (Yf BK119.out 5).trans rfl
  have hcz17_6 : w16.cell? ⟨gb119, 6, none⟩ = some (.bool true) := (Yf BK119.out 6).trans rfl
  have hcz17_7 : w16.cell? ⟨gb119, 7, none⟩ = some (.bool false) := (Yf BK119.out 7).trans rfl
  have hfz17_0 := Ye BK119.out 0
  have hfz17_1 := Ye BK119.out 1
  have hfz17_2 := Ye BK119.out 2
  have hfz17_3 := Ye BK119.out 3
  have hfz17_4 := Ye BK119.out 4
  have hfz17_5 := Ye BK119.out 5
  have hfz17_6 := Ye BK119.out 6
  have hfz17_7 := Ye BK119.out 7
  try go_wp2
  go_ret
  exact ⟨Zk, Zs⟩
 subst c7
 rw [if_pos rfl] at H
 by_cases c8 : 1 + a0_5.size ≤ 9223372036854775807
 rotate_left
 ·rw [if_neg c8] at H
  exact absurd H Zv
 rw [if_pos c8] at H
 have c8b0 := eq_true c8
 have c8b1 : decide (1 + a0_5.size ≤ 9223372036854775807) = true := decide_eq_true c8
 try have c8b2 : (9223372036854775807 < 1 + a0_5.size) = False := eq_false (Nat.not_lt.2 c8)
 by_cases c9 : ((t120 ++ a0_3) ++ ((⟨#[63]⟩ : ByteArray) ++ a0_4)).size + ((⟨#[35]⟩ : ByteArray) ++ a0_5).size ≤ 9223372036854775807
 rotate_left
 ·rw [if_neg c9] at H
  exact absurd H Zv
 rw [if_pos c9] at H
 have c9b0 := eq_true c9
 have c9b1 : decide (((t120 ++ a0_3) ++ ((⟨#[63]⟩ : ByteArray) ++ a0_4)).size + ((⟨#[35]⟩ : ByteArray) ++ a0_5).size ≤ 9223372036854775807) = true := decide_eq_true c9
 try have c9b2 : (9223372036854775807 < ((t120 ++ a0_3) ++ ((⟨#[63]⟩ : ByteArray) ++ a0_4)).size + ((⟨#[35]⟩ : ByteArray) ++ a0_5).size) = False := eq_false (Nat.not_lt.2 c9)
 obtain rfl := Option.some.inj H
 go_enter Tryz.func26, Tryz.ntmps26
 try go_wp2_with (first | ((with_reducible refine Yuc (N := 1) rfl ?_); refine Yrc ?hg (N := 1) ?hd (cs := #[.string a0_0, .string a0_1, .int .i64 a0_2, .string a0_3, .string a0_4, .string a0_5, .bool true, .bool true]) (t := 25) ?hr ?_; (case hd => rfl); (case hg => rfl); (case hr => first | (go_simp; done) | (go_simp; rfl)); intro gb119 hg w10 hbox hb; have n0_ := Ya.mk (Yq Za hb); have n1_ := Ya.mk (hbox); have n2_ := Ya.mk ((by rw [hg]; exact (Yea Za) : w.heap.size ≤ gb119)); have n3_ := Ya.mk ((by rw [hg]; exact (Yea Za) : w.heap.size ≤ gb119)); clear HB; have HB := n0_; have BK119 := n1_; have GW119 := n2_; have GE119 := n3_; clear n0_ n1_ n2_ n3_; clear hb hbox hg))
 have n0_ := Ya.mk (Yp BK119.out)
 have n1_ := Ya.mk (Yc HB.out)
 clear BK119
 clear HB
 have BK119 := n0_
 have HB := n1_
 clear n0_ n1_
 refine Ylh (n := 6) (S := fun w' => w'.cell? ⟨gb119, 0, none⟩ = some (.string a0_0) ∧ w'.cell? ⟨gb119, 1, none⟩ = some (.string a0_1) ∧ w'.cell? ⟨gb119, 2, none⟩ = some (.int .i64 a0_2) ∧ w'.cell? ⟨gb119, 3, none⟩ = some (.string a0_3) ∧ w'.cell? ⟨gb119, 4, none⟩ = some (.string a0_4) ∧ w'.cell? ⟨gb119, 5, none⟩ = some (.string a0_5) ∧ w'.cell? ⟨gb119, 6, none⟩ = some (.bool true) ∧ w'.cell? ⟨gb119, 7, none⟩ = some (.bool true)) (ds := []) #[false, false, false, false, false, false] Zi rfl rfl ⟨(Yf BK119.out 0).trans rfl, (Yf BK119.out 1).trans rfl, (Yf BK119.out 2).trans rfl, (Yf BK119.out 3).trans rfl, (Yf BK119.out 4).trans rfl, (Yf BK119.out 5).trans rfl, (Yf BK119.out 6).trans rfl, (Yf BK119.out 7).trans rfl⟩ (fun hHeld => ?_)
 generalize w10.drew = w11 at BK119 HB hHeld ⊢
 refine Yrb (i := 2) (N := some 6) (v := ?_) (a' := ?_) #[false, false, true, false, false, false] rfl rfl Zi (fun _ _ _ h => h) (Or.inl ⟨Zla, ?_⟩) ?_ ?_
 rotate_left
 ·intro w'
  go_simp
  with_reducible rfl
 rotate_left
 ·simp only [Act.put, List.setIfInBounds_toArray, List.set_cons_zero, List.set_cons_succ, Yqa, Yra]
  rfl
 refine Ymg (i := 0) (N := some 4) (v := ?_) (a' := ?_) #[true, false, true, false, false, false] rfl rfl Zi (fun _ _ _ h => h) (Or.inl ⟨Zla, ?_⟩) hHeld ?_ ?_
 rotate_left
 ·rintro w' ⟨s0, s1, s2, s3, s4, s5, s6, s7⟩
  go_simp
  with_reducible rfl
 rotate_left
 ·simp only [Act.put, List.setIfInBounds_toArray, List.set_cons_zero, List.set_cons_succ, Yqa, Yra]
  rfl
 refine Ymg (i := 3) (N := some 7) (v := ?_) (a' := ?_) #[true, false, true, true, false, false] rfl rfl Zi (fun _ _ _ h => h) (Or.inl ⟨Zla, ?_⟩) hHeld ?_ ?_
 rotate_left
 ·rintro w' ⟨s0, s1, s2, s3, s4, s5, s6, s7⟩
  go_simp
  with_reducible rfl
 rotate_left
 ·simp only [Act.put, List.setIfInBounds_toArray, List.set_cons_zero, List.set_cons_succ, Yqa, Yra]
  rfl
 refine one_ (i := 1) (N := some 5) #[true, true, true, true, false, false] rfl rfl Zi Zda (fun K hK => ?_)
 refine Yvh Tryz.func29 Zi rfl #[.agg #[.string a0_0, .string a0_1, .int .i64 a0_2, .string a0_3, .string a0_4, .string a0_5, .bool true, .bool true]] Zla rfl rfl Zb ?_
 with_reducible refine (Yze.calls k a0_0 a0_1 a0_2 a0_3 a0_4 a0_5 true true t120 _ ?side1 A2.out).mono ?_
 (case side1 => first | exact HE.out | exact EnvOk.below HE.out Zs)
 rintro e w12 ⟨rfl, hb⟩
 refine ⟨_, rfl, ?_⟩
 have n0_ := Ya.mk (Ydb (g := gb119) (o := .cells #[.string a0_0, .string a0_1, .int .i64 a0_2, .string a0_3, .string a0_4, .string a0_5, .bool true, .bool true] 25 (0, 0)) Zsa hb)
 have n1_ := Ya.mk (Yq Zs hb)
 clear BK119
 clear HB
 have BK119 := n0_
 have HB := n1_
 clear n0_ n1_
 (try clear hb)
 (try clear hb2)
 (try clear hk)
 (try clear hi)
 refine hK.out _ _ ⟨(Yf BK119.out 0).trans rfl, (Yf BK119.out 1).trans rfl, (Yf BK119.out 2).trans rfl, (Yf BK119.out 3).trans rfl, (Yf BK119.out 4).trans rfl, (Yf BK119.out 5).trans rfl, (Yf BK119.out 6).trans rfl, (Yf BK119.out 7).trans rfl⟩ (fun hHeld => ?_)
 clear hK K
 refine Ywf (a' := ?_) ?_ ?_
 rotate_left
 ·show Act.put _ (some 5) _ = _
  simp only [Act.put, List.setIfInBounds_toArray, List.set_cons_zero, List.set_cons_succ, Yqa, Yra]
  rfl
 refine Yrb (i := 4) (N := some 8) (v := ?_) (a' := ?_) #[true, true, true, true, true, false] rfl rfl Zi (fun _ _ _ h => h) (Or.inl ⟨Zla, ?_⟩) ?_ ?_
 rotate_left
 ·intro w'
  go_simp
  with_reducible rfl
 rotate_left
 ·simp only [Act.put, List.setIfInBounds_toArray, List.set_cons_zero, List.set_cons_succ, Yqa, Yra]
  rfl
 refine Yrb (i := 5) (N := some 3) (v := ?_) (a' := ?_) #[true, true, true, true, true, true] rfl rfl Zi (fun _ _ _ h => h) (Or.inl ⟨Zla, ?_⟩) ?_ ?_
 rotate_left
 ·intro w'
  go_simp
  with_reducible rfl
 rotate_left
 ·simp only [Act.put, List.setIfInBounds_toArray, List.set_cons_zero, List.set_cons_succ, Yqa, Yra]
  rfl
 refine Yqi Zi ?_
 have hcz13_0 : w12.cell? ⟨gb119, 0, none⟩ = some (.string a0_0) := (Yf BK119.out 0).trans rfl
 have hcz13_1 : w12.cell? ⟨gb119, 1, none⟩ = some (.string a0_1) := (Yf BK119.out 1).trans rfl
 have hcz13_2 : w12.cell? ⟨gb119, 2, none⟩ = some (.int .i64 a0_2) := (Yf BK119.out 2).trans rfl
 have hcz13_3 : w12.cell? ⟨gb119, 3, none⟩ = some (.string a0_3) := (Yf BK119.out 3).trans rfl
 have hcz13_4 : w12.cell? ⟨gb119, 4, none⟩ = some (.string a0_4) := (Yf BK119.out 4).trans rfl
 have hcz13_5 : w12.cell? ⟨gb119, 5, none⟩ = some (.string a0_5) := (Yf BK119.out 5).trans rfl
 have hcz13_6 : w12.cell? ⟨gb119, 6, none⟩ = some (.bool true) := (Yf BK119.out 6).trans rfl
 have hcz13_7 : w12.cell? ⟨gb119, 7, none⟩ = some (.bool true) := (Yf BK119.out 7).trans rfl
 have hfz13_0 := Ye BK119.out 0
 have hfz13_1 := Ye BK119.out 1
 have hfz13_2 := Ye BK119.out 2
 have hfz13_3 := Ye BK119.out 3
 have hfz13_4 := Ye BK119.out 4
 have hfz13_5 := Ye BK119.out 5
 have hfz13_6 := Ye BK119.out 6
 have hfz13_7 := Ye BK119.out 7
 try go_wp2
 go_ret
 exact ⟨Zk, Zs⟩
def Ytg.f (a0 : Int) : Option (Int) := if ((a0 - 65) % 256) < 26 then (some (Go.bits .or .u8 a0 32)) else (some a0)
set_option maxHeartbeats 8000000 in
set_option maxRecDepth 100000 in
theorem Ytg.calls (a0 : Int) (r : Int) (w : World) (hE : EnvOk w) (h : Ytg.f a0 = some r) :
  Calls Tryz.prog 91 #[.int .u8 a0] w fun e w' => e = .returned (.int .u8 r) ∧ Drawn0 w w' := by
 have HE := Ya.mk hE
 clear hE
 have H : (if ((a0 - 65) % 256) < 26 then (some (Go.bits .or .u8 a0 32)) else (some a0)) = some r := h
 clear h
 by_cases c2 : ((a0 - 65) % 256) < 26
 ·rw [if_pos c2] at H
  have c2b0 : decide (((a0 - 65) % 256) < 26) = true := decide_eq_true c2
  clear c2
  obtain rfl := Option.some.inj H
  go_enter Tryz.func91, Tryz.ntmps91
  go_wp2
  go_ret
  exact ⟨Zf, Zh⟩
 rw [if_neg c2] at H
 have c2b0 : decide (((a0 - 65) % 256) < 26) = false := decide_eq_false c2
 clear c2
 obtain rfl := Option.some.inj H
 go_enter Tryz.func91, Tryz.ntmps91
 go_wp2
 go_ret
 exact ⟨Zf, Zh⟩
def Yva.f (a0 : Int) : Option (Bool) := some (decide ((((Go.bits .or .u8 a0 32) - 97) % 256) < 26))
set_option maxHeartbeats 8000000 in
set_option maxRecDepth 100000 in
theorem Yva.calls (a0 : Int) (r : Bool) (w : World) (hE : EnvOk w) (h : Yva.f a0 = some r) :
  Calls Tryz.prog 77 #[.int .u8 a0] w fun e w' => e = .returned (.bool r) ∧ Drawn0 w w' := by
 have HE := Ya.mk hE
 clear hE
 have H : (some (decide ((((Go.bits .or .u8 a0 32) - 97) % 256) < 26))) = some r := h
 clear h
 obtain rfl := Option.some.inj H
 go_enter Tryz.func77, Tryz.ntmps77
 go_wp2
 go_ret
 exact ⟨Zf, Zh⟩
def Yta.f (a0 : Int) : Option (Bool) := some (decide (((a0 - 48) % 256) < 10))
set_option maxHeartbeats 8000000 in
set_option maxRecDepth 100000 in
theorem Yta.calls (a0 : Int) (r : Bool) (w : World) (hE : EnvOk w) (h : Yta.f a0 = some r) :
  Calls Tryz.prog 78 #[.int .u8 a0] w fun e w' => e = .returned (.bool r) ∧ Drawn0 w w' := by
 have HE := Ya.mk hE
 clear hE
 have H : (some (decide (((a0 - 48) % 256) < 10))) = some r := h
 clear h
 obtain rfl := Option.some.inj H
 go_enter Tryz.func78, Tryz.ntmps78
 go_wp2
 go_ret
 exact ⟨Zf, Zh⟩
def Yzf.f (a0 : Int) : Option (Int × Bool) := (Ytg.f a0).bind fun t121 => ((Yta.f t121).bind fun t122 => (if t122 = true then (some ((t121 - 48) % 256, true)) else (if ((t121 - 97) % 256) < 6 then (some (((t121 - 97) % 256) + 10, true)) else (some (0, false)))))
set_option maxHeartbeats 8000000 in
set_option maxRecDepth 100000 in
theorem Yzf.calls (a0 : Int) (r1 : Int) (r2 : Bool) (w : World) (hE : EnvOk w) (h : Yzf.f a0 = some (r1, r2)) :
  Calls Tryz.prog 121 #[.int .u8 a0] w fun e w' => e = .returned (.tuple #[.int .u32 r1, .bool r2]) ∧ Drawn0 w w' := by
 have HE := Ya.mk hE
 clear hE
 have H : ((Ytg.f a0).bind fun t121 => ((Yta.f t121).bind fun t122 => (if t122 = true then (some ((t121 - 48) % 256, true)) else (if ((t121 - 97) % 256) < 6 then (some (((t121 - 97) % 256) + 10, true)) else (some (0, false)))))) = some (r1, r2) := h
 clear h
 replace H := Option.bind_eq_some_iff.mp H
 obtain ⟨t121, A20, H⟩ := H
 try dsimp -simprocs only at H
 have A2 := Ya.mk A20
 clear A20
 replace H := Option.bind_eq_some_iff.mp H
 obtain ⟨t122, A30, H⟩ := H
 try dsimp -simprocs only at H
 have A3 := Ya.mk A30
 clear A30
 by_cases c4 : t122 = true
 ·subst c4
  rw [if_pos rfl] at H
  simp only [Option.some.injEq, Prod.mk.injEq] at H
  obtain ⟨rfl, rfl⟩ := H
  go_enter Tryz.func121, Tryz.ntmps121
  go_wp2_with (first | ((with_reducible refine Yh (f := 91) rfl ?_); refine Yz (some 5) rfl rfl Tryz.func91 Zi rfl #[.int .u8 a0] rfl Zb ?_; (with_reducible refine (Ytg.calls a0 t121 _ ?side1 A2.out).mono ?_); (case side1 => first | exact HE.out | exact EnvOk.heap HE.out rfl); rintro e w' ⟨rfl, ⟨nd, rfl⟩⟩; refine ⟨_, rfl, ?_⟩) | ((with_reducible refine Yh (f := 78) rfl ?_); refine Yz (some 8) rfl rfl Tryz.func78 Zi rfl #[.int .u8 t121] rfl Zb ?_; (with_reducible refine (Yta.calls t121 true _ ?side1 A3.out).mono ?_); (case side1 => first | exact HE.out | exact EnvOk.heap HE.out rfl); rintro e w' ⟨rfl, ⟨nd, rfl⟩⟩; refine ⟨_, rfl, ?_⟩))
  go_ret2
  exact ⟨Zf, Zh⟩
 replace c4 := Bool.eq_false_iff.mpr c4
 subst c4
 rw [if_neg (show ¬ (false = true) by decide)] at H
 by_cases c5 : ((t121 - 97) % 256) < 6
 ·rw [if_pos c5] at H
  have c5b0 : decide (((t121 - 97) % 256) < 6) = true := decide_eq_true c5
  clear c5
  simp only [Option.some.injEq, Prod.mk.injEq] at H
  obtain ⟨rfl, rfl⟩ := H
  go_enter Tryz.func121, Tryz.ntmps121
  go_wp2_with (first | ((with_reducible refine Yh (f := 91) rfl ?_); refine Yz (some 5) rfl rfl Tryz.func91 Zi rfl #[.int .u8 a0] rfl Zb ?_; (with_reducible refine (Ytg.calls a0 t121 _ ?side1 A2.out).mono ?_); (case side1 => first | exact HE.out | exact EnvOk.heap HE.out rfl); rintro e w' ⟨rfl, ⟨nd, rfl⟩⟩; refine ⟨_, rfl, ?_⟩) | ((with_reducible refine Yh (f := 78) rfl ?_); refine Yz (some 8) rfl rfl Tryz.func78 Zi rfl #[.int .u8 t121] rfl Zb ?_; (with_reducible refine (Yta.calls t121 false _ ?side1 A3.out).mono ?_); (case side1 => first | exact HE.out | exact EnvOk.heap HE.out rfl); rintro e w' ⟨rfl, ⟨nd, rfl⟩⟩; refine ⟨_, rfl, ?_⟩))
  go_ret2
  exact ⟨Zf, Zh⟩
 rw [if_neg c5] at H
 have c5b0 : decide (((t121 - 97) % 256) < 6) = false := decide_eq_false c5
 clear c5
 simp only [Option.some.injEq, Prod.mk.injEq] at H
 obtain ⟨rfl, rfl⟩ := H
 go_enter Tryz.func121, Tryz.ntmps121
 go_wp2_with (first | ((with_reducible refine Yh (f := 91) rfl ?_); refine Yz (some 5) rfl rfl Tryz.func91 Zi rfl #[.int .u8 a0] rfl Zb ?_; (with_reducible refine (Ytg.calls a0 t121 _ ?side1 A2.out).mono ?_); (case side1 => first | exact HE.out | exact EnvOk.heap HE.out rfl); rintro e w' ⟨rfl, ⟨nd, rfl⟩⟩; refine ⟨_, rfl, ?_⟩) | ((with_reducible refine Yh (f := 78) rfl ?_); refine Yz (some 8) rfl rfl Tryz.func78 Zi rfl #[.int .u8 t121] rfl Zb ?_; (with_reducible refine (Yta.calls t121 false _ ?side1 A3.out).mono ?_); (case side1 => first | exact HE.out | exact EnvOk.heap HE.out rfl); rintro e w' ⟨rfl, ⟨nd, rfl⟩⟩; refine ⟨_, rfl, ?_⟩))
 go_ret2
 exact ⟨Zf, Zh⟩
def Yad.l0 : Nat → ByteArray → Int → Bool → Int → Int → Option (Int × Int)
 | 0, _, _, _, _, _ => none
 | k + 1, x0, x4, x5, x12, x13 => if x13 < x12 then (if 0 ≤ x13 then (if x13 < (x0.size : Int) then ((Yzf.f (bt x0 x13)).bind fun bt123 => (if bt123.2 = true then (if x5 = true then (Yad.l0 k x0 (Go.bits .or .u32 ((x4 * 16) % 4294967296) bt123.1) true x12 (wrap64 (x13 + 1))) else (Yad.l0 k x0 (Go.bits .or .u32 ((x4 * 16) % 4294967296) bt123.1) ((x4 / 268435456) != 0) x12 (wrap64 (x13 + 1)))) else (some (0, 3)))) else (none)) else (none)) else (if x5 = true then (some (0, 5)) else (some (x4, 0)))
def Yad.f (k : Nat) (a0 : ByteArray) : Option (Int × Int) := if a0.toList = ([] : List UInt8) then (some (0, 3)) else (Yad.l0 k a0 0 false (a0.size : Int) 0)
set_option maxHeartbeats 8000000 in
set_option maxRecDepth 100000 in
theorem Yad.calls (k : Nat) (a0 : ByteArray) (r1 : Int) (r2 : Int) (w : World) (hE : EnvOk w) (h : Yad.f k a0 = some (r1, r2)) :
  Calls Tryz.prog 92 #[.string a0] w fun e w' => e = .returned (.tuple #[.int .u32 r1, .int .i64 r2]) ∧ Drawn0 w w' := by
 have HE := Ya.mk hE
 clear hE
 have H : (if a0.toList = ([] : List UInt8) then (some (0, 3)) else (Yad.l0 k a0 0 false (a0.size : Int) 0)) = some (r1, r2) := h
 clear h
 by_cases c2 : a0.toList = ([] : List UInt8)
 ·rw [if_pos c2] at H
  have c2b0 : (a0.toList == ([] : List UInt8)) = true := beq_iff_eq.mpr c2
  have c2b1 : (a0.toList != ([] : List UInt8)) = false := bne_eq_false_iff_eq.mpr c2
  clear c2
  simp only [Option.some.injEq, Prod.mk.injEq] at H
  obtain ⟨rfl, rfl⟩ := H
  go_enter Tryz.func92, Tryz.ntmps92
  go_wp2
  go_ret2
  exact ⟨Zf, Zh⟩
 rw [if_neg c2] at H
 have c2b0 : (a0.toList == ([] : List UInt8)) = false := beq_eq_false_iff_ne.mpr c2
 have c2b1 : (a0.toList != ([] : List UInt8)) = true := bne_iff_ne.mpr c2
 have H' := Ya.mk H
 clear H
 go_enter Tryz.func92, Tryz.ntmps92
 go_wp2
 go_loopg [4, 5, 13] k (fun kq v4 v5 v13 w' => ∃ (x4_1 : Int) (x5_1 : Bool) (x13_1 : Int), v4 = .int .u32 x4_1 ∧ v5 = .bool x5_1 ∧ v13 = .int .i64 x13_1 ∧ Ya (Yad.l0 kq a0 x4_1 x5_1 (a0.size : Int) x13_1 = some (r1, r2)) ∧ Ya (kq ≤ k) ∧ Drawn0 w w')
 case atStart => exact ⟨(0), (false), (0), Zf, Zf, Zf, H', ⟨Nat.le_refl _⟩, Zh⟩
 case round =>
  clear H'
  try clear c2
  try clear c2b0
  try clear c2b1
  try clear p2
  obtain ⟨x4_1, x5_1, x13_1, rfl, rfl, rfl, HA, HK1, ⟨m1, rfl⟩⟩ := hrel
  cases gk with
  | zero => exact absurd HA.out (by simp [Yad.l0])
  | succ k1 =>
   have H := HA.out
   clear HA
   simp only [Yad.l0] at H
   by_cases c3 : x13_1 < (a0.size : Int)
   rotate_left
   ·rw [if_neg c3] at H
    have c3b0 : decide (x13_1 < (a0.size : Int)) = false := decide_eq_false c3
    clear c3
    by_cases c10 : x5_1 = true
    ·subst c10
     rw [if_pos rfl] at H
     simp only [Option.some.injEq, Prod.mk.injEq] at H
     obtain ⟨rfl, rfl⟩ := H
     go_wp2
     go_ret2
     exact ⟨Zf, Zh⟩
    replace c10 := Bool.eq_false_iff.mpr c10
    subst c10
    rw [if_neg (show ¬ (false = true) by decide)] at H
    simp only [Option.some.injEq, Prod.mk.injEq] at H
    obtain ⟨rfl, rfl⟩ := H
    go_wp2
    go_ret2
    exact ⟨Zf, Zh⟩
   rw [if_pos c3] at H
   have c3b0 : decide (x13_1 < (a0.size : Int)) = true := decide_eq_true c3
   clear c3
   by_cases c4 : 0 ≤ x13_1
   rotate_left
   ·rw [if_neg c4] at H
    exact absurd H Zv
   rw [if_pos c4] at H
   have c4b0 : decide (0 ≤ x13_1) = true := decide_eq_true c4
   clear c4
   by_cases c5 : x13_1 < (a0.size : Int)
   rotate_left
   ·rw [if_neg c5] at H
    exact absurd H Zv
   rw [if_pos c5] at H
   have c5b0 : decide (x13_1 < (a0.size : Int)) = true := decide_eq_true c5
   clear c5
   replace H := Option.bind_eq_some_iff.mp H
   obtain ⟨⟨t123, t124⟩, A70, H⟩ := H
   try dsimp -simprocs only at H
   have A7 := Ya.mk A70
   clear A70
   by_cases c8 : t124 = true
   rotate_left
   ·replace c8 := Bool.eq_false_iff.mpr c8
    subst c8
    rw [if_neg (show ¬ (false = true) by decide)] at H
    simp only [Option.some.injEq, Prod.mk.injEq] at H
    obtain ⟨rfl, rfl⟩ := H
    have p6 : 0 ≤ (x13_1 : Int) := of_decide_eq_true Zc
    have q6 : x13_1 < (a0.size : Int) := of_decide_eq_true Zc
    have hx6 := Yya a0 x13_1
    replace p6 := eq_true p6
    replace q6 := eq_true q6
    go_wp2_with (first | ((with_reducible refine Yh (f := 121) rfl ?_); refine Yz (some 20) rfl rfl Tryz.func121 Zi rfl #[.int .u8 (bt a0 x13_1)] rfl Zb ?_; (with_reducible refine (Yzf.calls (bt a0 x13_1) t123 false _ ?side1 A7.out).mono ?_); (case side1 => first | exact HE.out | exact EnvOk.heap HE.out rfl); rintro e w' ⟨rfl, ⟨nd, rfl⟩⟩; refine ⟨_, rfl, ?_⟩))
    go_ret2
    exact ⟨Zf, Zh⟩
   subst c8
   rw [if_pos rfl] at H
   by_cases c9 : x5_1 = true
   ·subst c9
    rw [if_pos rfl] at H
    have H' := Ya.mk H
    clear H
    have p6 : 0 ≤ (x13_1 : Int) := of_decide_eq_true Zc
    have q6 : x13_1 < (a0.size : Int) := of_decide_eq_true Zc
    have hx6 := Yya a0 x13_1
    replace p6 := eq_true p6
    replace q6 := eq_true q6
    go_wp2_with (first | ((with_reducible refine Yh (f := 121) rfl ?_); refine Yz (some 20) rfl rfl Tryz.func121 Zi rfl #[.int .u8 (bt a0 x13_1)] rfl Zb ?_; (with_reducible refine (Yzf.calls (bt a0 x13_1) t123 true _ ?side1 A7.out).mono ?_); (case side1 => first | exact HE.out | exact EnvOk.heap HE.out rfl); rintro e w' ⟨rfl, ⟨nd, rfl⟩⟩; refine ⟨_, rfl, ?_⟩))
    go_roundg k1
    case measure => have := HK1.out; omega
    case rel => exact ⟨(Go.bits .or .u32 ((x4_1 * 16) % 4294967296) t123), (true), (wrap64 (x13_1 + 1)), Zf, Zf, Zf, H', ⟨Zaa⟩, Zh⟩
   replace c9 := Bool.eq_false_iff.mpr c9
   subst c9
   rw [if_neg (show ¬ (false = true) by decide)] at H
   have H' := Ya.mk H
   clear H
   have p6 : 0 ≤ (x13_1 : Int) := of_decide_eq_true Zc
   have q6 : x13_1 < (a0.size : Int) := of_decide_eq_true Zc
   have hx6 := Yya a0 x13_1
   replace p6 := eq_true p6
   replace q6 := eq_true q6
   go_wp2_with (first | ((with_reducible refine Yh (f := 121) rfl ?_); refine Yz (some 20) rfl rfl Tryz.func121 Zi rfl #[.int .u8 (bt a0 x13_1)] rfl Zb ?_; (with_reducible refine (Yzf.calls (bt a0 x13_1) t123 true _ ?side1 A7.out).mono ?_); (case side1 => first | exact HE.out | exact EnvOk.heap HE.out rfl); rintro e w' ⟨rfl, ⟨nd, rfl⟩⟩; refine ⟨_, rfl, ?_⟩))
   go_roundg k1
   case measure => have := HK1.out; omega
   case rel => exact ⟨(Go.bits .or .u32 ((x4_1 * 16) % 4294967296) t123), (((x4_1 / 268435456) != 0)), (wrap64 (x13_1 + 1)), Zf, Zf, Zf, H', ⟨Zaa⟩, Zh⟩
end Go.Proofs.YtnmglnglbdpjjaaGreatDoor.X
