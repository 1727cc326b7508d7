/- Printed by a program of ours: functions as plain Lean, and what a call of each does. -/
import Derived.Test.YtfmjnmglagdcdaaGreatDoorCHWords
import Derived.Test.YtfmjnmglagdcdaaGreatDoorCHX0
import Derived.Test.YtfmjnmglagdcdaaGreatDoorCHX1
import Derived.Test.YtfmjnmglagdcdaaGreatDoorCHX2
import Derived.Test.YtfmjnmglagdcdaaGreatDoorCHH0e
namespace Go.Proofs.YtfmjnmglagdcdaaGreatDoor.X
open Go.RowKit Go.Yw.PrintWords Go.Yw.PrintLast Go.Yw.PrintMore
attribute [local go_sem] Ygf Ybf Yzf Yag Yme Ype Ydf Yff
set_option linter.unusedVariables false
set_option linter.unusedSimpArgs false
def Ykc.f (a0 : Int) : Option (Bool) := (Yw.f a0).bind fun t143 => (if t143 = true then (some true) else ((Yq.f a0).bind fun t144 => (if t144 = true then (some true) else ((strings_IndexByte.f (⟨#[45, 46, 95, 126]⟩ : ByteArray) a0).bind fun t145 => (some (decide (t145 ≥ 0)))))))
set_option maxHeartbeats 8000000 in
set_option maxRecDepth 100000 in
theorem Ykc.calls (a0 : Int) (r : Bool) (w : World) (hE : EnvOk w) (h : Ykc.f a0 = some r) :
  Calls Tryz.prog 129 #[.int .u8 a0] w fun e w' => e = .returned (.bool r) ∧ Drawn0 w w' := by
 have HE := Ya.mk hE
 clear hE
 have H : ((Yw.f a0).bind fun t143 => (if t143 = true then (some true) else ((Yq.f a0).bind fun t144 => (if t144 = true then (some true) else ((strings_IndexByte.f (⟨#[45, 46, 95, 126]⟩ : ByteArray) a0).bind fun t145 => (some (decide (t145 ≥ 0)))))))) = some r := h
 clear h
 replace H := Option.bind_eq_some_iff.mp H
 obtain ⟨t143, A20, H⟩ := H
 try dsimp -simprocs only at H
 have A2 := Ya.mk A20
 clear A20
 by_cases c3 : t143 = true
 ·subst c3
  rw [if_pos rfl] at H
  obtain rfl := Option.some.inj H
  go_enter Tryz.func129, Tryz.ntmps129
  go_wp2_with (first | ((with_reducible refine Yi (f := 71) rfl ?_); refine Yp (some 4) rfl rfl Tryz.func71 Zg rfl #[.int .u8 a0] rfl Zb ?_; (with_reducible refine (Yw.calls a0 true _ ?side1 A2.out).mono ?_); (case side1 => first | exact HE.out | exact EnvOk.heap HE.out rfl); rintro e w' ⟨rfl, ⟨nd, rfl⟩⟩; refine ⟨_, rfl, ?_⟩))
  go_ret
  exact ⟨Zf, Zl⟩
 replace c3 := Bool.eq_false_iff.mpr c3
 subst c3
 rw [if_neg (show ¬ (false = true) by decide)] at H
 replace H := Option.bind_eq_some_iff.mp H
 obtain ⟨t144, A40, H⟩ := H
 try dsimp -simprocs only at H
 have A4 := Ya.mk A40
 clear A40
 by_cases c5 : t144 = true
 ·subst c5
  rw [if_pos rfl] at H
  obtain rfl := Option.some.inj H
  go_enter Tryz.func129, Tryz.ntmps129
  go_wp2_with (first | ((with_reducible refine Yi (f := 71) rfl ?_); refine Yp (some 4) rfl rfl Tryz.func71 Zg rfl #[.int .u8 a0] rfl Zb ?_; (with_reducible refine (Yw.calls a0 false _ ?side1 A2.out).mono ?_); (case side1 => first | exact HE.out | exact EnvOk.heap HE.out rfl); rintro e w' ⟨rfl, ⟨nd, rfl⟩⟩; refine ⟨_, rfl, ?_⟩) | (go_at_call 72; (with_reducible refine (Yq.calls a0 true _ ?side1 A4.out).mono ?_); (case side1 => first | exact HE.out | exact EnvOk.heap HE.out rfl); rintro e w' ⟨rfl, ⟨nd, rfl⟩⟩))
  go_ret
  exact ⟨Zf, Zl⟩
 replace c5 := Bool.eq_false_iff.mpr c5
 subst c5
 rw [if_neg (show ¬ (false = true) by decide)] at H
 replace H := Option.bind_eq_some_iff.mp H
 obtain ⟨t145, A60, H⟩ := H
 try dsimp -simprocs only at H
 have A6 := Ya.mk A60
 clear A60
 obtain rfl := Option.some.inj H
 go_enter Tryz.func129, Tryz.ntmps129
 go_wp2_with (first | ((with_reducible refine Yi (f := 71) rfl ?_); refine Yp (some 4) rfl rfl Tryz.func71 Zg rfl #[.int .u8 a0] rfl Zb ?_; (with_reducible refine (Yw.calls a0 false _ ?side1 A2.out).mono ?_); (case side1 => first | exact HE.out | exact EnvOk.heap HE.out rfl); rintro e w' ⟨rfl, ⟨nd, rfl⟩⟩; refine ⟨_, rfl, ?_⟩) | (go_at_call 72; (with_reducible refine (Yq.calls a0 false _ ?side1 A4.out).mono ?_); (case side1 => first | exact HE.out | exact EnvOk.heap HE.out rfl); rintro e w' ⟨rfl, ⟨nd, rfl⟩⟩) | (go_at_call 73; (with_reducible refine (strings_IndexByte.calls (⟨#[45, 46, 95, 126]⟩ : ByteArray) a0 t145 _ ?side1 A6.out).mono ?_); (case side1 => first | exact HE.out | exact EnvOk.heap HE.out rfl); rintro e w' ⟨rfl, ⟨nd, rfl⟩⟩))
 go_ret
 exact ⟨Zf, Zl⟩
def Yoc.f (k : Nat) (a0_0 : ByteArray) (a0_1 : ByteArray) (a0_2 : Int) (a0_3 : ByteArray) (a0_4 : ByteArray) (a0_5 : ByteArray) (a0_6 : Bool) (a0_7 : Bool) : Option (ByteArray) := if a0_0.size + 3 ≤ 9223372036854775807 then (if (a0_0 ++ (⟨#[58, 47, 47]⟩ : ByteArray)).size + a0_1.size ≤ 9223372036854775807 then (if a0_2 = 0 then (some ((a0_0 ++ (⟨#[58, 47, 47]⟩ : ByteArray)) ++ a0_1)) else ((Yrb.f k a0_2).bind fun t147 => (if 1 + t147.size ≤ 9223372036854775807 then (if ((a0_0 ++ (⟨#[58, 47, 47]⟩ : ByteArray)) ++ a0_1).size + ((⟨#[58]⟩ : ByteArray) ++ t147).size ≤ 9223372036854775807 then (some (((a0_0 ++ (⟨#[58, 47, 47]⟩ : ByteArray)) ++ a0_1) ++ ((⟨#[58]⟩ : ByteArray) ++ t147))) else (none)) else (none)))) else (none)) else (none)
set_option maxHeartbeats 8000000 in
set_option maxRecDepth 100000 in
theorem Yoc.calls (k : Nat) (a0_0 : ByteArray) (a0_1 : ByteArray) (a0_2 : Int) (a0_3 : ByteArray) (a0_4 : ByteArray) (a0_5 : ByteArray) (a0_6 : Bool) (a0_7 : Bool) (r : ByteArray) (w : World) (hE : EnvOk w) (h : Yoc.f k a0_0 a0_1 a0_2 a0_3 a0_4 a0_5 a0_6 a0_7 = some r) :
  Calls Tryz.prog 83 #[.agg #[.string a0_0, .string a0_1, .int .i64 a0_2, .string a0_3, .string a0_4, .string a0_5, .bool a0_6, .bool a0_7]] w fun e w' => e = .returned (.string r) ∧ Below w.heap.size w w' := by
 have hu81 := Tryz.underlying81
 have HE := Ya.mk hE
 clear hE
 have HB := Ya.mk (Below.refl w.heap.size w)
 have H : (if a0_0.size + 3 ≤ 9223372036854775807 then (if (a0_0 ++ (⟨#[58, 47, 47]⟩ : ByteArray)).size + a0_1.size ≤ 9223372036854775807 then (if a0_2 = 0 then (some ((a0_0 ++ (⟨#[58, 47, 47]⟩ : ByteArray)) ++ a0_1)) else ((Yrb.f k a0_2).bind fun t147 => (if 1 + t147.size ≤ 9223372036854775807 then (if ((a0_0 ++ (⟨#[58, 47, 47]⟩ : ByteArray)) ++ a0_1).size + ((⟨#[58]⟩ : ByteArray) ++ t147).size ≤ 9223372036854775807 then (some (((a0_0 ++ (⟨#[58, 47, 47]⟩ : ByteArray)) ++ a0_1) ++ ((⟨#[58]⟩ : ByteArray) ++ t147))) else (none)) else (none)))) else (none)) else (none)) = some r := h
 clear h
 by_cases c2 : a0_0.size + 3 ≤ 9223372036854775807
 rotate_left
 ·rw [if_neg c2] at H
  exact absurd H Zy
 rw [if_pos c2] at H
 have c2b0 := eq_true c2
 have c2b1 : decide (a0_0.size + 3 ≤ 9223372036854775807) = true := decide_eq_true c2
 try have c2b2 : (9223372036854775807 < a0_0.size + 3) = False := eq_false (Nat.not_lt.2 c2)
 by_cases c3 : (a0_0 ++ (⟨#[58, 47, 47]⟩ : ByteArray)).size + a0_1.size ≤ 9223372036854775807
 rotate_left
 ·rw [if_neg c3] at H
  exact absurd H Zy
 rw [if_pos c3] at H
 have c3b0 := eq_true c3
 have c3b1 : decide ((a0_0 ++ (⟨#[58, 47, 47]⟩ : ByteArray)).size + a0_1.size ≤ 9223372036854775807) = true := decide_eq_true c3
 try have c3b2 : (9223372036854775807 < (a0_0 ++ (⟨#[58, 47, 47]⟩ : ByteArray)).size + a0_1.size) = False := eq_false (Nat.not_lt.2 c3)
 by_cases c4 : a0_2 = 0
 ·rw [if_pos c4] at H
  have c4b0 : (a0_2 == 0) = true := beq_iff_eq.mpr c4
  have c4b1 : (a0_2 != 0) = false := bne_eq_false_iff_eq.mpr c4
  clear c4
  obtain rfl := Option.some.inj H
  go_enter Tryz.func83, Tryz.ntmps83
  go_wp2_with (first | ((with_reducible refine Yld (N := 1) rfl ?_); refine Ytc ?hg (N := 1) ?hd (cs := #[.string a0_0, .string a0_1, .int .i64 a0_2, .string a0_3, .string a0_4, .string a0_5, .bool a0_6, .bool a0_7]) (t := 81) ?hr ?_; (case hd => rfl); (case hg => rfl); (case hr => first | (go_simp; done) | (go_simp; rfl)); intro gb146 hg w5 hbox hb; have n0_ := Ya.mk (Yn Zc hb); have n1_ := Ya.mk (hbox); have n2_ := Ya.mk ((by rw [hg]; exact (Yfa Zc) : w.heap.size ≤ gb146)); have n3_ := Ya.mk ((by rw [hg]; exact (Yfa Zc) : w.heap.size ≤ gb146)); clear HB; have HB := n0_; have BK146 := n1_; have GW146 := n2_; have GE146 := n3_; clear n0_ n1_ n2_ n3_; clear hb hbox hg; have hcz6_0 : w5.cell? ⟨gb146, 0, none⟩ = some (.string a0_0) := (Yf BK146.out 0).trans rfl; have hcz6_1 : w5.cell? ⟨gb146, 1, none⟩ = some (.string a0_1) := (Yf BK146.out 1).trans rfl; have hcz6_2 : w5.cell? ⟨gb146, 2, none⟩ = some (.int .i64 a0_2) := (Yf BK146.out 2).trans rfl; have hcz6_3 : w5.cell? ⟨gb146, 3, none⟩ = some (.string a0_3) := (Yf BK146.out 3).trans rfl; have hcz6_4 : w5.cell? ⟨gb146, 4, none⟩ = some (.string a0_4) := (Yf BK146.out 4).trans rfl; have hcz6_5 : w5.cell? ⟨gb146, 5, none⟩ = some (.string a0_5) := (Yf BK146.out 5).trans rfl; have hcz6_6 : w5.cell? ⟨gb146, 6, none⟩ = some (.bool a0_6) := (Yf BK146.out 6).trans rfl; have hcz6_7 : w5.cell? ⟨gb146, 7, none⟩ = some (.bool a0_7) := (Yf BK146.out 7).trans rfl; have hfz6_0 := Yc BK146.out 0; have hfz6_1 := Yc BK146.out 1; have hfz6_2 := Yc BK146.out 2; have hfz6_3 := Yc BK146.out 3; have hfz6_4 := Yc BK146.out 4; have hfz6_5 := Yc BK146.out 5; have hfz6_6 := Yc BK146.out 6; have hfz6_7 := Yc BK146.out 7))
  go_ret
  exact ⟨Zj, Zu⟩
 rw [if_neg c4] at H
 have c4b0 : (a0_2 == 0) = false := beq_eq_false_iff_ne.mpr c4
 have c4b1 : (a0_2 != 0) = true := bne_iff_ne.mpr c4
 replace H := Option.bind_eq_some_iff.mp H
 obtain ⟨t147, A70, H⟩ := H
 try dsimp -simprocs only at H
 have A7 := Ya.mk A70
 clear A70
 by_cases c8 : 1 + t147.size ≤ 9223372036854775807
 rotate_left
 ·rw [if_neg c8] at H
  exact absurd H Zy
 rw [if_pos c8] at H
 have c8b0 := eq_true c8
 have c8b1 : decide (1 + t147.size ≤ 9223372036854775807) = true := decide_eq_true c8
 try have c8b2 : (9223372036854775807 < 1 + t147.size) = False := eq_false (Nat.not_lt.2 c8)
 by_cases c9 : ((a0_0 ++ (⟨#[58, 47, 47]⟩ : ByteArray)) ++ a0_1).size + ((⟨#[58]⟩ : ByteArray) ++ t147).size ≤ 9223372036854775807
 rotate_left
 ·rw [if_neg c9] at H
  exact absurd H Zy
 rw [if_pos c9] at H
 have c9b0 := eq_true c9
 have c9b1 : decide (((a0_0 ++ (⟨#[58, 47, 47]⟩ : ByteArray)) ++ a0_1).size + ((⟨#[58]⟩ : ByteArray) ++ t147).size ≤ 9223372036854775807) = true := decide_eq_true c9
 try have c9b2 : (9223372036854775807 < ((a0_0 ++ (⟨#[58, 47, 47]⟩ : ByteArray)) ++ a0_1).size + ((⟨#[58]⟩ : ByteArray) ++ t147).size) = False := eq_false (Nat.not_lt.2 c9)
 obtain rfl := Option.some.inj H
 go_enter Tryz.func83, Tryz.ntmps83
 go_wp2_with (first | ((with_reducible refine Yld (N := 1) rfl ?_); refine Ytc ?hg (N := 1) ?hd (cs := #[.string a0_0, .string a0_1, .int .i64 a0_2, .string a0_3, .string a0_4, .string a0_5, .bool a0_6, .bool a0_7]) (t := 81) ?hr ?_; (case hd => rfl); (case hg => rfl); (case hr => first | (go_simp; done) | (go_simp; rfl)); intro gb146 hg w10 hbox hb; have n0_ := Ya.mk (Yn Zc hb); have n1_ := Ya.mk (hbox); have n2_ := Ya.mk ((by rw [hg]; exact (Yfa Zc) : w.heap.size ≤ gb146)); have n3_ := Ya.mk ((by rw [hg]; exact (Yfa Zc) : w.heap.size ≤ gb146)); clear HB; have HB := n0_; have BK146 := n1_; have GW146 := n2_; have GE146 := n3_; clear n0_ n1_ n2_ n3_; clear hb hbox hg; have hcz11_0 : w10.cell? ⟨gb146, 0, none⟩ = some (.string a0_0) := (Yf BK146.out 0).trans rfl; have hcz11_1 : w10.cell? ⟨gb146, 1, none⟩ = some (.string a0_1) := (Yf BK146.out 1).trans rfl; have hcz11_2 : w10.cell? ⟨gb146, 2, none⟩ = some (.int .i64 a0_2) := (Yf BK146.out 2).trans rfl; have hcz11_3 : w10.cell? ⟨gb146, 3, none⟩ = some (.string a0_3) := (Yf BK146.out 3).trans rfl; have hcz11_4 : w10.cell? ⟨gb146, 4, none⟩ = some (.string a0_4) := (Yf BK146.out 4).trans rfl; have hcz11_5 : w10.cell? ⟨gb146, 5, none⟩ = some (.string a0_5) := (Yf BK146.out 5).trans rfl; have hcz11_6 : w10.cell? ⟨gb146, 6, none⟩ = some (.bool a0_6) := (Yf BK146.out 6).trans rfl; have hcz11_7 : w10.cell? ⟨gb146, 7, none⟩ = some (.bool a0_7) := (Yf BK146.out 7).trans rfl; have hfz11_0 := Yc BK146.out 0; have hfz11_1 := Yc BK146.out 1; have hfz11_2 := Yc BK146.out 2; have hfz11_3 := Yc BK146.out 3; have hfz11_4 := Yc BK146.out 4; have hfz11_5 := Yc BK146.out 5; have hfz11_6 := Yc BK146.out 6; have hfz11_7 := Yc BK146.out 7) | ((with_reducible refine Yi (f := 35) rfl ?_); refine Yp (some 16) rfl rfl Tryz.func35 Zg rfl #[.int .i64 a0_2] rfl Zb ?_; (with_reducible refine (Yrb.calls k a0_2 t147 _ ?side1 A7.out).mono ?_); (case side1 => first | exact HE.out | exact EnvOk.below HE.out Zu); rintro e w12 ⟨rfl, hb⟩; refine ⟨_, rfl, ?_⟩; have n0_ := Ya.mk (Yec (g := gb146) (o := .cells #[.string a0_0, .string a0_1, .int .i64 a0_2, .string a0_3, .string a0_4, .string a0_5, .bool a0_6, .bool a0_7] 81 (0, 0)) (by (with_reducible repeat (first | refine blk_drewN ?_ _ | refine Yra ?_ | refine Yca ?_ _)); exact BK146.out) hb); have n1_ := Ya.mk (Yn Zu hb); clear BK146; clear HB; have BK146 := n0_; have HB := n1_; clear n0_ n1_; (try clear hb); (try clear hb2); (try clear hk); (try clear hi)))
 go_ret
 exact ⟨Zj, Zu⟩
def Ymc.f (k : Nat) (a0_0 : ByteArray) (a0_1 : ByteArray) (a0_2 : Int) (a0_3 : ByteArray) (a0_4 : ByteArray) (a0_5 : ByteArray) (a0_6 : Bool) (a0_7 : Bool) : Option (ByteArray) := (Yoc.f k a0_0 a0_1 a0_2 a0_3 a0_4 a0_5 a0_6 a0_7).bind fun t149 => (if t149.size + a0_3.size ≤ 9223372036854775807 then (if a0_6 = true then (if 1 + a0_4.size ≤ 9223372036854775807 then (if (t149 ++ a0_3).size + ((⟨#[63]⟩ : ByteArray) ++ a0_4).size ≤ 9223372036854775807 then (if a0_7 = true then (if 1 + a0_5.size ≤ 9223372036854775807 then (if ((t149 ++ a0_3) ++ ((⟨#[63]⟩ : ByteArray) ++ a0_4)).size + ((⟨#[35]⟩ : ByteArray) ++ a0_5).size ≤ 9223372036854775807 then (some (((t149 ++ a0_3) ++ ((⟨#[63]⟩ : ByteArray) ++ a0_4)) ++ ((⟨#[35]⟩ : ByteArray) ++ a0_5))) else (none)) else (none)) else (some ((t149 ++ a0_3) ++ ((⟨#[63]⟩ : ByteArray) ++ a0_4)))) else (none)) else (none)) else (if a0_7 = true then (if 1 + a0_5.size ≤ 9223372036854775807 then (if (t149 ++ a0_3).size + ((⟨#[35]⟩ : ByteArray) ++ a0_5).size ≤ 9223372036854775807 then (some ((t149 ++ a0_3) ++ ((⟨#[35]⟩ : ByteArray) ++ a0_5))) else (none)) else (none)) else (some (t149 ++ a0_3)))) else (none))
set_option maxHeartbeats 8000000 in
set_option maxRecDepth 100000 in
theorem Ymc.calls (k : Nat) (a0_0 : ByteArray) (a0_1 : ByteArray) (a0_2 : Int) (a0_3 : ByteArray) (a0_4 : ByteArray) (a0_5 : ByteArray) (a0_6 : Bool) (a0_7 : Bool) (r : ByteArray) (w : World) (hE : EnvOk w) (h : Ymc.f k a0_0 a0_1 a0_2 a0_3 a0_4 a0_5 a0_6 a0_7 = some r) :
  Calls Tryz.prog 58 #[.agg #[.string a0_0, .string a0_1, .int .i64 a0_2, .string a0_3, .string a0_4, .string a0_5, .bool a0_6, .bool a0_7]] w fun e w' => e = .returned (.string r) ∧ Below w.heap.size w w' := by
 have hu81 := Tryz.underlying81
 have HE := Ya.mk hE
 clear hE
 have HB := Ya.mk (Below.refl w.heap.size w)
 have H : ((Yoc.f k a0_0 a0_1 a0_2 a0_3 a0_4 a0_5 a0_6 a0_7).bind fun t149 => (if t149.size + a0_3.size ≤ 9223372036854775807 then (if a0_6 = true then (if 1 + a0_4.size ≤ 9223372036854775807 then (if (t149 ++ a0_3).size + ((⟨#[63]⟩ : ByteArray) ++ a0_4).size ≤ 9223372036854775807 then (if a0_7 = true then (if 1 + a0_5.size ≤ 9223372036854775807 then (if ((t149 ++ a0_3) ++ ((⟨#[63]⟩ : ByteArray) ++ a0_4)).size + ((⟨#[35]⟩ : ByteArray) ++ a0_5).size ≤ 9223372036854775807 then (some (((t149 ++ a0_3) ++ ((⟨#[63]⟩ : ByteArray) ++ a0_4)) ++ ((⟨#[35]⟩ : ByteArray) ++ a0_5))) else (none)) else (none)) else (some ((t149 ++ a0_3) ++ ((⟨#[63]⟩ : ByteArray) ++ a0_4)))) else (none)) else (none)) else (if a0_7 = true then (if 1 + a0_5.size ≤ 9223372036854775807 then (if (t149 ++ a0_3).size + ((⟨#[35]⟩ : ByteArray) ++ a0_5).size ≤ 9223372036854775807 then (some ((t149 ++ a0_3) ++ ((⟨#[35]⟩ : ByteArray) ++ a0_5))) else (none)) else (none)) else (some (t149 ++ a0_3)))) else (none))) = some r := h
 clear h
 replace H := Option.bind_eq_some_iff.mp H
 obtain ⟨t149, A20, H⟩ := H
 try dsimp -simprocs only at H
 have A2 := Ya.mk A20
 clear A20
 by_cases c3 : t149.size + a0_3.size ≤ 9223372036854775807
 rotate_left
 ·rw [if_neg c3] at H
  exact absurd H Zy
 rw [if_pos c3] at H
 have c3b0 := eq_true c3
 have c3b1 : decide (t149.size + a0_3.size ≤ 9223372036854775807) = true := decide_eq_true c3
 try have c3b2 : (9223372036854775807 < t149.size + a0_3.size) = False := eq_false (Nat.not_lt.2 c3)
 by_cases c4 : a0_6 = true
 rotate_left
 ·replace c4 := Bool.eq_false_iff.mpr c4
  subst c4
  rw [if_neg (show ¬ (false = true) by decide)] at H
  by_cases c18 : a0_7 = true
  rotate_left
  ·replace c18 := Bool.eq_false_iff.mpr c18
   subst c18
   rw [if_neg (show ¬ (false = true) by decide)] at H
   obtain rfl := Option.some.inj H
   go_enter Tryz.func58, Tryz.ntmps58
   try go_wp2_with (first | ((with_reducible refine Yld (N := 1) rfl ?_); refine Ytc ?hg (N := 1) ?hd (cs := #[.string a0_0, .string a0_1, .int .i64 a0_2, .string a0_3, .string a0_4, .string a0_5, .bool false, .bool false]) (t := 81) ?hr ?_; (case hd => rfl); (case hg => rfl); (case hr => first | (go_simp; done) | (go_simp; rfl)); intro gb148 hg w25 hbox hb; have n0_ := Ya.mk (Yn Zc hb); have n1_ := Ya.mk (hbox); have n2_ := Ya.mk ((by rw [hg]; exact (Yfa Zc) : w.heap.size ≤ gb148)); have n3_ := Ya.mk ((by rw [hg]; exact (Yfa Zc) : w.heap.size ≤ gb148)); clear HB; have HB := n0_; have BK148 := n1_; have GW148 := n2_; have GE148 := n3_; clear n0_ n1_ n2_ n3_; clear hb hbox hg))
   have n0_ := Ya.mk (Yra BK148.out)
   have n1_ := Ya.mk (Yd HB.out)
   clear BK148
   clear HB
   have BK148 := n0_
   have HB := n1_
   clear n0_ n1_
   refine Ypi (n := 6) (S := fun w' => w'.cell? ⟨gb148, 0, none⟩ = some (.string a0_0) ∧ w'.cell? ⟨gb148, 1, none⟩ = some (.string a0_1) ∧ w'.cell? ⟨gb148, 2, none⟩ = some (.int .i64 a0_2) ∧ w'.cell? ⟨gb148, 3, none⟩ = some (.string a0_3) ∧ w'.cell? ⟨gb148, 4, none⟩ = some (.string a0_4) ∧ w'.cell? ⟨gb148, 5, none⟩ = some (.string a0_5) ∧ w'.cell? ⟨gb148, 6, none⟩ = some (.bool false) ∧ w'.cell? ⟨gb148, 7, none⟩ = some (.bool false)) (ds := []) #[false, false, false, false, false, false] Zg rfl rfl ⟨(Yf BK148.out 0).trans rfl, (Yf BK148.out 1).trans rfl, (Yf BK148.out 2).trans rfl, (Yf BK148.out 3).trans rfl, (Yf BK148.out 4).trans rfl, (Yf BK148.out 5).trans rfl, (Yf BK148.out 6).trans rfl, (Yf BK148.out 7).trans rfl⟩ (fun hHeld => ?_)
   generalize w25.drew = w26 at BK148 HB hHeld ⊢
   refine Yuc (i := 2) (N := some 6) (v := ?_) (a' := ?_) #[false, false, true, false, false, false] rfl rfl Zg (fun _ _ _ h => h) (Or.inl ⟨Zja, ?_⟩) ?_ ?_
   rotate_left
   ·exact Zva
   rotate_left
   ·exact Zwa
   refine Yhg (i := 0) (N := some 4) (v := ?_) (a' := ?_) #[true, false, true, false, false, false] rfl rfl Zg (fun _ _ _ h => h) (Or.inl ⟨Zja, ?_⟩) hHeld ?_ ?_
   rotate_left
   ·exact Zxa
   rotate_left
   ·exact Zwa
   refine Yhg (i := 3) (N := some 7) (v := ?_) (a' := ?_) #[true, false, true, true, false, false] rfl rfl Zg (fun _ _ _ h => h) (Or.inl ⟨Zja, ?_⟩) hHeld ?_ ?_
   rotate_left
   ·exact Zxa
   rotate_left
   ·exact Zwa
   refine one_ (i := 1) (N := some 5) #[true, true, true, true, false, false] rfl rfl Zg Zq (fun K hK => ?_)
   refine Yxl Tryz.func83 Zg rfl #[.agg #[.string a0_0, .string a0_1, .int .i64 a0_2, .string a0_3, .string a0_4, .string a0_5, .bool false, .bool false]] Zja rfl rfl Zb ?_
   with_reducible refine (Yoc.calls k a0_0 a0_1 a0_2 a0_3 a0_4 a0_5 false false t149 _ ?side1 A2.out).mono ?_
   (case side1 => first | exact HE.out | exact EnvOk.below HE.out Zm)
   rintro e w27 ⟨rfl, hb⟩
   refine ⟨_, rfl, ?_⟩
   have n0_ := Ya.mk (Yec (g := gb148) (o := .cells #[.string a0_0, .string a0_1, .int .i64 a0_2, .string a0_3, .string a0_4, .string a0_5, .bool false, .bool false] 81 (0, 0)) Zw hb)
   have n1_ := Ya.mk (Yn Zm hb)
   clear BK148
   clear HB
   have BK148 := n0_
   have HB := n1_
   clear n0_ n1_
   (try clear hb)
   (try clear hb2)
   (try clear hk)
   (try clear hi)
   refine hK.out _ _ ⟨(Yf BK148.out 0).trans rfl, (Yf BK148.out 1).trans rfl, (Yf BK148.out 2).trans rfl, (Yf BK148.out 3).trans rfl, (Yf BK148.out 4).trans rfl, (Yf BK148.out 5).trans rfl, (Yf BK148.out 6).trans rfl, (Yf BK148.out 7).trans rfl⟩ (fun hHeld => ?_)
   clear hK K
   refine Ysl (a' := ?_) ?_ ?_
   rotate_left
   ·show Act.put _ (some 5) _ = _
    simp only [Act.put, List.setIfInBounds_toArray, List.set_cons_zero, List.set_cons_succ, Yza, Yab]
    rfl
   refine Yuc (i := 4) (N := some 8) (v := ?_) (a' := ?_) #[true, true, true, true, true, false] rfl rfl Zg (fun _ _ _ h => h) (Or.inl ⟨Zja, ?_⟩) ?_ ?_
   rotate_left
   ·exact Zva
   rotate_left
   ·exact Zwa
   refine Yuc (i := 5) (N := some 3) (v := ?_) (a' := ?_) #[true, true, true, true, true, true] rfl rfl Zg (fun _ _ _ h => h) (Or.inl ⟨Zja, ?_⟩) ?_ ?_
   rotate_left
   ·exact Zva
   rotate_left
   ·exact Zwa
   refine Ywl Zg ?_
   have hcz28_0 : w27.cell? ⟨gb148, 0, none⟩ = some (.string a0_0) := (Yf BK148.out 0).trans rfl
   have hcz28_1 : w27.cell? ⟨gb148, 1, none⟩ = some (.string a0_1) := (Yf BK148.out 1).trans rfl
   have hcz28_2 : w27.cell? ⟨gb148, 2, none⟩ = some (.int .i64 a0_2) := (Yf BK148.out 2).trans rfl
   have hcz28_3 : w27.cell? ⟨gb148, 3, none⟩ = some (.string a0_3) := (Yf BK148.out 3).trans rfl
   have hcz28_4 : w27.cell? ⟨gb148, 4, none⟩ = some (.string a0_4) := (Yf BK148.out 4).trans rfl
   have hcz28_5 : w27.cell? ⟨gb148, 5, none⟩ = some (.string a0_5) := (Yf BK148.out 5).trans rfl
   have hcz28_6 : w27.cell? ⟨gb148, 6, none⟩ = some (.bool false) := (Yf BK148.out 6).trans rfl
   have hcz28_7 : w27.cell? ⟨gb148, 7, none⟩ = some (.bool false) := (Yf BK148.out 7).trans rfl
   have hfz28_0 := Yc BK148.out 0
   have hfz28_1 := Yc BK148.out 1
   have hfz28_2 := Yc BK148.out 2
   have hfz28_3 := Yc BK148.out 3
   have hfz28_4 := Yc BK148.out 4
   have hfz28_5 := Yc BK148.out 5
   have hfz28_6 := Yc BK148.out 6
   have hfz28_7 := Yc BK148.out 7
   try go_wp2
   go_ret
   exact ⟨Zj, Zm⟩
  subst c18
  rw [if_pos rfl] at H
  by_cases c19 : 1 + a0_5.size ≤ 9223372036854775807
  rotate_left
  ·rw [if_neg c19] at H
   exact absurd H Zy
  rw [if_pos c19] at H
  have c19b0 := eq_true c19
  have c19b1 : decide (1 + a0_5.size ≤ 9223372036854775807) = true := decide_eq_true c19
  try have c19b2 : (9223372036854775807 < 1 + a0_5.size) = False := eq_false (Nat.not_lt.2 c19)
  by_cases c20 : (t149 ++ a0_3).size + ((⟨#[35]⟩ : ByteArray) ++ a0_5).size ≤ 9223372036854775807
  rotate_left
  ·rw [if_neg c20] at H
   exact absurd H Zy
  rw [if_pos c20] at H
  have c20b0 := eq_true c20
  have c20b1 : decide ((t149 ++ a0_3).size + ((⟨#[35]⟩ : ByteArray) ++ a0_5).size ≤ 9223372036854775807) = true := decide_eq_true c20
  try have c20b2 : (9223372036854775807 < (t149 ++ a0_3).size + ((⟨#[35]⟩ : ByteArray) ++ a0_5).size) = False := eq_false (Nat.not_lt.2 c20)
  obtain rfl := Option.some.inj H
  go_enter Tryz.func58, Tryz.ntmps58
  try go_wp2_with (first | ((with_reducible refine Yld (N := 1) rfl ?_); refine Ytc ?hg (N := 1) ?hd (cs := #[.string a0_0, .string a0_1, .int .i64 a0_2, .string a0_3, .string a0_4, .string a0_5, .bool false, .bool true]) (t := 81) ?hr ?_; (case hd => rfl); (case hg => rfl); (case hr => first | (go_simp; done) | (go_simp; rfl)); intro gb148 hg w21 hbox hb; have n0_ := Ya.mk (Yn Zc hb); have n1_ := Ya.mk (hbox); have n2_ := Ya.mk ((by rw [hg]; exact (Yfa Zc) : w.heap.size ≤ gb148)); have n3_ := Ya.mk ((by rw [hg]; exact (Yfa Zc) : w.heap.size ≤ gb148)); clear HB; have HB := n0_; have BK148 := n1_; have GW148 := n2_; have GE148 := n3_; clear n0_ n1_ n2_ n3_; clear hb hbox hg))
  have n0_ := Ya.mk (Yra BK148.out)
  have n1_ := Ya.mk (Yd HB.out)
  clear BK148
  clear HB
  have BK148 := n0_
  have HB := n1_
  clear n0_ n1_
  refine Ypi (n := 6) (S := fun w' => w'.cell? ⟨gb148, 0, none⟩ = some (.string a0_0) ∧ w'.cell? ⟨gb148, 1, none⟩ = some (.string a0_1) ∧ w'.cell? ⟨gb148, 2, none⟩ = some (.int .i64 a0_2) ∧ w'.cell? ⟨gb148, 3, none⟩ = some (.string a0_3) ∧ w'.cell? ⟨gb148, 4, none⟩ = some (.string a0_4) ∧ w'.cell? ⟨gb148, 5, none⟩ = some (.string a0_5) ∧ w'.cell? ⟨gb148, 6, none⟩ = some (.bool false) ∧ w'.cell? ⟨gb148, 7, none⟩ = some (.bool true)) (ds := []) #[false, false, false, false, false, false] Zg rfl rfl ⟨(Yf BK148.out 0).trans rfl, (Yf BK148.out 1).trans rfl, (Yf BK148.out 2).trans rfl, (Yf BK148.out 3).trans rfl, (Yf BK148.out 4).trans rfl, (Yf BK148.out 5).trans rfl, (Yf BK148.out 6).trans rfl, (Yf BK148.out 7).trans rfl⟩ (fun hHeld => ?_)
  generalize w21.drew = w22 at BK148 HB hHeld ⊢
  refine Yuc (i := 2) (N := some 6) (v := ?_) (a' := ?_) #[false, false, true, false, false, false] rfl rfl Zg (fun _ _ _ h => h) (Or.inl ⟨Zja, ?_⟩) ?_ ?_
  rotate_left
  ·exact Zva
  rotate_left
  ·exact Zwa
  refine Yhg (i := 0) (N := some 4) (v := ?_) (a' := ?_) #[true, false, true, false, false, false] rfl rfl Zg (fun _ _ _ h => h) (Or.inl ⟨Zja, ?_⟩) hHeld ?_ ?_
  rotate_left
  ·exact Zxa
  rotate_left
  ·exact Zwa
  refine Yhg (i := 3) (N := some 7) (v := ?_) (a' := ?_) #[true, false, true, true, false, false] rfl rfl Zg (fun _ _ _ h => h) (Or.inl ⟨Zja, ?_⟩) hHeld ?_ ?_
  rotate_left
  ·exact Zxa
  rotate_left
  ·exact Zwa
  refine one_ (i := 1) (N := some 5) #[true, true, true, true, false, false] rfl rfl Zg Zq (fun K hK => ?_)
  refine Yxl Tryz.func83 Zg rfl #[.agg #[.string a0_0, .string a0_1, .int .i64 a0_2, .string a0_3, .string a0_4, .string a0_5, .bool false, .bool true]] Zja rfl rfl Zb ?_
  with_reducible refine (Yoc.calls k a0_0 a0_1 a0_2 a0_3 a0_4 a0_5 false true t149 _ ?side1 A2.out).mono ?_
  (case side1 => first | exact HE.out | exact EnvOk.below HE.out Zm)
  rintro e w23 ⟨rfl, hb⟩
  refine ⟨_, rfl, ?_⟩
  have n0_ := Ya.mk (Yec (g := gb148) (o := .cells #[.string a0_0, .string a0_1, .int .i64 a0_2, .string a0_3, .string a0_4, .string a0_5, .bool false, .bool true] 81 (0, 0)) Zw hb)
  have n1_ := Ya.mk (Yn Zm hb)
  clear BK148
  clear HB
  have BK148 := n0_
  have HB := n1_
  clear n0_ n1_
  (try clear hb)
  (try clear hb2)
  (try clear hk)
  (try clear hi)
  refine hK.out _ _ ⟨(Yf BK148.out 0).trans rfl, (Yf BK148.out 1).trans rfl, (Yf BK148.out 2).trans rfl, (Yf BK148.out 3).trans rfl, (Yf BK148.out 4).trans rfl, (Yf BK148.out 5).trans rfl, (Yf BK148.out 6).trans rfl, (Yf BK148.out 7).trans rfl⟩ (fun hHeld => ?_)
  clear hK K
  refine Ysl (a' := ?_) ?_ ?_
  rotate_left
  ·show Act.put _ (some 5) _ = _
   simp only [Act.put, List.setIfInBounds_toArray, List.set_cons_zero, List.set_cons_succ, Yza, Yab]
   rfl
  refine Yuc (i := 4) (N := some 8) (v := ?_) (a' := ?_) #[true, true, true, true, true, false] rfl rfl Zg (fun _ _ _ h => h) (Or.inl ⟨Zja, ?_⟩) ?_ ?_
  rotate_left
  ·exact Zva
  rotate_left
  ·exact Zwa
  refine Yuc (i := 5) (N := some 3) (v := ?_) (a' := ?_) #[true, true, true, true, true, true] rfl rfl Zg (fun _ _ _ h => h) (Or.inl ⟨Zja, ?_⟩) ?_ ?_
  rotate_left
  ·exact Zva
  rotate_left
  ·exact Zwa
  refine Ywl Zg ?_
  have hcz24_0 : w23.cell? ⟨gb148, 0, none⟩ = some (.string a0_0) := (Yf BK148.out 0).trans rfl
  have hcz24_1 : w23.cell? ⟨gb148, 1, none⟩ = some (.string a0_1) := (Yf BK148.out 1).trans rfl
  have hcz24_2 : w23.cell? ⟨gb148, 2, none⟩ = some (.int .i64 a0_2) := (Yf BK148.out 2).trans rfl
  have hcz24_3 : w23.cell? ⟨gb148, 3, none⟩ = some (.string a0_3) := (Yf BK148.out 3).trans rfl
  have hcz24_4 : w23.cell? ⟨gb148, 4, none⟩ = some (.string a0_4) := (Yf BK148.out 4).trans rfl
  have hcz24_5 : w23.cell? ⟨gb148, 5, none⟩ = some (.string a0_5) := (Yf BK148.out 5).trans rfl
  have hcz24_6 : w23.cell? ⟨gb148, 6, none⟩ = some (.bool false) := (Yf BK148.out 6).trans rfl
  have hcz24_7 : w23.cell? ⟨gb148, 7, none⟩ = some (.bool true) := (Yf BK148.out 7).trans rfl
  have hfz24_0 := Yc BK148.out 0
  have hfz24_1 := Yc BK148.out 1
  have hfz24_2 := Yc BK148.out 2
  have hfz24_3 := Yc BK148.out 3
  have hfz24_4 := Yc BK148.out 4
  have hfz24_5 := Yc BK148.out 5
  have hfz24_6 := Yc BK148.out 6
  have hfz24_7 := Yc BK148.out 7
  try go_wp2
  go_ret
  exact ⟨Zj, Zm⟩
 subst c4
 rw [if_pos rfl] at H
 by_cases c5 : 1 + a0_4.size ≤ 9223372036854775807
 rotate_left
 ·rw [if_neg c5] at H
  exact absurd H Zy
 rw [if_pos c5] at H
 have c5b0 := eq_true c5
 have c5b1 : decide (1 + a0_4.size ≤ 9223372036854775807) = true := decide_eq_true c5
 try have c5b2 : (9223372036854775807 < 1 + a0_4.size) = False := eq_false (Nat.not_lt.2 c5)
 by_cases c6 : (t149 ++ a0_3).size + ((⟨#[63]⟩ : ByteArray) ++ a0_4).size ≤ 9223372036854775807
 rotate_left
 ·rw [if_neg c6] at H
  exact absurd H Zy
 rw [if_pos c6] at H
 have c6b0 := eq_true c6
 have c6b1 : decide ((t149 ++ a0_3).size + ((⟨#[63]⟩ : ByteArray) ++ a0_4).size ≤ 9223372036854775807) = true := decide_eq_true c6
 try have c6b2 : (9223372036854775807 < (t149 ++ a0_3).size + ((⟨#[63]⟩ : ByteArray) ++ a0_4).size) = False := eq_false (Nat.not_lt.2 c6)
 by_cases c7 : a0_7 = true
 rotate_left
 ·replace c7 := Bool.eq_false_iff.mpr c7
  subst c7
  rw [if_neg (show ¬ (false = true) by decide)] at H
  obtain rfl := Option.some.inj H
  go_enter Tryz.func58, Tryz.ntmps58
  try go_wp2_with (first | ((with_reducible refine Yld (N := 1) rfl ?_); refine Ytc ?hg (N := 1) ?hd (cs := #[.string a0_0, .string a0_1, .int .i64 a0_2, .string a0_3, .string a0_4, .string a0_5, .bool true, .bool false]) (t := 81) ?hr ?_; (case hd => rfl); (case hg => rfl); (case hr => first | (go_simp; done) | (go_simp; rfl)); intro gb148 hg w14 hbox hb; have n0_ := Ya.mk (Yn Zc hb); have n1_ := Ya.mk (hbox); have n2_ := Ya.mk ((by rw [hg]; exact (Yfa Zc) : w.heap.size ≤ gb148)); have n3_ := Ya.mk ((by rw [hg]; exact (Yfa Zc) : w.heap.size ≤ gb148)); clear HB; have HB := n0_; have BK148 := n1_; have GW148 := n2_; have GE148 := n3_; clear n0_ n1_ n2_ n3_; clear hb hbox hg))
  have n0_ := Ya.mk (Yra BK148.out)
  have n1_ := Ya.mk (Yd HB.out)
  clear BK148
  clear HB
  have BK148 := n0_
  have HB := n1_
  clear n0_ n1_
  refine Ypi (n := 6) (S := fun w' => w'.cell? ⟨gb148, 0, none⟩ = some (.string a0_0) ∧ w'.cell? ⟨gb148, 1, none⟩ = some (.string a0_1) ∧ w'.cell? ⟨gb148, 2, none⟩ = some (.int .i64 a0_2) ∧ w'.cell? ⟨gb148, 3, none⟩ = some (.string a0_3) ∧ w'.cell? ⟨gb148, 4, none⟩ = some (.string a0_4) ∧ w'.cell? ⟨gb148, 5, none⟩ = some (.string a0_5) ∧ w'.cell? ⟨gb148, 6, none⟩ = some (.bool true) ∧ w'.cell? ⟨gb148, 7, none⟩ = some (.bool false)) (ds := []) #[false, false, false, false, false, false] Zg rfl rfl ⟨(Yf BK148.out 0).trans rfl, (Yf BK148.out 1).trans rfl, (Yf BK148.out 2).trans rfl, (Yf BK148.out 3).trans rfl, (Yf BK148.out 4).trans rfl, (Yf BK148.out 5).trans rfl, (Yf BK148.out 6).trans rfl, (Yf BK148.out 7).trans rfl⟩ (fun hHeld => ?_)
  generalize w14.drew = w15 at BK148 HB hHeld ⊢
  refine Yuc (i := 2) (N := some 6) (v := ?_) (a' := ?_) #[false, false, true, false, false, false] rfl rfl Zg (fun _ _ _ h => h) (Or.inl ⟨Zja, ?_⟩) ?_ ?_
  rotate_left
  ·exact Zva
  rotate_left
  ·exact Zwa
  refine Yhg (i := 0) (N := some 4) (v := ?_) (a' := ?_) #[true, false, true, false, false, false] rfl rfl Zg (fun _ _ _ h => h) (Or.inl ⟨Zja, ?_⟩) hHeld ?_ ?_
  rotate_left
  ·exact Zxa
  rotate_left
  ·exact Zwa
  refine Yhg (i := 3) (N := some 7) (v := ?_) (a' := ?_) #[true, false, true, true, false, false] rfl rfl Zg (fun _ _ _ h => h) (Or.inl ⟨Zja, ?_⟩) hHeld ?_ ?_
  rotate_left
  ·exact Zxa
  rotate_left
  ·exact Zwa
  refine one_ (i := 1) (N := some 5) #[true, true, true, true, false, false] rfl rfl Zg Zq (fun K hK => ?_)
  refine Yxl Tryz.func83 Zg rfl #[.agg #[.string a0_0, .string a0_1, .int .i64 a0_2, .string a0_3, .string a0_4, .string a0_5, .bool true, .bool false]] Zja rfl rfl Zb ?_
  with_reducible refine (Yoc.calls k a0_0 a0_1 a0_2 a0_3 a0_4 a0_5 true false t149 _ ?side1 A2.out).mono ?_
  (case side1 => first | exact HE.out | exact EnvOk.below HE.out Zm)
  rintro e w16 ⟨rfl, hb⟩
  refine ⟨_, rfl, ?_⟩
  have n0_ := Ya.mk (Yec (g := gb148) (o := .cells #[.string a0_0, .string a0_1, .int .i64 a0_2, .string a0_3, .string a0_4, .string a0_5, .bool true, .bool false] 81 (0, 0)) Zw hb)
  have n1_ := Ya.mk (Yn Zm hb)
  clear BK148
  clear HB
  have BK148 := n0_
  have HB := n1_
  clear n0_ n1_
  (try clear hb)
  (try clear hb2)
  (try clear hk)
  (try clear hi)
  refine hK.out _ _ ⟨(Yf BK148.out 0).trans rfl, (Yf BK148.out 1).trans rfl, (Yf BK148.out 2).trans rfl, (Yf BK148.out 3).trans rfl, (Yf BK148.out 4).trans rfl, (Yf BK148.out 5).trans rfl, (Yf BK148.out 6).trans rfl, (Yf BK148.out 7).trans rfl⟩ (fun hHeld => ?_)
  clear hK K
  refine Ysl (a' := ?_) ?_ ?_
  rotate_left
  ·show Act.put _ (some 5) _ = _
   simp only [Act.put, List.setIfInBounds_toArray, List.set_cons_zero, List.set_cons_succ, Yza, Yab]
   rfl
  refine Yuc (i := 4) (N := some 8) (v := ?_) (a' := ?_) #[true, true, true, true, true, false] rfl rfl Zg (fun _ _ _ h => h) (Or.inl ⟨Zja, ?_⟩) ?_ ?_
  rotate_left
  ·exact Zva
  rotate_left
  ·exact Zwa
  refine Yuc (i := 5) (N := some 3) (v := ?_) (a' := ?_) #[true, true, true, true, true, true] rfl rfl Zg (fun _ _ _ h => h) (Or.inl ⟨Zja, ?_⟩) ?_ ?_
  rotate_left
  ·exact Zva
  rotate_left
  ·exact Zwa
  refine Ywl Zg ?_
  have hcz17_0 : w16.cell? ⟨gb148, 0, none⟩ = some (.string a0_0) := (Yf BK148.out 0).trans rfl
  have hcz17_1 : w16.cell? ⟨gb148, 1, none⟩ = some (.string a0_1) := (Yf BK148.out 1).trans rfl
  have hcz17_2 : w16.cell? ⟨gb148, 2, none⟩ = some (.int .i64 a0_2) := (Yf BK148.out 2).trans rfl
  have hcz17_3 : w16.cell? ⟨gb148, 3, none⟩ = some (.string a0_3) := (Yf BK148.out 3).trans rfl
  have hcz17_4 : w16.cell? ⟨gb148, 4, none⟩ = some (.string a0_4) := (Yf BK148.out 4).trans rfl
  have hcz17_5 : w16.cell? ⟨gb148, 5, none⟩ = some (.string a0_5) := (Yf BK148.out 5).trans rfl
  have hcz17_6 : w16.cell? ⟨gb148, 6, none⟩ = some (.bool true) := (Yf BK148.out 6).trans rfl
  have hcz17_7 : w16.cell? ⟨gb148, 7, none⟩ = some (.bool false) := (Yf BK148.out 7).trans rfl
  have hfz17_0 := Yc BK148.out 0
  have hfz17_1 := Yc BK148.out 1
  have hfz17_2 := Yc BK148.out 2
  have hfz17_3 := Yc BK148.out 3
  have hfz17_4 := Yc BK148.out 4
  have hfz17_5 := Yc BK148.out 5
  have hfz17_6 := Yc BK148.out 6
  have hfz17_7 := Yc BK148.out 7
  try go_wp2
  go_ret
  exact ⟨Zj, Zm⟩
 subst c7
 rw [if_pos rfl] at H
 by_cases c8 : 1 + a0_5.size ≤ 9223372036854775807
 rotate_left
 ·rw [if_neg c8] at H
  exact absurd H Zy
 rw [if_pos c8] at H
 have c8b0 := eq_true c8
 have c8b1 : decide (1 + a0_5.size ≤ 9223372036854775807) = true := decide_eq_true c8
 try have c8b2 : (9223372036854775807 < 1 + a0_5.size) = False := eq_false (Nat.not_lt.2 c8)
 by_cases c9 : ((t149 ++ a0_3) ++ ((⟨#[63]⟩ : ByteArray) ++ a0_4)).size + ((⟨#[35]⟩ : ByteArray) ++ a0_5).size ≤ 9223372036854775807
 rotate_left
 ·rw [if_neg c9] at H
  exact absurd H Zy
 rw [if_pos c9] at H
 have c9b0 := eq_true c9
 have c9b1 : decide (((t149 ++ a0_3) ++ ((⟨#[63]⟩ : ByteArray) ++ a0_4)).size + ((⟨#[35]⟩ : ByteArray) ++ a0_5).size ≤ 9223372036854775807) = true := decide_eq_true c9
 try have c9b2 : (9223372036854775807 < ((t149 ++ a0_3) ++ ((⟨#[63]⟩ : ByteArray) ++ a0_4)).size + ((⟨#[35]⟩ : ByteArray) ++ a0_5).size) = False := eq_false (Nat.not_lt.2 c9)
 obtain rfl := Option.some.inj H
 go_enter Tryz.func58, Tryz.ntmps58
 try go_wp2_with (first | ((with_reducible refine Yld (N := 1) rfl ?_); refine Ytc ?hg (N := 1) ?hd (cs := #[.string a0_0, .string a0_1, .int .i64 a0_2, .string a0_3, .string a0_4, .string a0_5, .bool true, .bool true]) (t := 81) ?hr ?_; (case hd => rfl); (case hg => rfl); (case hr => first | (go_simp; done) | (go_simp; rfl)); intro gb148 hg w10 hbox hb; have n0_ := Ya.mk (Yn Zc hb); have n1_ := Ya.mk (hbox); have n2_ := Ya.mk ((by rw [hg]; exact (Yfa Zc) : w.heap.size ≤ gb148)); have n3_ := Ya.mk ((by rw [hg]; exact (Yfa Zc) : w.heap.size ≤ gb148)); clear HB; have HB := n0_; have BK148 := n1_; have GW148 := n2_; have GE148 := n3_; clear n0_ n1_ n2_ n3_; clear hb hbox hg))
 have n0_ := Ya.mk (Yra BK148.out)
 have n1_ := Ya.mk (Yd HB.out)
 clear BK148
 clear HB
 have BK148 := n0_
 have HB := n1_
 clear n0_ n1_
 refine Ypi (n := 6) (S := fun w' => w'.cell? ⟨gb148, 0, none⟩ = some (.string a0_0) ∧ w'.cell? ⟨gb148, 1, none⟩ = some (.string a0_1) ∧ w'.cell? ⟨gb148, 2, none⟩ = some (.int .i64 a0_2) ∧ w'.cell? ⟨gb148, 3, none⟩ = some (.string a0_3) ∧ w'.cell? ⟨gb148, 4, none⟩ = some (.string a0_4) ∧ w'.cell? ⟨gb148, 5, none⟩ = some (.string a0_5) ∧ w'.cell? ⟨gb148, 6, none⟩ = some (.bool true) ∧ w'.cell? ⟨gb148, 7, none⟩ = some (.bool true)) (ds := []) #[false, false, false, false, false, false] Zg rfl rfl ⟨(Yf BK148.out 0).trans rfl, (Yf BK148.out 1).trans rfl, (Yf BK148.out 2).trans rfl, (Yf BK148.out 3).trans rfl, (Yf BK148.out 4).trans rfl, (Yf BK148.out 5).trans rfl, (Yf BK148.out 6).trans rfl, (Yf BK148.out 7).trans rfl⟩ (fun hHeld => ?_)
 generalize w10.drew = w11 at BK148 HB hHeld ⊢
 refine Yuc (i := 2) (N := some 6) (v := ?_) (a' := ?_) #[false, false, true, false, false, false] rfl rfl Zg (fun _ _ _ h => h) (Or.inl ⟨Zja, ?_⟩) ?_ ?_
 rotate_left
 ·exact Zva
 rotate_left
 ·exact Zwa
 refine Yhg (i := 0) (N := some 4) (v := ?_) (a' := ?_) #[true, false, true, false, false, false] rfl rfl Zg (fun _ _ _ h => h) (Or.inl ⟨Zja, ?_⟩) hHeld ?_ ?_
 rotate_left
 ·exact Zxa
 rotate_left
 ·exact Zwa
 refine Yhg (i := 3) (N := some 7) (v := ?_) (a' := ?_) #[true, false, true, true, false, false] rfl rfl Zg (fun _ _ _ h => h) (Or.inl ⟨Zja, ?_⟩) hHeld ?_ ?_
 rotate_left
 ·exact Zxa
 rotate_left
 ·exact Zwa
 refine one_ (i := 1) (N := some 5) #[true, true, true, true, false, false] rfl rfl Zg Zq (fun K hK => ?_)
 refine Yxl Tryz.func83 Zg rfl #[.agg #[.string a0_0, .string a0_1, .int .i64 a0_2, .string a0_3, .string a0_4, .string a0_5, .bool true, .bool true]] Zja rfl rfl Zb ?_
 with_reducible refine (Yoc.calls k a0_0 a0_1 a0_2 a0_3 a0_4 a0_5 true true t149 _ ?side1 A2.out).mono ?_
 (case side1 => first | exact HE.out | exact EnvOk.below HE.out Zm)
 rintro e w12 ⟨rfl, hb⟩
 refine ⟨_, rfl, ?_⟩
 have n0_ := Ya.mk (Yec (g := gb148) (o := .cells #[.string a0_0, .string a0_1, .int .i64 a0_2, .string a0_3, .string a0_4, .string a0_5, .bool true, .bool true] 81 (0, 0)) Zw hb)
 have n1_ := Ya.mk (Yn Zm hb)
 clear BK148
 clear HB
 have BK148 := n0_
 have HB := n1_
 clear n0_ n1_
 (try clear hb)
 (try clear hb2)
 (try clear hk)
 (try clear hi)
 refine hK.out _ _ ⟨(Yf BK148.out 0).trans rfl, (Yf BK148.out 1).trans rfl, (Yf BK148.out 2).trans rfl, (Yf BK148.out 3).trans rfl, (Yf BK148.out 4).trans rfl, (Yf BK148.out 5).trans rfl, (Yf BK148.out 6).trans rfl, (Yf BK148.out 7).trans rfl⟩ (fun hHeld => ?_)
 clear hK K
 refine Ysl (a' := ?_) ?_ ?_
 rotate_left
 ·show Act.put _ (some 5) _ = _
  simp only [Act.put, List.setIfInBounds_toArray, List.set_cons_zero, List.set_cons_succ, Yza, Yab]
  rfl
 refine Yuc (i := 4) (N := some 8) (v := ?_) (a' := ?_) #[true, true, true, true, true, false] rfl rfl Zg (fun _ _ _ h => h) (Or.inl ⟨Zja, ?_⟩) ?_ ?_
 rotate_left
 ·exact Zva
 rotate_left
 ·exact Zwa
 refine Yuc (i := 5) (N := some 3) (v := ?_) (a' := ?_) #[true, true, true, true, true, true] rfl rfl Zg (fun _ _ _ h => h) (Or.inl ⟨Zja, ?_⟩) ?_ ?_
 rotate_left
 ·exact Zva
 rotate_left
 ·exact Zwa
 refine Ywl Zg ?_
 have hcz13_0 : w12.cell? ⟨gb148, 0, none⟩ = some (.string a0_0) := (Yf BK148.out 0).trans rfl
 have hcz13_1 : w12.cell? ⟨gb148, 1, none⟩ = some (.string a0_1) := (Yf BK148.out 1).trans rfl
 have hcz13_2 : w12.cell? ⟨gb148, 2, none⟩ = some (.int .i64 a0_2) := (Yf BK148.out 2).trans rfl
 have hcz13_3 : w12.cell? ⟨gb148, 3, none⟩ = some (.string a0_3) := (Yf BK148.out 3).trans rfl
 have hcz13_4 : w12.cell? ⟨gb148, 4, none⟩ = some (.string a0_4) := (Yf BK148.out 4).trans rfl
 have hcz13_5 : w12.cell? ⟨gb148, 5, none⟩ = some (.string a0_5) := (Yf BK148.out 5).trans rfl
 have hcz13_6 : w12.cell? ⟨gb148, 6, none⟩ = some (.bool true) := (Yf BK148.out 6).trans rfl
 have hcz13_7 : w12.cell? ⟨gb148, 7, none⟩ = some (.bool true) := (Yf BK148.out 7).trans rfl
 have hfz13_0 := Yc BK148.out 0
 have hfz13_1 := Yc BK148.out 1
 have hfz13_2 := Yc BK148.out 2
 have hfz13_3 := Yc BK148.out 3
 have hfz13_4 := Yc BK148.out 4
 have hfz13_5 := Yc BK148.out 5
 have hfz13_6 := Yc BK148.out 6
 have hfz13_7 := Yc BK148.out 7
 try go_wp2
 go_ret
 exact ⟨Zj, Zm⟩
def Yxf.f (a0_0 : ByteArray) (a0_1 : ByteArray) (a0_2 : Int) (a0_3 : ByteArray) (a0_4 : ByteArray) (a0_5 : ByteArray) (a0_6 : Bool) (a0_7 : Bool) : Option (ByteArray × ByteArray × Int × ByteArray × ByteArray × ByteArray × Bool × Bool) := some (a0_0, a0_1, a0_2, a0_3, a0_4, (⟨#[]⟩ : ByteArray), a0_6, false)
set_option maxHeartbeats 8000000 in
set_option maxRecDepth 100000 in
theorem Yxf.calls (a0_0 : ByteArray) (a0_1 : ByteArray) (a0_2 : Int) (a0_3 : ByteArray) (a0_4 : ByteArray) (a0_5 : ByteArray) (a0_6 : Bool) (a0_7 : Bool) (r1 : ByteArray) (r2 : ByteArray) (r3 : Int) (r4 : ByteArray) (r5 : ByteArray) (r6 : ByteArray) (r7 : Bool) (r8 : Bool) (w : World) (hE : EnvOk w) (h : Yxf.f a0_0 a0_1 a0_2 a0_3 a0_4 a0_5 a0_6 a0_7 = some (r1, r2, r3, r4, r5, r6, r7, r8)) :
  Calls Tryz.prog 59 #[.agg #[.string a0_0, .string a0_1, .int .i64 a0_2, .string a0_3, .string a0_4, .string a0_5, .bool a0_6, .bool a0_7]] w fun e w' => e = .returned (.agg #[.string r1, .string r2, .int .i64 r3, .string r4, .string r5, .string r6, .bool r7, .bool r8]) ∧ Below w.heap.size w w' := by
 have hu81 := Tryz.underlying81
 have HE := Ya.mk hE
 clear hE
 have HB := Ya.mk (Below.refl w.heap.size w)
 have H : (some (a0_0, a0_1, a0_2, a0_3, a0_4, (⟨#[]⟩ : ByteArray), a0_6, false)) = some (r1, r2, r3, r4, r5, r6, r7, r8) := h
 clear h
 simp only [Option.some.injEq, Prod.mk.injEq] at H
 obtain ⟨rfl, rfl, rfl, rfl, rfl, rfl, rfl, rfl⟩ := H
 go_enter Tryz.func59, Tryz.ntmps59
 go_wp2_with (first | ((with_reducible refine Yld (N := 1) rfl ?_); refine Ytc ?hg (N := 1) ?hd (cs := #[.string a0_0, .string a0_1, .int .i64 a0_2, .string a0_3, .string a0_4, .string a0_5, .bool a0_6, .bool a0_7]) (t := 81) ?hr ?_; (case hd => rfl); (case hg => rfl); (case hr => first | (go_simp; done) | (go_simp; rfl)); intro gb150 hg w2 hbox hb; have n0_ := Ya.mk (Yn Zc hb); have n1_ := Ya.mk (hbox); have n2_ := Ya.mk ((by rw [hg]; exact (Yfa Zc) : w.heap.size ≤ gb150)); have n3_ := Ya.mk ((by rw [hg]; exact (Yfa Zc) : w.heap.size ≤ gb150)); clear HB; have HB := n0_; have BK150 := n1_; have GW150 := n2_; have GE150 := n3_; clear n0_ n1_ n2_ n3_; clear hb hbox hg) | ((with_reducible refine Yld (N := 2) rfl ?_); refine Ytc ?hg (N := 2) ?hd (cs := #[.string (⟨#[]⟩ : ByteArray), .string (⟨#[]⟩ : ByteArray), .int .i64 0, .string (⟨#[]⟩ : ByteArray), .string (⟨#[]⟩ : ByteArray), .string (⟨#[]⟩ : ByteArray), .bool false, .bool false]) (t := 81) ?hr ?_; (case hd => rfl); (case hg => rfl); (case hr => first | (go_simp; done) | (go_simp; rfl)); intro gb151 hg w3 hbox hb; have n0_ := Ya.mk (Yec (g := gb150) (o := .cells #[.string a0_0, .string a0_1, .int .i64 a0_2, .string a0_3, .string a0_4, .string a0_5, .bool a0_6, .bool a0_7] 81 (0, 0)) Zda hb); have n1_ := Ya.mk (Yn Zaa hb); have n2_ := Ya.mk (hbox); have n3_ := Ya.mk ((by rw [hg]; exact (Yfa Zaa) : w.heap.size ≤ gb151)); have n4_ := Ya.mk ((by rw [hg]; exact (Yfa Zaa) : w.heap.size ≤ gb151)); have n5_ := Ya.mk ((by rw [hg]; exact Nat.ne_of_lt (Yrg (g := gb150) (o := .cells #[.string a0_0, .string a0_1, .int .i64 a0_2, .string a0_3, .string a0_4, .string a0_5, .bool a0_6, .bool a0_7] 81 (0, 0)) Zda) : gb150 ≠ gb151)); have n6_ := Ya.mk ((by rw [hg]; exact Nat.ne_of_gt (Yrg (g := gb150) (o := .cells #[.string a0_0, .string a0_1, .int .i64 a0_2, .string a0_3, .string a0_4, .string a0_5, .bool a0_6, .bool a0_7] 81 (0, 0)) Zda) : gb151 ≠ gb150)); clear BK150; clear HB; have BK150 := n0_; have HB := n1_; have BK151 := n2_; have GW151 := n3_; have GE151 := n4_; have NB150_151 := n5_; have NB151_150 := n6_; clear n0_ n1_ n2_ n3_ n4_ n5_ n6_; clear hb hbox hg; have hnb4 := NB150_151.out; have hnc4 := NB151_150.out; have hcz5_0 : w3.cell? ⟨gb150, 0, none⟩ = some (.string a0_0) := (Yf BK150.out 0).trans rfl; have hcz5_1 : w3.cell? ⟨gb150, 1, none⟩ = some (.string a0_1) := (Yf BK150.out 1).trans rfl; have hcz5_2 : w3.cell? ⟨gb150, 2, none⟩ = some (.int .i64 a0_2) := (Yf BK150.out 2).trans rfl; have hcz5_3 : w3.cell? ⟨gb150, 3, none⟩ = some (.string a0_3) := (Yf BK150.out 3).trans rfl; have hcz5_4 : w3.cell? ⟨gb150, 4, none⟩ = some (.string a0_4) := (Yf BK150.out 4).trans rfl; have hcz5_5 : w3.cell? ⟨gb150, 5, none⟩ = some (.string a0_5) := (Yf BK150.out 5).trans rfl; have hcz5_6 : w3.cell? ⟨gb150, 6, none⟩ = some (.bool a0_6) := (Yf BK150.out 6).trans rfl; have hcz5_7 : w3.cell? ⟨gb150, 7, none⟩ = some (.bool a0_7) := (Yf BK150.out 7).trans rfl; have hfz5_0 := Yc BK150.out 0; have hfz5_1 := Yc BK150.out 1; have hfz5_2 := Yc BK150.out 2; have hfz5_3 := Yc BK150.out 3; have hfz5_4 := Yc BK150.out 4; have hfz5_5 := Yc BK150.out 5; have hfz5_6 := Yc BK150.out 6; have hfz5_7 := Yc BK150.out 7; have hcz6_0 : w3.cell? ⟨gb151, 0, none⟩ = some (.string (⟨#[]⟩ : ByteArray)) := (Yf BK151.out 0).trans rfl; have hcz6_1 : w3.cell? ⟨gb151, 1, none⟩ = some (.string (⟨#[]⟩ : ByteArray)) := (Yf BK151.out 1).trans rfl; have hcz6_2 : w3.cell? ⟨gb151, 2, none⟩ = some (.int .i64 0) := (Yf BK151.out 2).trans rfl; have hcz6_3 : w3.cell? ⟨gb151, 3, none⟩ = some (.string (⟨#[]⟩ : ByteArray)) := (Yf BK151.out 3).trans rfl; have hcz6_4 : w3.cell? ⟨gb151, 4, none⟩ = some (.string (⟨#[]⟩ : ByteArray)) := (Yf BK151.out 4).trans rfl; have hcz6_5 : w3.cell? ⟨gb151, 5, none⟩ = some (.string (⟨#[]⟩ : ByteArray)) := (Yf BK151.out 5).trans rfl; have hcz6_6 : w3.cell? ⟨gb151, 6, none⟩ = some (.bool false) := (Yf BK151.out 6).trans rfl; have hcz6_7 : w3.cell? ⟨gb151, 7, none⟩ = some (.bool false) := (Yf BK151.out 7).trans rfl; have hfz6_0 := Yc BK151.out 0; have hfz6_1 := Yc BK151.out 1; have hfz6_2 := Yc BK151.out 2; have hfz6_3 := Yc BK151.out 3; have hfz6_4 := Yc BK151.out 4; have hfz6_5 := Yc BK151.out 5; have hfz6_6 := Yc BK151.out 6; have hfz6_7 := Yc BK151.out 7))
 refine bodyPost_ret (results_cell_row rfl _ _ gb151 81 #[.string a0_0, .string a0_1, .int .i64 a0_2, .string a0_3, .string a0_4, .string (⟨#[]⟩ : ByteArray), .bool a0_6, .bool false] (0, 0) _ rfl (by (with_reducible repeat (first | refine blk_drewN ?_ _ | refine Yra ?_ | refine Yca ?_ _)); refine Yfd (cs := #[.string a0_0, .string a0_1, .int .i64 a0_2, .string a0_3, .string a0_4, .string (⟨#[]⟩ : ByteArray), .bool a0_6, .bool false]) ?_ 7 _ rfl; (with_reducible repeat (first | refine blk_drewN ?_ _ | refine Yra ?_ | refine Yca ?_ _)); refine Yfd (cs := #[.string a0_0, .string a0_1, .int .i64 a0_2, .string a0_3, .string a0_4, .string (⟨#[]⟩ : ByteArray), .bool false, .bool false]) ?_ 6 _ rfl; (with_reducible repeat (first | refine blk_drewN ?_ _ | refine Yra ?_ | refine Yca ?_ _)); refine Yfd (cs := #[.string a0_0, .string a0_1, .int .i64 a0_2, .string a0_3, .string a0_4, .string (⟨#[]⟩ : ByteArray), .bool false, .bool false]) ?_ 5 _ rfl; (with_reducible repeat (first | refine blk_drewN ?_ _ | refine Yra ?_ | refine Yca ?_ _)); refine Yfd (cs := #[.string a0_0, .string a0_1, .int .i64 a0_2, .string a0_3, .string (⟨#[]⟩ : ByteArray), .string (⟨#[]⟩ : ByteArray), .bool false, .bool false]) ?_ 4 _ rfl; (with_reducible repeat (first | refine blk_drewN ?_ _ | refine Yra ?_ | refine Yca ?_ _)); refine Yfd (cs := #[.string a0_0, .string a0_1, .int .i64 a0_2, .string (⟨#[]⟩ : ByteArray), .string (⟨#[]⟩ : ByteArray), .string (⟨#[]⟩ : ByteArray), .bool false, .bool false]) ?_ 3 _ rfl; (with_reducible repeat (first | refine blk_drewN ?_ _ | refine Yra ?_ | refine Yca ?_ _)); refine Yfd (cs := #[.string a0_0, .string a0_1, .int .i64 0, .string (⟨#[]⟩ : ByteArray), .string (⟨#[]⟩ : ByteArray), .string (⟨#[]⟩ : ByteArray), .bool false, .bool false]) ?_ 2 _ rfl; (with_reducible repeat (first | refine blk_drewN ?_ _ | refine Yra ?_ | refine Yca ?_ _)); refine Yfd (cs := #[.string a0_0, .string (⟨#[]⟩ : ByteArray), .int .i64 0, .string (⟨#[]⟩ : ByteArray), .string (⟨#[]⟩ : ByteArray), .string (⟨#[]⟩ : ByteArray), .bool false, .bool false]) ?_ 1 _ rfl; (with_reducible repeat (first | refine blk_drewN ?_ _ | refine Yra ?_ | refine Yca ?_ _)); refine Yfd (cs := #[.string (⟨#[]⟩ : ByteArray), .string (⟨#[]⟩ : ByteArray), .int .i64 0, .string (⟨#[]⟩ : ByteArray), .string (⟨#[]⟩ : ByteArray), .string (⟨#[]⟩ : ByteArray), .bool false, .bool false]) ?_ 0 _ rfl; (with_reducible repeat (first | refine blk_drewN ?_ _ | refine Yra ?_ | refine Yca ?_ _)); refine blk_far ?_ NB151_150.out _; (with_reducible repeat (first | refine blk_drewN ?_ _ | refine Yra ?_ | refine Yca ?_ _)); refine blk_far ?_ NB151_150.out _; (with_reducible repeat (first | refine blk_drewN ?_ _ | refine Yra ?_ | refine Yca ?_ _)); exact BK151.out) Tryz.underlying81 rfl Zg) rfl ?_
 exact ⟨Zj, by repeat (first | (with_reducible first | exact HB.out | apply Ye | apply Yb | apply Yd | refine Yh ?_ GE150.out | refine Yh ?_ GE151.out) | exact HB.out)⟩
def Ygc.f (k : Nat) (a0_0 : ByteArray) (a0_1 : ByteArray) (a0_2 : Int) (a0_3 : ByteArray) (a0_4 : ByteArray) (a0_5 : ByteArray) (a0_6 : Bool) (a0_7 : Bool) : Option (ByteArray) := (Yxf.f a0_0 a0_1 a0_2 a0_3 a0_4 a0_5 a0_6 a0_7).bind fun bt153 => ((Ymc.f k bt153.1 bt153.2.1 bt153.2.2.1 bt153.2.2.2.1 bt153.2.2.2.2.1 bt153.2.2.2.2.2.1 bt153.2.2.2.2.2.2.1 bt153.2.2.2.2.2.2.2).bind fun t161 => (some t161))
set_option maxHeartbeats 8000000 in
set_option maxRecDepth 100000 in
theorem Ygc.calls (k : Nat) (a0_0 : ByteArray) (a0_1 : ByteArray) (a0_2 : Int) (a0_3 : ByteArray) (a0_4 : ByteArray) (a0_5 : ByteArray) (a0_6 : Bool) (a0_7 : Bool) (r : ByteArray) (w : World) (hE : EnvOk w) (h : Ygc.f k a0_0 a0_1 a0_2 a0_3 a0_4 a0_5 a0_6 a0_7 = some r) :
  Calls Tryz.prog 38 #[.agg #[.string a0_0, .string a0_1, .int .i64 a0_2, .string a0_3, .string a0_4, .string a0_5, .bool a0_6, .bool a0_7]] w fun e w' => e = .returned (.string r) ∧ Below w.heap.size w w' := by
 have hu81 := Tryz.underlying81
 have HE := Ya.mk hE
 clear hE
 have HB := Ya.mk (Below.refl w.heap.size w)
 have H : ((Yxf.f a0_0 a0_1 a0_2 a0_3 a0_4 a0_5 a0_6 a0_7).bind fun bt153 => ((Ymc.f k bt153.1 bt153.2.1 bt153.2.2.1 bt153.2.2.2.1 bt153.2.2.2.2.1 bt153.2.2.2.2.2.1 bt153.2.2.2.2.2.2.1 bt153.2.2.2.2.2.2.2).bind fun t161 => (some t161))) = some r := h
 clear h
 replace H := Option.bind_eq_some_iff.mp H
 obtain ⟨⟨t153, t154, t155, t156, t157, t158, t159, t160⟩, A20, H⟩ := H
 try dsimp -simprocs only at H
 have A2 := Ya.mk A20
 clear A20
 replace H := Option.bind_eq_some_iff.mp H
 obtain ⟨t161, A30, H⟩ := H
 try dsimp -simprocs only at H
 have A3 := Ya.mk A30
 clear A30
 obtain rfl := Option.some.inj H
 go_enter Tryz.func38, Tryz.ntmps38
 go_wp2_with (first | ((with_reducible refine Yld (N := 1) rfl ?_); refine Ytc ?hg (N := 1) ?hd (cs := #[.string a0_0, .string a0_1, .int .i64 a0_2, .string a0_3, .string a0_4, .string a0_5, .bool a0_6, .bool a0_7]) (t := 81) ?hr ?_; (case hd => rfl); (case hg => rfl); (case hr => first | (go_simp; done) | (go_simp; rfl)); intro gb152 hg w4 hbox hb; have n0_ := Ya.mk (Yn Zc hb); have n1_ := Ya.mk (hbox); have n2_ := Ya.mk ((by rw [hg]; exact (Yfa Zc) : w.heap.size ≤ gb152)); have n3_ := Ya.mk ((by rw [hg]; exact (Yfa Zc) : w.heap.size ≤ gb152)); clear HB; have HB := n0_; have BK152 := n1_; have GW152 := n2_; have GE152 := n3_; clear n0_ n1_ n2_ n3_; clear hb hbox hg; have hcz5_0 : w4.cell? ⟨gb152, 0, none⟩ = some (.string a0_0) := (Yf BK152.out 0).trans rfl; have hcz5_1 : w4.cell? ⟨gb152, 1, none⟩ = some (.string a0_1) := (Yf BK152.out 1).trans rfl; have hcz5_2 : w4.cell? ⟨gb152, 2, none⟩ = some (.int .i64 a0_2) := (Yf BK152.out 2).trans rfl; have hcz5_3 : w4.cell? ⟨gb152, 3, none⟩ = some (.string a0_3) := (Yf BK152.out 3).trans rfl; have hcz5_4 : w4.cell? ⟨gb152, 4, none⟩ = some (.string a0_4) := (Yf BK152.out 4).trans rfl; have hcz5_5 : w4.cell? ⟨gb152, 5, none⟩ = some (.string a0_5) := (Yf BK152.out 5).trans rfl; have hcz5_6 : w4.cell? ⟨gb152, 6, none⟩ = some (.bool a0_6) := (Yf BK152.out 6).trans rfl; have hcz5_7 : w4.cell? ⟨gb152, 7, none⟩ = some (.bool a0_7) := (Yf BK152.out 7).trans rfl; have hfz5_0 := Yc BK152.out 0; have hfz5_1 := Yc BK152.out 1; have hfz5_2 := Yc BK152.out 2; have hfz5_3 := Yc BK152.out 3; have hfz5_4 := Yc BK152.out 4; have hfz5_5 := Yc BK152.out 5; have hfz5_6 := Yc BK152.out 6; have hfz5_7 := Yc BK152.out 7) | ((with_reducible refine Yi (f := 59) rfl ?_); refine Yp (some 4) rfl rfl Tryz.func59 Zg rfl #[.agg #[.string a0_0, .string a0_1, .int .i64 a0_2, .string a0_3, .string a0_4, .string a0_5, .bool a0_6, .bool a0_7]] rfl Zb ?_; (with_reducible refine (Yxf.calls a0_0 a0_1 a0_2 a0_3 a0_4 a0_5 a0_6 a0_7 t153 t154 t155 t156 t157 t158 t159 t160 _ ?side1 A2.out).mono ?_); (case side1 => first | exact HE.out | exact EnvOk.below HE.out Zs); rintro e w6 ⟨rfl, hb⟩; refine ⟨_, rfl, ?_⟩; have n0_ := Ya.mk (Yec (g := gb152) (o := .cells #[.string a0_0, .string a0_1, .int .i64 a0_2, .string a0_3, .string a0_4, .string a0_5, .bool a0_6, .bool a0_7] 81 (0, 0)) (by (with_reducible repeat (first | refine blk_drewN ?_ _ | refine Yra ?_ | refine Yca ?_ _)); exact BK152.out) hb); have n1_ := Ya.mk (Yn Zs hb); clear BK152; clear HB; have BK152 := n0_; have HB := n1_; clear n0_ n1_; (try clear hb); (try clear hb2); (try clear hk); (try clear hi)) | ((with_reducible refine Yi (f := 58) rfl ?_); refine Yp (some 5) rfl rfl Tryz.func58 Zg rfl #[.agg #[.string t153, .string t154, .int .i64 t155, .string t156, .string t157, .string t158, .bool t159, .bool t160]] rfl Zb ?_; (with_reducible refine (Ymc.calls k t153 t154 t155 t156 t157 t158 t159 t160 t161 _ ?side1 A3.out).mono ?_); (case side1 => first | exact HE.out | exact EnvOk.below HE.out Zs); rintro e w7 ⟨rfl, hb⟩; refine ⟨_, rfl, ?_⟩; have n0_ := Ya.mk (Yec (g := gb152) (o := .cells #[.string a0_0, .string a0_1, .int .i64 a0_2, .string a0_3, .string a0_4, .string a0_5, .bool a0_6, .bool a0_7] 81 (0, 0)) (by (with_reducible repeat (first | refine blk_drewN ?_ _ | refine Yra ?_ | refine Yca ?_ _)); exact BK152.out) hb); have n1_ := Ya.mk (Yn Zs hb); clear BK152; clear HB; have BK152 := n0_; have HB := n1_; clear n0_ n1_; (try clear hb); (try clear hb2); (try clear hk); (try clear hi)))
 go_ret
 exact ⟨Zj, Zs⟩
def Yaf.f (k : Nat) (a0_0 : ByteArray) (a0_1 : ByteArray) (a0_2 : Int) (a0_3 : ByteArray) (a0_4 : ByteArray) (a0_5 : ByteArray) (a0_6 : Bool) (a0_7 : Bool) (a1_0 : ByteArray) (a1_1 : ByteArray) (a1_2 : Int) (a1_3 : ByteArray) (a1_4 : ByteArray) (a1_5 : ByteArray) (a1_6 : Bool) (a1_7 : Bool) : Option (Bool) := (Ygc.f k a0_0 a0_1 a0_2 a0_3 a0_4 a0_5 a0_6 a0_7).bind fun t164 => ((Ygc.f k a1_0 a1_1 a1_2 a1_3 a1_4 a1_5 a1_6 a1_7).bind fun t165 => (some (t164.toList == t165.toList)))
set_option maxHeartbeats 8000000 in
set_option maxRecDepth 100000 in
theorem Yaf.calls (k : Nat) (a0_0 : ByteArray) (a0_1 : ByteArray) (a0_2 : Int) (a0_3 : ByteArray) (a0_4 : ByteArray) (a0_5 : ByteArray) (a0_6 : Bool) (a0_7 : Bool) (a1_0 : ByteArray) (a1_1 : ByteArray) (a1_2 : Int) (a1_3 : ByteArray) (a1_4 : ByteArray) (a1_5 : ByteArray) (a1_6 : Bool) (a1_7 : Bool) (r : Bool) (w : World) (hE : EnvOk w) (h : Yaf.f k a0_0 a0_1 a0_2 a0_3 a0_4 a0_5 a0_6 a0_7 a1_0 a1_1 a1_2 a1_3 a1_4 a1_5 a1_6 a1_7 = some r) :
  Calls Tryz.prog 40 #[.agg #[.string a0_0, .string a0_1, .int .i64 a0_2, .string a0_3, .string a0_4, .string a0_5, .bool a0_6, .bool a0_7], .agg #[.string a1_0, .string a1_1, .int .i64 a1_2, .string a1_3, .string a1_4, .string a1_5, .bool a1_6, .bool a1_7]] w fun e w' => e = .returned (.bool r) ∧ Below w.heap.size w w' := by
 have hu81 := Tryz.underlying81
 have HE := Ya.mk hE
 clear hE
 have HB := Ya.mk (Below.refl w.heap.size w)
 have H : ((Ygc.f k a0_0 a0_1 a0_2 a0_3 a0_4 a0_5 a0_6 a0_7).bind fun t164 => ((Ygc.f k a1_0 a1_1 a1_2 a1_3 a1_4 a1_5 a1_6 a1_7).bind fun t165 => (some (t164.toList == t165.toList)))) = some r := h
 clear h
 replace H := Option.bind_eq_some_iff.mp H
 obtain ⟨t164, A30, H⟩ := H
 try dsimp -simprocs only at H
 have A3 := Ya.mk A30
 clear A30
 replace H := Option.bind_eq_some_iff.mp H
 obtain ⟨t165, A40, H⟩ := H
 try dsimp -simprocs only at H
 have A4 := Ya.mk A40
 clear A40
 obtain rfl := Option.some.inj H
 go_enter Tryz.func40, Tryz.ntmps40
 try go_wp2_with (first | ((with_reducible refine Yld (N := 2) rfl ?_); refine Ytc ?hg (N := 2) ?hd (cs := #[.string a0_0, .string a0_1, .int .i64 a0_2, .string a0_3, .string a0_4, .string a0_5, .bool a0_6, .bool a0_7]) (t := 81) ?hr ?_; (case hd => rfl); (case hg => rfl); (case hr => first | (go_simp; done) | (go_simp; rfl)); intro gb162 hg w5 hbox hb; have n0_ := Ya.mk (Yn Zc hb); have n1_ := Ya.mk (hbox); have n2_ := Ya.mk ((by rw [hg]; exact (Yfa Zc) : w.heap.size ≤ gb162)); have n3_ := Ya.mk ((by rw [hg]; exact (Yfa Zc) : w.heap.size ≤ gb162)); clear HB; have HB := n0_; have BK162 := n1_; have GW162 := n2_; have GE162 := n3_; clear n0_ n1_ n2_ n3_; clear hb hbox hg) | ((with_reducible refine Yld (N := 3) rfl ?_); refine Ytc ?hg (N := 3) ?hd (cs := #[.string a1_0, .string a1_1, .int .i64 a1_2, .string a1_3, .string a1_4, .string a1_5, .bool a1_6, .bool a1_7]) (t := 81) ?hr ?_; (case hd => rfl); (case hg => rfl); (case hr => first | (go_simp; done) | (go_simp; rfl)); intro gb163 hg w6 hbox hb; have n0_ := Ya.mk (Yec (g := gb162) (o := .cells #[.string a0_0, .string a0_1, .int .i64 a0_2, .string a0_3, .string a0_4, .string a0_5, .bool a0_6, .bool a0_7] 81 (0, 0)) Zt hb); have n1_ := Ya.mk (Yn Zba hb); have n2_ := Ya.mk (hbox); have n3_ := Ya.mk ((by rw [hg]; exact (Yfa Zba) : w.heap.size ≤ gb163)); have n4_ := Ya.mk ((by rw [hg]; exact (Yfa Zba) : w.heap.size ≤ gb163)); have n5_ := Ya.mk ((by rw [hg]; exact Nat.ne_of_lt (Yrg (g := gb162) (o := .cells #[.string a0_0, .string a0_1, .int .i64 a0_2, .string a0_3, .string a0_4, .string a0_5, .bool a0_6, .bool a0_7] 81 (0, 0)) Zt) : gb162 ≠ gb163)); have n6_ := Ya.mk ((by rw [hg]; exact Nat.ne_of_gt (Yrg (g := gb162) (o := .cells #[.string a0_0, .string a0_1, .int .i64 a0_2, .string a0_3, .string a0_4, .string a0_5, .bool a0_6, .bool a0_7] 81 (0, 0)) Zt) : gb163 ≠ gb162)); clear BK162; clear HB; have BK162 := n0_; have HB := n1_; have BK163 := n2_; have GW163 := n3_; have GE163 := n4_; have NB162_163 := n5_; have NB163_162 := n6_; clear n0_ n1_ n2_ n3_ n4_ n5_ n6_; clear hb hbox hg))
 have n0_ := Ya.mk (Yra BK162.out)
 have n1_ := Ya.mk (Yra BK163.out)
 have n2_ := Ya.mk (Yd HB.out)
 clear BK162
 clear BK163
 clear HB
 have BK162 := n0_
 have BK163 := n1_
 have HB := n2_
 clear n0_ n1_ n2_
 refine Ypi (n := 6) (S := fun w' => w'.cell? ⟨gb162, 0, none⟩ = some (.string a0_0) ∧ w'.cell? ⟨gb162, 1, none⟩ = some (.string a0_1) ∧ w'.cell? ⟨gb162, 2, none⟩ = some (.int .i64 a0_2) ∧ w'.cell? ⟨gb162, 3, none⟩ = some (.string a0_3) ∧ w'.cell? ⟨gb162, 4, none⟩ = some (.string a0_4) ∧ w'.cell? ⟨gb162, 5, none⟩ = some (.string a0_5) ∧ w'.cell? ⟨gb162, 6, none⟩ = some (.bool a0_6) ∧ w'.cell? ⟨gb162, 7, none⟩ = some (.bool a0_7) ∧ w'.cell? ⟨gb163, 0, none⟩ = some (.string a1_0) ∧ w'.cell? ⟨gb163, 1, none⟩ = some (.string a1_1) ∧ w'.cell? ⟨gb163, 2, none⟩ = some (.int .i64 a1_2) ∧ w'.cell? ⟨gb163, 3, none⟩ = some (.string a1_3) ∧ w'.cell? ⟨gb163, 4, none⟩ = some (.string a1_4) ∧ w'.cell? ⟨gb163, 5, none⟩ = some (.string a1_5) ∧ w'.cell? ⟨gb163, 6, none⟩ = some (.bool a1_6) ∧ w'.cell? ⟨gb163, 7, none⟩ = some (.bool a1_7)) (ds := []) #[false, false, false, false, false, false] Zg rfl rfl ⟨(Yf BK162.out 0).trans rfl, (Yf BK162.out 1).trans rfl, (Yf BK162.out 2).trans rfl, (Yf BK162.out 3).trans rfl, (Yf BK162.out 4).trans rfl, (Yf BK162.out 5).trans rfl, (Yf BK162.out 6).trans rfl, (Yf BK162.out 7).trans rfl, (Yf BK163.out 0).trans rfl, (Yf BK163.out 1).trans rfl, (Yf BK163.out 2).trans rfl, (Yf BK163.out 3).trans rfl, (Yf BK163.out 4).trans rfl, (Yf BK163.out 5).trans rfl, (Yf BK163.out 6).trans rfl, (Yf BK163.out 7).trans rfl⟩ (fun hHeld => ?_)
 generalize w6.drew = w7 at BK162 BK163 HB hHeld ⊢
 refine Yhg (i := 0) (N := some 5) (v := ?_) (a' := ?_) #[true, false, false, false, false, false] rfl rfl Zg (fun _ _ _ h => h) (Or.inl ⟨Zja, ?_⟩) hHeld ?_ ?_
 rotate_left
 ·rintro w' ⟨s0, s1, s2, s3, s4, s5, s6, s7, s8, s9, s10, s11, s12, s13, s14, s15⟩
  go_simp
  with_reducible rfl
 rotate_left
 ·exact Zwa
 refine Yhg (i := 2) (N := some 7) (v := ?_) (a' := ?_) #[true, false, true, false, false, false] rfl rfl Zg (fun _ _ _ h => h) (Or.inl ⟨Zja, ?_⟩) hHeld ?_ ?_
 rotate_left
 ·rintro w' ⟨s0, s1, s2, s3, s4, s5, s6, s7, s8, s9, s10, s11, s12, s13, s14, s15⟩
  go_simp
  with_reducible rfl
 rotate_left
 ·exact Zwa
 refine one_ (i := 1) (N := some 6) #[true, true, true, false, false, false] rfl rfl Zg Zq (fun K hK => ?_)
 refine Yxl Tryz.func38 Zg rfl #[.agg #[.string a0_0, .string a0_1, .int .i64 a0_2, .string a0_3, .string a0_4, .string a0_5, .bool a0_6, .bool a0_7]] Zja rfl rfl Zb ?_
 with_reducible refine (Ygc.calls k a0_0 a0_1 a0_2 a0_3 a0_4 a0_5 a0_6 a0_7 t164 _ ?side1 A3.out).mono ?_
 (case side1 => first | exact HE.out | exact EnvOk.below HE.out Zr)
 rintro e w8 ⟨rfl, hb⟩
 refine ⟨_, rfl, ?_⟩
 have n0_ := Ya.mk (Yec (g := gb162) (o := .cells #[.string a0_0, .string a0_1, .int .i64 a0_2, .string a0_3, .string a0_4, .string a0_5, .bool a0_6, .bool a0_7] 81 (0, 0)) Zt hb)
 have n1_ := Ya.mk (Yec (g := gb163) (o := .cells #[.string a1_0, .string a1_1, .int .i64 a1_2, .string a1_3, .string a1_4, .string a1_5, .bool a1_6, .bool a1_7] 81 (0, 0)) (by (with_reducible repeat (first | refine blk_drewN ?_ _ | refine Yra ?_ | refine Yca ?_ _)); exact BK163.out) hb)
 have n2_ := Ya.mk (Yn Zr hb)
 clear BK162
 clear BK163
 clear HB
 have BK162 := n0_
 have BK163 := n1_
 have HB := n2_
 clear n0_ n1_ n2_
 (try clear hb)
 (try clear hb2)
 (try clear hk)
 (try clear hi)
 refine hK.out _ _ ⟨(Yf BK162.out 0).trans rfl, (Yf BK162.out 1).trans rfl, (Yf BK162.out 2).trans rfl, (Yf BK162.out 3).trans rfl, (Yf BK162.out 4).trans rfl, (Yf BK162.out 5).trans rfl, (Yf BK162.out 6).trans rfl, (Yf BK162.out 7).trans rfl, (Yf BK163.out 0).trans rfl, (Yf BK163.out 1).trans rfl, (Yf BK163.out 2).trans rfl, (Yf BK163.out 3).trans rfl, (Yf BK163.out 4).trans rfl, (Yf BK163.out 5).trans rfl, (Yf BK163.out 6).trans rfl, (Yf BK163.out 7).trans rfl⟩ (fun hHeld => ?_)
 clear hK K
 refine Ysl (a' := ?_) ?_ ?_
 rotate_left
 ·show Act.put _ (some 6) _ = _
  simp only [Act.put, List.setIfInBounds_toArray, List.set_cons_zero, List.set_cons_succ, Yza, Yab]
  rfl
 refine one_ (i := 3) (N := some 8) #[true, true, true, true, false, false] rfl rfl Zg Zq (fun K hK => ?_)
 refine Yxl Tryz.func38 Zg rfl #[.agg #[.string a1_0, .string a1_1, .int .i64 a1_2, .string a1_3, .string a1_4, .string a1_5, .bool a1_6, .bool a1_7]] Zja rfl rfl Zb ?_
 with_reducible refine (Ygc.calls k a1_0 a1_1 a1_2 a1_3 a1_4 a1_5 a1_6 a1_7 t165 _ ?side1 A4.out).mono ?_
 (case side1 => first | exact HE.out | exact EnvOk.below HE.out Zr)
 rintro e w9 ⟨rfl, hb⟩
 refine ⟨_, rfl, ?_⟩
 have n0_ := Ya.mk (Yec (g := gb162) (o := .cells #[.string a0_0, .string a0_1, .int .i64 a0_2, .string a0_3, .string a0_4, .string a0_5, .bool a0_6, .bool a0_7] 81 (0, 0)) Zt hb)
 have n1_ := Ya.mk (Yec (g := gb163) (o := .cells #[.string a1_0, .string a1_1, .int .i64 a1_2, .string a1_3, .string a1_4, .string a1_5, .bool a1_6, .bool a1_7] 81 (0, 0)) (by (with_reducible repeat (first | refine blk_drewN ?_ _ | refine Yra ?_ | refine Yca ?_ _)); exact BK163.out) hb)
 have n2_ := Ya.mk (Yn Zr hb)
 clear BK162
 clear BK163
 clear HB
 have BK162 := n0_
 have BK163 := n1_
 have HB := n2_
 clear n0_ n1_ n2_
 (try clear hb)
 (try clear hb2)
 (try clear hk)
 (try clear hi)
 refine hK.out _ _ ⟨(Yf BK162.out 0).trans rfl, (Yf BK162.out 1).trans rfl, (Yf BK162.out 2).trans rfl, (Yf BK162.out 3).trans rfl, (Yf BK162.out 4).trans rfl, (Yf BK162.out 5).trans rfl, (Yf BK162.out 6).trans rfl, (Yf BK162.out 7).trans rfl, (Yf BK163.out 0).trans rfl, (Yf BK163.out 1).trans rfl, (Yf BK163.out 2).trans rfl, (Yf BK163.out 3).trans rfl, (Yf BK163.out 4).trans rfl, (Yf BK163.out 5).trans rfl, (Yf BK163.out 6).trans rfl, (Yf BK163.out 7).trans rfl⟩ (fun hHeld => ?_)
 clear hK K
 refine Ysl (a' := ?_) ?_ ?_
 rotate_left
 ·show Act.put _ (some 8) _ = _
  simp only [Act.put, List.setIfInBounds_toArray, List.set_cons_zero, List.set_cons_succ, Yza, Yab]
  rfl
 refine Yuc (i := 4) (N := some 9) (v := ?_) (a' := ?_) #[true, true, true, true, true, false] rfl rfl Zg (fun _ _ _ h => h) (Or.inl ⟨Zja, ?_⟩) ?_ ?_
 rotate_left
 ·exact Zva
 rotate_left
 ·exact Zwa
 refine Yuc (i := 5) (N := some 4) (v := ?_) (a' := ?_) #[true, true, true, true, true, true] rfl rfl Zg (fun _ _ _ h => h) (Or.inl ⟨Zja, ?_⟩) ?_ ?_
 rotate_left
 ·exact Zva
 rotate_left
 ·exact Zwa
 refine Ywl Zg ?_
 try go_wp2
 go_ret
 exact ⟨Zj, Zr⟩
def Yke.f (a0 : ByteArray) (l1 : List ByteArray) : Option (ByteArray) := (strings_Join.f l1 a0).bind fun t166 => (some t166)
set_option maxHeartbeats 8000000 in
set_option maxRecDepth 100000 in
theorem Yke.calls (a0 : ByteArray) (A1 : Option Addr) (c1 : Nat) (l1 : List ByteArray) (r : ByteArray) (w : World) (hE : EnvOk w) (hr1 : Kd.C Kd.string w A1 l1.length l1) (hc1 : l1.length ≤ c1) (h : Yke.f a0 l1 = some r) :
  Calls Tryz.prog 86 #[.string a0, .slice A1 l1.length c1] w fun e w' => e = .returned (.string r) ∧ Below w.heap.size w w' := by
 have HR1 := Ya.mk hr1
 have HC1 := Ya.mk hc1
 clear hr1 hc1
 have HE := Ya.mk hE
 clear hE
 have HB := Ya.mk (Below.refl w.heap.size w)
 have H : ((strings_Join.f l1 a0).bind fun t166 => (some t166)) = some r := h
 clear h
 replace H := Option.bind_eq_some_iff.mp H
 obtain ⟨t166, A30, H⟩ := H
 try dsimp -simprocs only at H
 have A3 := Ya.mk A30
 clear A30
 obtain rfl := Option.some.inj H
 go_enter Tryz.func86, Tryz.ntmps86
 go_wp2_with (first | ((with_reducible refine Yi (f := 106) rfl ?_); refine Yp (some 7) rfl rfl Tryz.func106 Zg rfl #[.slice A1 l1.length c1, .string a0] rfl Zb ?_; (with_reducible refine (strings_Join.calls _ _ l1 a0 t166 _ ?side1 ?side2 ?side3 A3.out).mono ?_); (case side1 => first | exact HE.out | exact EnvOk.below HE.out Zc); (case side2 => repeat (first | exact HR1.out | (with_reducible refine Kd.C_alloc ?_ _) | (with_reducible refine Kd.C_drewN ?_ _) | (with_reducible refine Kd.C_drew ?_))); (case side3 => exact HC1.out); rintro e w4 ⟨rfl, hb⟩; refine ⟨_, rfl, ?_⟩; have n0_ := Ya.mk (Yn Zc hb); clear HB; have HB := n0_; clear n0_; (try clear hb); (try clear hb2); (try clear hk); (try clear hi)))
 go_ret
 exact ⟨Zj, Zc⟩
def Yqe.f (a0 : Int) : Option (Bool) := (strings_IndexByte.f (⟨#[9, 10, 12, 13, 32]⟩ : ByteArray) a0).bind fun t167 => (some (decide (t167 ≥ 0)))
set_option maxHeartbeats 8000000 in
set_option maxRecDepth 100000 in
theorem Yqe.calls (a0 : Int) (r : Bool) (w : World) (hE : EnvOk w) (h : Yqe.f a0 = some r) :
  Calls Tryz.prog 112 #[.int .u8 a0] w fun e w' => e = .returned (.bool r) ∧ Drawn0 w w' := by
 have HE := Ya.mk hE
 clear hE
 have H : ((strings_IndexByte.f (⟨#[9, 10, 12, 13, 32]⟩ : ByteArray) a0).bind fun t167 => (some (decide (t167 ≥ 0)))) = some r := h
 clear h
 replace H := Option.bind_eq_some_iff.mp H
 obtain ⟨t167, A20, H⟩ := H
 try dsimp -simprocs only at H
 have A2 := Ya.mk A20
 clear A20
 obtain rfl := Option.some.inj H
 go_enter Tryz.func112, Tryz.ntmps112
 go_wp2_with (first | ((with_reducible refine Yi (f := 73) rfl ?_); refine Yp (some 4) rfl rfl Tryz.func73 Zg rfl #[.string (⟨#[9, 10, 12, 13, 32]⟩ : ByteArray), .int .u8 a0] rfl Zb ?_; (with_reducible refine (strings_IndexByte.calls (⟨#[9, 10, 12, 13, 32]⟩ : ByteArray) a0 t167 _ ?side1 A2.out).mono ?_); (case side1 => first | exact HE.out | exact EnvOk.heap HE.out rfl); rintro e w' ⟨rfl, ⟨nd, rfl⟩⟩; refine ⟨_, rfl, ?_⟩))
 go_ret
 exact ⟨Zf, Zl⟩
end Go.Proofs.YtfmjnmglagdcdaaGreatDoor.X
