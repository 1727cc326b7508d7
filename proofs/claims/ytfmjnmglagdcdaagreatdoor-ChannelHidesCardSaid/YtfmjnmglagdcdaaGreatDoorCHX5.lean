/- Printed by a program of ours: functions as plain Lean, and what a call of each does. -/
import Derived.Test.YtfmjnmglagdcdaaGreatDoorCHWords
import Derived.Test.YtfmjnmglagdcdaaGreatDoorCHX0
import Derived.Test.YtfmjnmglagdcdaaGreatDoorCHX1
import Derived.Test.YtfmjnmglagdcdaaGreatDoorCHX2
import Derived.Test.YtfmjnmglagdcdaaGreatDoorCHH0e
import Derived.Test.YtfmjnmglagdcdaaGreatDoorCHH1c
namespace Go.Proofs.YtfmjnmglagdcdaaGreatDoor.X
open Go.RowKit Go.Yw.PrintWords Go.Yw.PrintLast Go.Yw.PrintMore
attribute [local go_sem] Ygf Ybf Yzf Yag Yme Ype Ydf Yff
set_option linter.unusedVariables false
set_option linter.unusedSimpArgs false
mutual
def Yj.j0 : Nat → ByteArray → ByteArray → Bool → ByteArray → ByteArray → ByteArray → Int → ByteArray → ByteArray → ByteArray → Bool → Bool → Option (Int × ByteArray × ByteArray × ByteArray × Int × ByteArray × ByteArray × ByteArray × Bool × Bool)
 | 0, _, _, _, _, _, _, _, _, _, _, _, _ => none
 | k + 1, x3, x4, x29, x1000, x1001, x1002, x1003, x1004, x1005, x1006, x1007, x1008 => if x29 = true then (some (3, x1000, x1001, x1002, x1003, x1004, x1005, x1006, x1007, x1008)) else (Yj.l0 k x3 x4 (x3.size : Int) 0 x1000 x1001 x1002 x1003 x1004 x1005 x1006 x1007 x1008)
def Yj.l0 : Nat → ByteArray → ByteArray → Int → Int → ByteArray → ByteArray → ByteArray → Int → ByteArray → ByteArray → ByteArray → Bool → Bool → Option (Int × ByteArray × ByteArray × ByteArray × Int × ByteArray × ByteArray × ByteArray × Bool × Bool)
 | 0, _, _, _, _, _, _, _, _, _, _, _, _, _ => none
 | k + 1, x3, x4, x31, x32, x1000, x1001, x1002, x1003, x1004, x1005, x1006, x1007, x1008 => if x32 < x31 then (if 0 ≤ x32 then (if x32 < (x3.size : Int) then ((Yw.f (bt x3 x32)).bind fun t191 => (if t191 = true then (Yj.l0 k x3 x4 x31 (wrap64 (x32 + 1)) x1000 x1001 x1002 x1003 x1004 x1005 x1006 x1007 x1008) else ((Yq.f (bt x3 x32)).bind fun t192 => (if t192 = true then (Yj.l0 k x3 x4 x31 (wrap64 (x32 + 1)) x1000 x1001 x1002 x1003 x1004 x1005 x1006 x1007 x1008) else ((strings_IndexByte.f (⟨#[43, 45, 46]⟩ : ByteArray) (bt x3 x32)).bind fun t193 => (if t193 < 0 then (some (3, x1000, x1001, x1002, x1003, x1004, x1005, x1006, x1007, x1008)) else (Yj.l0 k x3 x4 x31 (wrap64 (x32 + 1)) x1000 x1001 x1002 x1003 x1004 x1005 x1006 x1007 x1008))))))) else (none)) else (none)) else ((Yqa.f x3).bind fun t190 => (if t190.toList = ([104, 116, 116, 112] : List UInt8) then (some (0, x4, t190, x1002, x1003, x1004, x1005, x1006, x1007, x1008)) else (if t190.toList = ([104, 116, 116, 112, 115] : List UInt8) then (some (0, x4, t190, x1002, x1003, x1004, x1005, x1006, x1007, x1008)) else (some (16, x4, t190, x1002, x1003, x1004, x1005, x1006, x1007, x1008)))))
end
def Yj.f (k : Nat) (s0_0 : ByteArray) (s0_1 : ByteArray) (s0_2 : ByteArray) (s0_3 : Int) (s0_4 : ByteArray) (s0_5 : ByteArray) (s0_6 : ByteArray) (s0_7 : Bool) (s0_8 : Bool) : Option (Int × ByteArray × ByteArray × ByteArray × Int × ByteArray × ByteArray × ByteArray × Bool × Bool) := (strings_Cut.f s0_0 (⟨#[58]⟩ : ByteArray)).bind fun bt186 => (if bt186.2.2 = true then (if bt186.1.toList = ([] : List UInt8) then (Yj.j0 k bt186.1 bt186.2.1 true s0_0 s0_1 s0_2 s0_3 s0_4 s0_5 s0_6 s0_7 s0_8) else (if 0 < (bt186.1.size : Int) then ((Yw.f (bt bt186.1 0)).bind fun t189 => (Yj.j0 k bt186.1 bt186.2.1 (!t189) s0_0 s0_1 s0_2 s0_3 s0_4 s0_5 s0_6 s0_7 s0_8)) else (none))) else (Yj.j0 k bt186.1 bt186.2.1 true s0_0 s0_1 s0_2 s0_3 s0_4 s0_5 s0_6 s0_7 s0_8))
set_option maxHeartbeats 8000000 in
set_option maxRecDepth 100000 in
theorem Yj.calls (k : Nat) (g : Nat) (s0_0 : ByteArray) (s0_1 : ByteArray) (s0_2 : ByteArray) (s0_3 : Int) (s0_4 : ByteArray) (s0_5 : ByteArray) (s0_6 : ByteArray) (s0_7 : Bool) (s0_8 : Bool) (r1 : Int) (r2 : ByteArray) (r3 : ByteArray) (r4 : ByteArray) (r5 : Int) (r6 : ByteArray) (r7 : ByteArray) (r8 : ByteArray) (r9 : Bool) (r10 : Bool) (w0 w : World) (hE : EnvOk w0) (hI : IsS101 w0 w g s0_0 s0_1 s0_2 s0_3 s0_4 s0_5 s0_6 s0_7 s0_8) (hB : Below w0.heap.size w0 w) (h : Yj.f k s0_0 s0_1 s0_2 s0_3 s0_4 s0_5 s0_6 s0_7 s0_8 = some (r1, r2, r3, r4, r5, r6, r7, r8, r9, r10)) :
  Calls Tryz.prog 55 #[.pointer (some ⟨g, 0, none⟩)] w fun e w' => e = .returned (.int .i64 r1) ∧ IsS101 w0 w' g r2 r3 r4 r5 r6 r7 r8 r9 r10 ∧ Below w0.heap.size w0 w' ∧ KeepBut w w' g none := by
 have HI0 := Ya.mk hI
 have HK := Ya.mk (KeepBut.refl w g none)
 have HL := Ya.mk hB.size
 clear hI
 have HE := Ya.mk hE
 clear hE
 have HW0 := Ya.mk hB.size
 have HB := Ya.mk hB
 clear hB
 have H : ((strings_Cut.f s0_0 (⟨#[58]⟩ : ByteArray)).bind fun bt186 => (if bt186.2.2 = true then (if bt186.1.toList = ([] : List UInt8) then (Yj.j0 k bt186.1 bt186.2.1 true s0_0 s0_1 s0_2 s0_3 s0_4 s0_5 s0_6 s0_7 s0_8) else (if 0 < (bt186.1.size : Int) then ((Yw.f (bt bt186.1 0)).bind fun t189 => (Yj.j0 k bt186.1 bt186.2.1 (!t189) s0_0 s0_1 s0_2 s0_3 s0_4 s0_5 s0_6 s0_7 s0_8)) else (none))) else (Yj.j0 k bt186.1 bt186.2.1 true s0_0 s0_1 s0_2 s0_3 s0_4 s0_5 s0_6 s0_7 s0_8))) = some (r1, r2, r3, r4, r5, r6, r7, r8, r9, r10) := h
 clear h
 replace H := Option.bind_eq_some_iff.mp H
 obtain ⟨⟨t186, t187, t188⟩, A20, H⟩ := H
 try dsimp -simprocs only at H
 have A2 := Ya.mk A20
 clear A20
 have HC3 := Ya.mk H
 clear H
 obtain ⟨HGz4, hgz4⟩ := HI0.out
 have hcz4_0 := Yy HGz4
 have hcz4_1 := Yia HGz4
 have hcz4_2 := Yja HGz4
 have hcz4_3 := Yka HGz4
 have hcz4_4 := Yga HGz4
 have hcz4_5 := Yea HGz4
 have hcz4_6 := Yaa HGz4
 have hcz4_7 := Yda HGz4
 have hcz4_8 := Yba HGz4
 have hfz4_0 := Yc HGz4 0
 have hfz4_1 := Yc HGz4 1
 have hfz4_2 := Yc HGz4 2
 have hfz4_3 := Yc HGz4 3
 have hfz4_4 := Yc HGz4 4
 have hfz4_5 := Yc HGz4 5
 have hfz4_6 := Yc HGz4 6
 have hfz4_7 := Yc HGz4 7
 have hfz4_8 := Yc HGz4 8
 clear HGz4 hgz4
 go_enter Tryz.func55, Tryz.ntmps55
 go_upto_region 2 with (first | ((with_reducible refine Yi (f := 70) rfl ?_); refine Yp (some 14) rfl rfl Tryz.func70 Zg rfl #[.string s0_0, .string (⟨#[58]⟩ : ByteArray)] rfl Zb ?_; (with_reducible refine (strings_Cut.calls s0_0 (⟨#[58]⟩ : ByteArray) t186 t187 t188 _ ?side1 A2.out).mono ?_); (case side1 => first | exact HE.out | exact EnvOk.below HE.out Zd); rintro e w' ⟨rfl, ⟨nd, rfl⟩⟩; refine ⟨_, rfl, ?_⟩))
 (try simp only [Act.put, List.setIfInBounds_toArray, List.set_cons_zero, List.set_cons_succ])
 go_cut [29] (fun v29 wc => ∃ (kq : Nat) (x29_2 : Bool), v29 = .bool x29_2 ∧ Ya (Yj.j0 kq t186 t187 x29_2 s0_0 s0_1 s0_2 s0_3 s0_4 s0_5 s0_6 s0_7 s0_8 = some (r1, r2, r3, r4, r5, r6, r7, r8, r9, r10)) ∧ Ya (kq ≤ k) ∧ Ya (IsS101 w0 wc g s0_0 s0_1 s0_2 s0_3 s0_4 s0_5 s0_6 s0_7 s0_8) ∧ Ya (KeepBut w wc g none) ∧ Ya (Below w0.heap.size w0 wc))
 case first =>
  have H := HC3.out
  clear HC3
  by_cases c5 : t188 = true
  rotate_left
  ·replace c5 := Bool.eq_false_iff.mpr c5
   subst c5
   rw [if_neg (show ¬ (false = true) by decide)] at H
   have H' := Ya.mk H
   clear H
   go_wp2
   go_meet
   case rel => exact ⟨_, (true), Zf, H', ⟨Zna⟩, ⟨Za⟩, ⟨Ze⟩, ⟨Zd⟩⟩
  subst c5
  rw [if_pos rfl] at H
  by_cases c6 : t186.toList = ([] : List UInt8)
  ·rw [if_pos c6] at H
   have c6b0 : (t186.toList == ([] : List UInt8)) = true := beq_iff_eq.mpr c6
   have c6b1 : (t186.toList != ([] : List UInt8)) = false := bne_eq_false_iff_eq.mpr c6
   clear c6
   (first | rw [c6b0] | (simp only [Yza, Yab]; rw [c6b0]) | skip)
   have H' := Ya.mk H
   clear H
   go_wp2
   go_meet
   case rel => exact ⟨_, (true), Zf, H', ⟨Zna⟩, ⟨Za⟩, ⟨Ze⟩, ⟨Zd⟩⟩
  rw [if_neg c6] at H
  have c6b0 : (t186.toList == ([] : List UInt8)) = false := beq_eq_false_iff_ne.mpr c6
  have c6b1 : (t186.toList != ([] : List UInt8)) = true := bne_iff_ne.mpr c6
  (first | rw [c6b0] | (simp only [Yza, Yab]; rw [c6b0]) | skip)
  by_cases c7 : 0 < (t186.size : Int)
  rotate_left
  ·rw [if_neg c7] at H
   exact absurd H Zy
  rw [if_pos c7] at H
  have c7b0 : decide (0 < (t186.size : Int)) = true := decide_eq_true c7
  have c7b1 : decide (0 < t186.size) = true := decide_eq_true Zk
  clear c7
  replace H := Option.bind_eq_some_iff.mp H
  obtain ⟨t189, A90, H⟩ := H
  try dsimp -simprocs only at H
  have A9 := Ya.mk A90
  clear A90
  have H' := Ya.mk H
  clear H
  have p8 : 0 ≤ (0 : Int) := Zk
  have q8 : 0 < t186.size := (by have : (0 : Int) < (t186.size : Int) := of_decide_eq_true Zh; omega)
  have hx8 : ∀ h : 0 < t186.size, ((t186[0]'h).toNat : Int) = bt t186 0 := Yzc t186 0
  clear p8
  have qi8 : (0 < (t186.size : Int)) = True := eq_true (of_decide_eq_true Zh)
  replace q8 := eq_true q8
  go_wp2_with (first | (go_at_call 71; (with_reducible refine (Yw.calls (bt t186 0) t189 _ ?side1 A9.out).mono ?_); (case side1 => first | exact HE.out | exact EnvOk.below HE.out Zd); rintro e w' ⟨rfl, ⟨nd, rfl⟩⟩))
  go_meet
  case rel => exact ⟨_, (!t189), Zf, H', ⟨Zna⟩, ⟨Za⟩, ⟨Ze⟩, ⟨Zd⟩⟩
 case rest =>
  clear HC3
  try clear p2
  try clear c5
  try clear c6
  try clear c6b0
  try clear c6b1
  try clear c7
  try clear c7b0
  try clear c7b1
  try clear p8
  try clear q8
  try clear hx8
  try clear qi8
  try clear hcz4_0
  try clear hcz4_1
  try clear hcz4_2
  try clear hcz4_3
  try clear hcz4_4
  try clear hcz4_5
  try clear hcz4_6
  try clear hcz4_7
  try clear hcz4_8
  try clear hfz4_0
  try clear hfz4_1
  try clear hfz4_2
  try clear hfz4_3
  try clear hfz4_4
  try clear hfz4_5
  try clear hfz4_6
  try clear hfz4_7
  try clear hfz4_8
  try clear p8
  try clear q8
  obtain ⟨kq, x29_2, rfl, HA, HJ2, HI0, HK, HB⟩ := hcut
  cases kq with
  | zero => exact absurd HA.out (by simp [Yj.j0])
  | succ kj2 =>
   have H := HA.out
   clear HA
   simp only [Yj.j0] at H
   by_cases c10 : x29_2 = true
   ·subst c10
    rw [if_pos rfl] at H
    simp only [Option.some.injEq, Prod.mk.injEq] at H
    obtain ⟨rfl, rfl, rfl, rfl, rfl, rfl, rfl, rfl, rfl, rfl⟩ := H
    go_wp2
    go_ret
    exact ⟨Zj, Za, Zd, Ze⟩
   replace c10 := Bool.eq_false_iff.mpr c10
   subst c10
   rw [if_neg (show ¬ (false = true) by decide)] at H
   have H' := Ya.mk H
   clear H
   go_wp2
   go_loopg [32] kj2 (fun kq v32 w' => ∃ (x32_2 : Int), v32 = .int .i64 x32_2 ∧ Ya (Yj.l0 kq t186 t187 (t186.size : Int) x32_2 s0_0 s0_1 s0_2 s0_3 s0_4 s0_5 s0_6 s0_7 s0_8 = some (r1, r2, r3, r4, r5, r6, r7, r8, r9, r10)) ∧ Ya (kq ≤ kj2) ∧ Ya (IsS101 w0 w' g s0_0 s0_1 s0_2 s0_3 s0_4 s0_5 s0_6 s0_7 s0_8) ∧ Ya (KeepBut w w' g none) ∧ Ya (Below w0.heap.size w0 w'))
   case atStart => exact ⟨(0), Zf, H', ⟨Nat.le_refl _⟩, ⟨Za⟩, ⟨Ze⟩, ⟨Zd⟩⟩
   case round =>
    clear H'
    try clear c1
    try clear p2
    try clear c5
    try clear c6
    try clear c6b0
    try clear c6b1
    try clear c7
    try clear c7b0
    try clear c7b1
    try clear p8
    try clear q8
    try clear hx8
    try clear qi8
    try clear c10
    try clear hcz4_0
    try clear hcz4_1
    try clear hcz4_2
    try clear hcz4_3
    try clear hcz4_4
    try clear hcz4_5
    try clear hcz4_6
    try clear hcz4_7
    try clear hcz4_8
    try clear hfz4_0
    try clear hfz4_1
    try clear hfz4_2
    try clear hfz4_3
    try clear hfz4_4
    try clear hfz4_5
    try clear hfz4_6
    try clear hfz4_7
    try clear hfz4_8
    try clear p2
    try clear p8
    try clear q8
    obtain ⟨x32_2, rfl, HA, HK2, HI0, HK, HB⟩ := hrel
    cases gk with
    | zero => exact absurd HA.out (by simp [Yj.l0])
    | succ k2 =>
     have H := HA.out
     clear HA
     simp only [Yj.l0] at H
     by_cases c11 : x32_2 < (t186.size : Int)
     rotate_left
     ·rw [if_neg c11] at H
      have c11b0 : decide (x32_2 < (t186.size : Int)) = false := decide_eq_false c11
      clear c11
      replace H := Option.bind_eq_some_iff.mp H
      obtain ⟨t190, A210, H⟩ := H
      try dsimp -simprocs only at H
      have A21 := Ya.mk A210
      clear A210
      by_cases c22 : t190.toList = ([104, 116, 116, 112] : List UInt8)
      ·rw [if_pos c22] at H
       have c22b0 : (t190.toList == ([104, 116, 116, 112] : List UInt8)) = true := beq_iff_eq.mpr c22
       have c22b1 : (t190.toList != ([104, 116, 116, 112] : List UInt8)) = false := bne_eq_false_iff_eq.mpr c22
       clear c22
       simp only [Option.some.injEq, Prod.mk.injEq] at H
       obtain ⟨rfl, rfl, rfl, rfl, rfl, rfl, rfl, rfl, rfl, rfl⟩ := H
       go_wp2_with (first | ((with_reducible refine Yi (f := 74) rfl ?_); refine Yp (some 55) rfl rfl Tryz.func74 Zg rfl #[.string t186] rfl Zb ?_; (with_reducible refine (Yqa.calls t186 t190 _ ?side1 A21.out).mono ?_); (case side1 => first | exact HE.out | exact EnvOk.below HE.out Zd); rintro e w23 ⟨rfl, hb⟩; refine ⟨_, rfl, ?_⟩; have n0_ := Ya.mk (IsS101.below Za hb); have n1_ := Ya.mk (KeepBut.trans Ze (KeepBut.of_below hb g none) (.inl rfl)); have n2_ := Ya.mk (Yn Zd hb); clear HI0; clear HK; clear HB; have HI0 := n0_; have HK := n1_; have HB := n2_; clear n0_ n1_ n2_; (try clear hb); (try clear hb2); (try clear hk); (try clear hi); obtain ⟨HGz24, hgz24⟩ := HI0.out; have hcz24_0 := Yy HGz24; have hcz24_1 := Yia HGz24; have hcz24_2 := Yja HGz24; have hcz24_3 := Yka HGz24; have hcz24_4 := Yga HGz24; have hcz24_5 := Yea HGz24; have hcz24_6 := Yaa HGz24; have hcz24_7 := Yda HGz24; have hcz24_8 := Yba HGz24; have hfz24_0 := Yc HGz24 0; have hfz24_1 := Yc HGz24 1; have hfz24_2 := Yc HGz24 2; have hfz24_3 := Yc HGz24 3; have hfz24_4 := Yc HGz24 4; have hfz24_5 := Yc HGz24 5; have hfz24_6 := Yc HGz24 6; have hfz24_7 := Yc HGz24 7; have hfz24_8 := Yc HGz24 8; clear HGz24 hgz24))
       go_ret
       exact ⟨Zj, Za, Zd, Ze⟩
      rw [if_neg c22] at H
      have c22b0 : (t190.toList == ([104, 116, 116, 112] : List UInt8)) = false := beq_eq_false_iff_ne.mpr c22
      have c22b1 : (t190.toList != ([104, 116, 116, 112] : List UInt8)) = true := bne_iff_ne.mpr c22
      by_cases c25 : t190.toList = ([104, 116, 116, 112, 115] : List UInt8)
      rotate_left
      ·rw [if_neg c25] at H
       have c25b0 : (t190.toList == ([104, 116, 116, 112, 115] : List UInt8)) = false := beq_eq_false_iff_ne.mpr c25
       have c25b1 : (t190.toList != ([104, 116, 116, 112, 115] : List UInt8)) = true := bne_iff_ne.mpr c25
       simp only [Option.some.injEq, Prod.mk.injEq] at H
       obtain ⟨rfl, rfl, rfl, rfl, rfl, rfl, rfl, rfl, rfl, rfl⟩ := H
       go_wp2_with (first | ((with_reducible refine Yi (f := 74) rfl ?_); refine Yp (some 55) rfl rfl Tryz.func74 Zg rfl #[.string t186] rfl Zb ?_; (with_reducible refine (Yqa.calls t186 t190 _ ?side1 A21.out).mono ?_); (case side1 => first | exact HE.out | exact EnvOk.below HE.out Zd); rintro e w28 ⟨rfl, hb⟩; refine ⟨_, rfl, ?_⟩; have n0_ := Ya.mk (IsS101.below Za hb); have n1_ := Ya.mk (KeepBut.trans Ze (KeepBut.of_below hb g none) (.inl rfl)); have n2_ := Ya.mk (Yn Zd hb); clear HI0; clear HK; clear HB; have HI0 := n0_; have HK := n1_; have HB := n2_; clear n0_ n1_ n2_; (try clear hb); (try clear hb2); (try clear hk); (try clear hi); obtain ⟨HGz29, hgz29⟩ := HI0.out; have hcz29_0 := Yy HGz29; have hcz29_1 := Yia HGz29; have hcz29_2 := Yja HGz29; have hcz29_3 := Yka HGz29; have hcz29_4 := Yga HGz29; have hcz29_5 := Yea HGz29; have hcz29_6 := Yaa HGz29; have hcz29_7 := Yda HGz29; have hcz29_8 := Yba HGz29; have hfz29_0 := Yc HGz29 0; have hfz29_1 := Yc HGz29 1; have hfz29_2 := Yc HGz29 2; have hfz29_3 := Yc HGz29 3; have hfz29_4 := Yc HGz29 4; have hfz29_5 := Yc HGz29 5; have hfz29_6 := Yc HGz29 6; have hfz29_7 := Yc HGz29 7; have hfz29_8 := Yc HGz29 8; clear HGz29 hgz29))
       go_ret
       exact ⟨Zj, Za, Zd, Ze⟩
      rw [if_pos c25] at H
      have c25b0 : (t190.toList == ([104, 116, 116, 112, 115] : List UInt8)) = true := beq_iff_eq.mpr c25
      have c25b1 : (t190.toList != ([104, 116, 116, 112, 115] : List UInt8)) = false := bne_eq_false_iff_eq.mpr c25
      clear c25
      simp only [Option.some.injEq, Prod.mk.injEq] at H
      obtain ⟨rfl, rfl, rfl, rfl, rfl, rfl, rfl, rfl, rfl, rfl⟩ := H
      go_wp2_with (first | ((with_reducible refine Yi (f := 74) rfl ?_); refine Yp (some 55) rfl rfl Tryz.func74 Zg rfl #[.string t186] rfl Zb ?_; (with_reducible refine (Yqa.calls t186 t190 _ ?side1 A21.out).mono ?_); (case side1 => first | exact HE.out | exact EnvOk.below HE.out Zd); rintro e w26 ⟨rfl, hb⟩; refine ⟨_, rfl, ?_⟩; have n0_ := Ya.mk (IsS101.below Za hb); have n1_ := Ya.mk (KeepBut.trans Ze (KeepBut.of_below hb g none) (.inl rfl)); have n2_ := Ya.mk (Yn Zd hb); clear HI0; clear HK; clear HB; have HI0 := n0_; have HK := n1_; have HB := n2_; clear n0_ n1_ n2_; (try clear hb); (try clear hb2); (try clear hk); (try clear hi); obtain ⟨HGz27, hgz27⟩ := HI0.out; have hcz27_0 := Yy HGz27; have hcz27_1 := Yia HGz27; have hcz27_2 := Yja HGz27; have hcz27_3 := Yka HGz27; have hcz27_4 := Yga HGz27; have hcz27_5 := Yea HGz27; have hcz27_6 := Yaa HGz27; have hcz27_7 := Yda HGz27; have hcz27_8 := Yba HGz27; have hfz27_0 := Yc HGz27 0; have hfz27_1 := Yc HGz27 1; have hfz27_2 := Yc HGz27 2; have hfz27_3 := Yc HGz27 3; have hfz27_4 := Yc HGz27 4; have hfz27_5 := Yc HGz27 5; have hfz27_6 := Yc HGz27 6; have hfz27_7 := Yc HGz27 7; have hfz27_8 := Yc HGz27 8; clear HGz27 hgz27))
      go_ret
      exact ⟨Zj, Za, Zd, Ze⟩
     rw [if_pos c11] at H
     have c11b0 : decide (x32_2 < (t186.size : Int)) = true := decide_eq_true c11
     clear c11
     by_cases c12 : 0 ≤ x32_2
     rotate_left
     ·rw [if_neg c12] at H
      exact absurd H Zy
     rw [if_pos c12] at H
     have c12b0 : decide (0 ≤ x32_2) = true := decide_eq_true c12
     clear c12
     by_cases c13 : x32_2 < (t186.size : Int)
     rotate_left
     ·rw [if_neg c13] at H
      exact absurd H Zy
     rw [if_pos c13] at H
     have c13b0 : decide (x32_2 < (t186.size : Int)) = true := decide_eq_true c13
     clear c13
     replace H := Option.bind_eq_some_iff.mp H
     obtain ⟨t191, A150, H⟩ := H
     try dsimp -simprocs only at H
     have A15 := Ya.mk A150
     clear A150
     by_cases c16 : t191 = true
     ·subst c16
      rw [if_pos rfl] at H
      have H' := Ya.mk H
      clear H
      have p14 : 0 ≤ (x32_2 : Int) := of_decide_eq_true Zh
      have q14 : x32_2 < (t186.size : Int) := of_decide_eq_true Zh
      have hx14 := Yzc t186 x32_2
      replace p14 := eq_true p14
      replace q14 := eq_true q14
      go_wp2_with (first | ((with_reducible refine Yi (f := 71) rfl ?_); refine Yp (some 39) rfl rfl Tryz.func71 Zg rfl #[.int .u8 (bt t186 x32_2)] rfl Zb ?_; (with_reducible refine (Yw.calls (bt t186 x32_2) true _ ?side1 A15.out).mono ?_); (case side1 => first | exact HE.out | exact EnvOk.below HE.out Zd); rintro e w' ⟨rfl, ⟨nd, rfl⟩⟩; refine ⟨_, rfl, ?_⟩))
      go_roundg k2
      case measure => have := HJ2.out; have := HK2.out; omega
      case rel => exact ⟨(wrap64 (x32_2 + 1)), Zf, H', ⟨Zma⟩, ⟨Za⟩, ⟨Ze⟩, ⟨Zd⟩⟩
     replace c16 := Bool.eq_false_iff.mpr c16
     subst c16
     rw [if_neg (show ¬ (false = true) by decide)] at H
     replace H := Option.bind_eq_some_iff.mp H
     obtain ⟨t192, A170, H⟩ := H
     try dsimp -simprocs only at H
     have A17 := Ya.mk A170
     clear A170
     by_cases c18 : t192 = true
     ·subst c18
      rw [if_pos rfl] at H
      have H' := Ya.mk H
      clear H
      have p14 : 0 ≤ (x32_2 : Int) := of_decide_eq_true Zh
      have q14 : x32_2 < (t186.size : Int) := of_decide_eq_true Zh
      have hx14 := Yzc t186 x32_2
      replace p14 := eq_true p14
      replace q14 := eq_true q14
      go_wp2_with (first | ((with_reducible refine Yi (f := 71) rfl ?_); refine Yp (some 39) rfl rfl Tryz.func71 Zg rfl #[.int .u8 (bt t186 x32_2)] rfl Zb ?_; (with_reducible refine (Yw.calls (bt t186 x32_2) false _ ?side1 A15.out).mono ?_); (case side1 => first | exact HE.out | exact EnvOk.below HE.out Zd); rintro e w' ⟨rfl, ⟨nd, rfl⟩⟩; refine ⟨_, rfl, ?_⟩) | (go_at_call 72; (with_reducible refine (Yq.calls (bt t186 x32_2) true _ ?side1 A17.out).mono ?_); (case side1 => first | exact HE.out | exact EnvOk.below HE.out Zd); rintro e w' ⟨rfl, ⟨nd, rfl⟩⟩))
      go_roundg k2
      case measure => have := HJ2.out; have := HK2.out; omega
      case rel => exact ⟨(wrap64 (x32_2 + 1)), Zf, H', ⟨Zma⟩, ⟨Za⟩, ⟨Ze⟩, ⟨Zd⟩⟩
     replace c18 := Bool.eq_false_iff.mpr c18
     subst c18
     rw [if_neg (show ¬ (false = true) by decide)] at H
     replace H := Option.bind_eq_some_iff.mp H
     obtain ⟨t193, A190, H⟩ := H
     try dsimp -simprocs only at H
     have A19 := Ya.mk A190
     clear A190
     by_cases c20 : t193 < 0
     ·rw [if_pos c20] at H
      have c20b0 : decide (t193 < 0) = true := decide_eq_true c20
      clear c20
      simp only [Option.some.injEq, Prod.mk.injEq] at H
      obtain ⟨rfl, rfl, rfl, rfl, rfl, rfl, rfl, rfl, rfl, rfl⟩ := H
      have p14 : 0 ≤ (x32_2 : Int) := of_decide_eq_true Zh
      have q14 : x32_2 < (t186.size : Int) := of_decide_eq_true Zh
      have hx14 := Yzc t186 x32_2
      replace p14 := eq_true p14
      replace q14 := eq_true q14
      go_wp2_with (first | ((with_reducible refine Yi (f := 71) rfl ?_); refine Yp (some 39) rfl rfl Tryz.func71 Zg rfl #[.int .u8 (bt t186 x32_2)] rfl Zb ?_; (with_reducible refine (Yw.calls (bt t186 x32_2) false _ ?side1 A15.out).mono ?_); (case side1 => first | exact HE.out | exact EnvOk.below HE.out Zd); rintro e w' ⟨rfl, ⟨nd, rfl⟩⟩; refine ⟨_, rfl, ?_⟩) | (go_at_call 72; (with_reducible refine (Yq.calls (bt t186 x32_2) false _ ?side1 A17.out).mono ?_); (case side1 => first | exact HE.out | exact EnvOk.below HE.out Zd); rintro e w' ⟨rfl, ⟨nd, rfl⟩⟩) | (go_at_call 73; (with_reducible refine (strings_IndexByte.calls (⟨#[43, 45, 46]⟩ : ByteArray) (bt t186 x32_2) t193 _ ?side1 A19.out).mono ?_); (case side1 => first | exact HE.out | exact EnvOk.below HE.out Zd); rintro e w' ⟨rfl, ⟨nd, rfl⟩⟩))
      go_ret
      exact ⟨Zj, Za, Zd, Ze⟩
     rw [if_neg c20] at H
     have c20b0 : decide (t193 < 0) = false := decide_eq_false c20
     clear c20
     have H' := Ya.mk H
     clear H
     have p14 : 0 ≤ (x32_2 : Int) := of_decide_eq_true Zh
     have q14 : x32_2 < (t186.size : Int) := of_decide_eq_true Zh
     have hx14 := Yzc t186 x32_2
     replace p14 := eq_true p14
     replace q14 := eq_true q14
     go_wp2_with (first | ((with_reducible refine Yi (f := 71) rfl ?_); refine Yp (some 39) rfl rfl Tryz.func71 Zg rfl #[.int .u8 (bt t186 x32_2)] rfl Zb ?_; (with_reducible refine (Yw.calls (bt t186 x32_2) false _ ?side1 A15.out).mono ?_); (case side1 => first | exact HE.out | exact EnvOk.below HE.out Zd); rintro e w' ⟨rfl, ⟨nd, rfl⟩⟩; refine ⟨_, rfl, ?_⟩) | (go_at_call 72; (with_reducible refine (Yq.calls (bt t186 x32_2) false _ ?side1 A17.out).mono ?_); (case side1 => first | exact HE.out | exact EnvOk.below HE.out Zd); rintro e w' ⟨rfl, ⟨nd, rfl⟩⟩) | (go_at_call 73; (with_reducible refine (strings_IndexByte.calls (⟨#[43, 45, 46]⟩ : ByteArray) (bt t186 x32_2) t193 _ ?side1 A19.out).mono ?_); (case side1 => first | exact HE.out | exact EnvOk.below HE.out Zd); rintro e w' ⟨rfl, ⟨nd, rfl⟩⟩))
     go_roundg k2
     case measure => have := HJ2.out; have := HK2.out; omega
     case rel => exact ⟨(wrap64 (x32_2 + 1)), Zf, H', ⟨Zma⟩, ⟨Za⟩, ⟨Ze⟩, ⟨Zd⟩⟩
def Ysb.f (k : Nat) (a0 : ByteArray) : Option (ByteArray × Int) := (Yib.f a0).bind fun t194 => ((Yqa.f t194).bind fun t195 => (if t195.toList = ([] : List UInt8) then (some ((⟨#[]⟩ : ByteArray), 4)) else ((Yt.f k t195).bind fun t196 => (if t196 = true then (some (t195, 0)) else (some ((⟨#[]⟩ : ByteArray), 17))))))
set_option maxHeartbeats 8000000 in
set_option maxRecDepth 100000 in
theorem Ysb.calls (k : Nat) (a0 : ByteArray) (r1 : ByteArray) (r2 : Int) (w : World) (hE : EnvOk w) (h : Ysb.f k a0 = some (r1, r2)) :
  Calls Tryz.prog 78 #[.string a0] w fun e w' => e = .returned (.tuple #[.string r1, .int .i64 r2]) ∧ Below w.heap.size w w' := by
 have HE := Ya.mk hE
 clear hE
 have HB := Ya.mk (Below.refl w.heap.size w)
 have H : ((Yib.f a0).bind fun t194 => ((Yqa.f t194).bind fun t195 => (if t195.toList = ([] : List UInt8) then (some ((⟨#[]⟩ : ByteArray), 4)) else ((Yt.f k t195).bind fun t196 => (if t196 = true then (some (t195, 0)) else (some ((⟨#[]⟩ : ByteArray), 17))))))) = some (r1, r2) := h
 clear h
 replace H := Option.bind_eq_some_iff.mp H
 obtain ⟨t194, A20, H⟩ := H
 try dsimp -simprocs only at H
 have A2 := Ya.mk A20
 clear A20
 replace H := Option.bind_eq_some_iff.mp H
 obtain ⟨t195, A30, H⟩ := H
 try dsimp -simprocs only at H
 have A3 := Ya.mk A30
 clear A30
 by_cases c4 : t195.toList = ([] : List UInt8)
 ·rw [if_pos c4] at H
  have c4b0 : (t195.toList == ([] : List UInt8)) = true := beq_iff_eq.mpr c4
  have c4b1 : (t195.toList != ([] : List UInt8)) = false := bne_eq_false_iff_eq.mpr c4
  clear c4
  simp only [Option.some.injEq, Prod.mk.injEq] at H
  obtain ⟨rfl, rfl⟩ := H
  go_enter Tryz.func78, Tryz.ntmps78
  go_wp2_with (first | ((with_reducible refine Yi (f := 102) rfl ?_); refine Yp (some 5) rfl rfl Tryz.func102 Zg rfl #[.string a0] rfl Zb ?_; (with_reducible refine (Yib.calls a0 t194 _ ?side1 A2.out).mono ?_); (case side1 => first | exact HE.out | exact EnvOk.below HE.out Zc); rintro e w5 ⟨rfl, hb⟩; refine ⟨_, rfl, ?_⟩; have n0_ := Ya.mk (Yn Zc hb); clear HB; have HB := n0_; clear n0_; (try clear hb); (try clear hb2); (try clear hk); (try clear hi)) | ((with_reducible refine Yi (f := 74) rfl ?_); refine Yp (some 6) rfl rfl Tryz.func74 Zg rfl #[.string t194] rfl Zb ?_; (with_reducible refine (Yqa.calls t194 t195 _ ?side1 A3.out).mono ?_); (case side1 => first | exact HE.out | exact EnvOk.below HE.out Zc); rintro e w6 ⟨rfl, hb⟩; refine ⟨_, rfl, ?_⟩; have n0_ := Ya.mk (Yn Zc hb); clear HB; have HB := n0_; clear n0_; (try clear hb); (try clear hb2); (try clear hk); (try clear hi)))
  go_ret2
  exact ⟨Zj, Zc⟩
 rw [if_neg c4] at H
 have c4b0 : (t195.toList == ([] : List UInt8)) = false := beq_eq_false_iff_ne.mpr c4
 have c4b1 : (t195.toList != ([] : List UInt8)) = true := bne_iff_ne.mpr c4
 replace H := Option.bind_eq_some_iff.mp H
 obtain ⟨t196, A70, H⟩ := H
 try dsimp -simprocs only at H
 have A7 := Ya.mk A70
 clear A70
 by_cases c8 : t196 = true
 ·subst c8
  rw [if_pos rfl] at H
  simp only [Option.some.injEq, Prod.mk.injEq] at H
  obtain ⟨rfl, rfl⟩ := H
  go_enter Tryz.func78, Tryz.ntmps78
  go_wp2_with (first | ((with_reducible refine Yi (f := 102) rfl ?_); refine Yp (some 5) rfl rfl Tryz.func102 Zg rfl #[.string a0] rfl Zb ?_; (with_reducible refine (Yib.calls a0 t194 _ ?side1 A2.out).mono ?_); (case side1 => first | exact HE.out | exact EnvOk.below HE.out Zc); rintro e w9 ⟨rfl, hb⟩; refine ⟨_, rfl, ?_⟩; have n0_ := Ya.mk (Yn Zc hb); clear HB; have HB := n0_; clear n0_; (try clear hb); (try clear hb2); (try clear hk); (try clear hi)) | ((with_reducible refine Yi (f := 74) rfl ?_); refine Yp (some 6) rfl rfl Tryz.func74 Zg rfl #[.string t194] rfl Zb ?_; (with_reducible refine (Yqa.calls t194 t195 _ ?side1 A3.out).mono ?_); (case side1 => first | exact HE.out | exact EnvOk.below HE.out Zc); rintro e w10 ⟨rfl, hb⟩; refine ⟨_, rfl, ?_⟩; have n0_ := Ya.mk (Yn Zc hb); clear HB; have HB := n0_; clear n0_; (try clear hb); (try clear hb2); (try clear hk); (try clear hi)) | ((with_reducible refine Yi (f := 103) rfl ?_); refine Yp (some 12) rfl rfl Tryz.func103 Zg rfl #[.string t195] rfl Zb ?_; (with_reducible refine (Yt.calls k t195 true _ ?side1 A7.out).mono ?_); (case side1 => first | exact HE.out | exact EnvOk.below HE.out Zc); rintro e w11 ⟨rfl, hb⟩; refine ⟨_, rfl, ?_⟩; have n0_ := Ya.mk (Yn Zc hb); clear HB; have HB := n0_; clear n0_; (try clear hb); (try clear hb2); (try clear hk); (try clear hi)))
  go_ret2
  exact ⟨Zj, Zc⟩
 replace c8 := Bool.eq_false_iff.mpr c8
 subst c8
 rw [if_neg (show ¬ (false = true) by decide)] at H
 simp only [Option.some.injEq, Prod.mk.injEq] at H
 obtain ⟨rfl, rfl⟩ := H
 go_enter Tryz.func78, Tryz.ntmps78
 go_wp2_with (first | ((with_reducible refine Yi (f := 102) rfl ?_); refine Yp (some 5) rfl rfl Tryz.func102 Zg rfl #[.string a0] rfl Zb ?_; (with_reducible refine (Yib.calls a0 t194 _ ?side1 A2.out).mono ?_); (case side1 => first | exact HE.out | exact EnvOk.below HE.out Zc); rintro e w12 ⟨rfl, hb⟩; refine ⟨_, rfl, ?_⟩; have n0_ := Ya.mk (Yn Zc hb); clear HB; have HB := n0_; clear n0_; (try clear hb); (try clear hb2); (try clear hk); (try clear hi)) | ((with_reducible refine Yi (f := 74) rfl ?_); refine Yp (some 6) rfl rfl Tryz.func74 Zg rfl #[.string t194] rfl Zb ?_; (with_reducible refine (Yqa.calls t194 t195 _ ?side1 A3.out).mono ?_); (case side1 => first | exact HE.out | exact EnvOk.below HE.out Zc); rintro e w13 ⟨rfl, hb⟩; refine ⟨_, rfl, ?_⟩; have n0_ := Ya.mk (Yn Zc hb); clear HB; have HB := n0_; clear n0_; (try clear hb); (try clear hb2); (try clear hk); (try clear hi)) | ((with_reducible refine Yi (f := 103) rfl ?_); refine Yp (some 12) rfl rfl Tryz.func103 Zg rfl #[.string t195] rfl Zb ?_; (with_reducible refine (Yt.calls k t195 false _ ?side1 A7.out).mono ?_); (case side1 => first | exact HE.out | exact EnvOk.below HE.out Zc); rintro e w14 ⟨rfl, hb⟩; refine ⟨_, rfl, ?_⟩; have n0_ := Ya.mk (Yn Zc hb); clear HB; have HB := n0_; clear n0_; (try clear hb); (try clear hb2); (try clear hk); (try clear hi)))
 go_ret2
 exact ⟨Zj, Zc⟩
def Yfc.f (k : Nat) (s0_0 : ByteArray) (s0_1 : ByteArray) (s0_2 : ByteArray) (s0_3 : Int) (s0_4 : ByteArray) (s0_5 : ByteArray) (s0_6 : ByteArray) (s0_7 : Bool) (s0_8 : Bool) : Option (Int × ByteArray × ByteArray × ByteArray × Int × ByteArray × ByteArray × ByteArray × Bool × Bool) := (strings_IndexAny.f s0_0 (⟨#[47, 92]⟩ : ByteArray)).bind fun t197 => (if t197 = 0 then ((Ysa.f s0_0 (⟨#[47, 92]⟩ : ByteArray)).bind fun t198 => ((Yma.f t198 s0_1 s0_2 s0_3 s0_4 s0_5 s0_6 s0_7 s0_8 (⟨#[47, 92, 63, 35]⟩ : ByteArray)).bind fun bt199 => ((strings_IndexByte.f bt199.1 64).bind fun t209 => (if t209 ≥ 0 then (some (3, bt199.2.1, bt199.2.2.1, bt199.2.2.2.1, bt199.2.2.2.2.1, bt199.2.2.2.2.2.1, bt199.2.2.2.2.2.2.1, bt199.2.2.2.2.2.2.2.1, bt199.2.2.2.2.2.2.2.2.1, bt199.2.2.2.2.2.2.2.2.2)) else ((strings_Cut.f bt199.1 (⟨#[58]⟩ : ByteArray)).bind fun bt210 => ((Ysb.f k bt210.1).bind fun bt213 => (if bt213.2 = 0 then (if bt210.2.1.toList = ([] : List UInt8) then (some (0, bt199.2.1, bt199.2.2.1, bt213.1, bt199.2.2.2.2.1, bt199.2.2.2.2.2.1, bt199.2.2.2.2.2.2.1, bt199.2.2.2.2.2.2.2.1, bt199.2.2.2.2.2.2.2.2.1, bt199.2.2.2.2.2.2.2.2.2)) else ((Ym.f k bt210.2.1 65535).bind fun bt215 => (if bt215.2 = 0 then ((Yxc.f bt199.2.2.1).bind fun t217 => (if bt215.1 = t217 then (some (0, bt199.2.1, bt199.2.2.1, bt213.1, bt199.2.2.2.2.1, bt199.2.2.2.2.2.1, bt199.2.2.2.2.2.2.1, bt199.2.2.2.2.2.2.2.1, bt199.2.2.2.2.2.2.2.2.1, bt199.2.2.2.2.2.2.2.2.2)) else (some (0, bt199.2.1, bt199.2.2.1, bt213.1, bt215.1, bt199.2.2.2.2.2.1, bt199.2.2.2.2.2.2.1, bt199.2.2.2.2.2.2.2.1, bt199.2.2.2.2.2.2.2.2.1, bt199.2.2.2.2.2.2.2.2.2)))) else (some (3, bt199.2.1, bt199.2.2.1, bt213.1, bt199.2.2.2.2.1, bt199.2.2.2.2.2.1, bt199.2.2.2.2.2.2.1, bt199.2.2.2.2.2.2.2.1, bt199.2.2.2.2.2.2.2.2.1, bt199.2.2.2.2.2.2.2.2.2))))) else (some (bt213.2, bt199.2.1, bt199.2.2.1, bt199.2.2.2.1, bt199.2.2.2.2.1, bt199.2.2.2.2.2.1, bt199.2.2.2.2.2.2.1, bt199.2.2.2.2.2.2.2.1, bt199.2.2.2.2.2.2.2.2.1, bt199.2.2.2.2.2.2.2.2.2))))))))) else (some (3, s0_0, s0_1, s0_2, s0_3, s0_4, s0_5, s0_6, s0_7, s0_8)))
set_option maxHeartbeats 8000000 in
set_option maxRecDepth 100000 in
theorem Yfc.calls (k : Nat) (g : Nat) (s0_0 : ByteArray) (s0_1 : ByteArray) (s0_2 : ByteArray) (s0_3 : Int) (s0_4 : ByteArray) (s0_5 : ByteArray) (s0_6 : ByteArray) (s0_7 : Bool) (s0_8 : Bool) (r1 : Int) (r2 : ByteArray) (r3 : ByteArray) (r4 : ByteArray) (r5 : Int) (r6 : ByteArray) (r7 : ByteArray) (r8 : ByteArray) (r9 : Bool) (r10 : Bool) (w0 w : World) (hE : EnvOk w0) (hI : IsS101 w0 w g s0_0 s0_1 s0_2 s0_3 s0_4 s0_5 s0_6 s0_7 s0_8) (hB : Below w0.heap.size w0 w) (h : Yfc.f k s0_0 s0_1 s0_2 s0_3 s0_4 s0_5 s0_6 s0_7 s0_8 = some (r1, r2, r3, r4, r5, r6, r7, r8, r9, r10)) :
  Calls Tryz.prog 56 #[.pointer (some ⟨g, 0, none⟩)] w fun e w' => e = .returned (.int .i64 r1) ∧ IsS101 w0 w' g r2 r3 r4 r5 r6 r7 r8 r9 r10 ∧ Below w0.heap.size w0 w' ∧ KeepBut w w' g none := by
 have HI0 := Ya.mk hI
 have HK := Ya.mk (KeepBut.refl w g none)
 have HL := Ya.mk hB.size
 clear hI
 have HE := Ya.mk hE
 clear hE
 have HW0 := Ya.mk hB.size
 have HB := Ya.mk hB
 clear hB
 have H : ((strings_IndexAny.f s0_0 (⟨#[47, 92]⟩ : ByteArray)).bind fun t197 => (if t197 = 0 then ((Ysa.f s0_0 (⟨#[47, 92]⟩ : ByteArray)).bind fun t198 => ((Yma.f t198 s0_1 s0_2 s0_3 s0_4 s0_5 s0_6 s0_7 s0_8 (⟨#[47, 92, 63, 35]⟩ : ByteArray)).bind fun bt199 => ((strings_IndexByte.f bt199.1 64).bind fun t209 => (if t209 ≥ 0 then (some (3, bt199.2.1, bt199.2.2.1, bt199.2.2.2.1, bt199.2.2.2.2.1, bt199.2.2.2.2.2.1, bt199.2.2.2.2.2.2.1, bt199.2.2.2.2.2.2.2.1, bt199.2.2.2.2.2.2.2.2.1, bt199.2.2.2.2.2.2.2.2.2)) else ((strings_Cut.f bt199.1 (⟨#[58]⟩ : ByteArray)).bind fun bt210 => ((Ysb.f k bt210.1).bind fun bt213 => (if bt213.2 = 0 then (if bt210.2.1.toList = ([] : List UInt8) then (some (0, bt199.2.1, bt199.2.2.1, bt213.1, bt199.2.2.2.2.1, bt199.2.2.2.2.2.1, bt199.2.2.2.2.2.2.1, bt199.2.2.2.2.2.2.2.1, bt199.2.2.2.2.2.2.2.2.1, bt199.2.2.2.2.2.2.2.2.2)) else ((Ym.f k bt210.2.1 65535).bind fun bt215 => (if bt215.2 = 0 then ((Yxc.f bt199.2.2.1).bind fun t217 => (if bt215.1 = t217 then (some (0, bt199.2.1, bt199.2.2.1, bt213.1, bt199.2.2.2.2.1, bt199.2.2.2.2.2.1, bt199.2.2.2.2.2.2.1, bt199.2.2.2.2.2.2.2.1, bt199.2.2.2.2.2.2.2.2.1, bt199.2.2.2.2.2.2.2.2.2)) else (some (0, bt199.2.1, bt199.2.2.1, bt213.1, bt215.1, bt199.2.2.2.2.2.1, bt199.2.2.2.2.2.2.1, bt199.2.2.2.2.2.2.2.1, bt199.2.2.2.2.2.2.2.2.1, bt199.2.2.2.2.2.2.2.2.2)))) else (some (3, bt199.2.1, bt199.2.2.1, bt213.1, bt199.2.2.2.2.1, bt199.2.2.2.2.2.1, bt199.2.2.2.2.2.2.1, bt199.2.2.2.2.2.2.2.1, bt199.2.2.2.2.2.2.2.2.1, bt199.2.2.2.2.2.2.2.2.2))))) else (some (bt213.2, bt199.2.1, bt199.2.2.1, bt199.2.2.2.1, bt199.2.2.2.2.1, bt199.2.2.2.2.2.1, bt199.2.2.2.2.2.2.1, bt199.2.2.2.2.2.2.2.1, bt199.2.2.2.2.2.2.2.2.1, bt199.2.2.2.2.2.2.2.2.2))))))))) else (some (3, s0_0, s0_1, s0_2, s0_3, s0_4, s0_5, s0_6, s0_7, s0_8)))) = some (r1, r2, r3, r4, r5, r6, r7, r8, r9, r10) := h
 clear h
 replace H := Option.bind_eq_some_iff.mp H
 obtain ⟨t197, A20, H⟩ := H
 try dsimp -simprocs only at H
 have A2 := Ya.mk A20
 clear A20
 by_cases c3 : t197 = 0
 rotate_left
 ·rw [if_neg c3] at H
  have c3b0 : (t197 == 0) = false := beq_eq_false_iff_ne.mpr c3
  have c3b1 : (t197 != 0) = true := bne_iff_ne.mpr c3
  simp only [Option.some.injEq, Prod.mk.injEq] at H
  obtain ⟨rfl, rfl, rfl, rfl, rfl, rfl, rfl, rfl, rfl, rfl⟩ := H
  obtain ⟨HGz61, hgz61⟩ := HI0.out
  have hcz61_0 := Yy HGz61
  have hcz61_1 := Yia HGz61
  have hcz61_2 := Yja HGz61
  have hcz61_3 := Yka HGz61
  have hcz61_4 := Yga HGz61
  have hcz61_5 := Yea HGz61
  have hcz61_6 := Yaa HGz61
  have hcz61_7 := Yda HGz61
  have hcz61_8 := Yba HGz61
  have hfz61_0 := Yc HGz61 0
  have hfz61_1 := Yc HGz61 1
  have hfz61_2 := Yc HGz61 2
  have hfz61_3 := Yc HGz61 3
  have hfz61_4 := Yc HGz61 4
  have hfz61_5 := Yc HGz61 5
  have hfz61_6 := Yc HGz61 6
  have hfz61_7 := Yc HGz61 7
  have hfz61_8 := Yc HGz61 8
  clear HGz61 hgz61
  go_enter Tryz.func56, Tryz.ntmps56
  go_wp2_with (first | ((with_reducible refine Yi (f := 75) rfl ?_); refine Yp (some 15) rfl rfl Tryz.func75 Zg rfl #[.string s0_0, .string (⟨#[47, 92]⟩ : ByteArray)] rfl Zb ?_; (with_reducible refine (strings_IndexAny.calls s0_0 (⟨#[47, 92]⟩ : ByteArray) t197 _ ?side1 A2.out).mono ?_); (case side1 => first | exact HE.out | exact EnvOk.below HE.out Zd); rintro e w62 ⟨rfl, hb⟩; refine ⟨_, rfl, ?_⟩; have n0_ := Ya.mk (IsS101.below Za hb); have n1_ := Ya.mk (KeepBut.trans Ze (KeepBut.of_below hb g none) (.inl rfl)); have n2_ := Ya.mk (Yn Zd hb); clear HI0; clear HK; clear HB; have HI0 := n0_; have HK := n1_; have HB := n2_; clear n0_ n1_ n2_; (try clear hb); (try clear hb2); (try clear hk); (try clear hi)))
  go_ret
  exact ⟨Zj, Za, Zd, Ze⟩
 rw [if_pos c3] at H
 have c3b0 : (t197 == 0) = true := beq_iff_eq.mpr c3
 have c3b1 : (t197 != 0) = false := bne_eq_false_iff_eq.mpr c3
 clear c3
 replace H := Option.bind_eq_some_iff.mp H
 obtain ⟨t198, A40, H⟩ := H
 try dsimp -simprocs only at H
 have A4 := Ya.mk A40
 clear A40
 replace H := Option.bind_eq_some_iff.mp H
 obtain ⟨⟨t199, t200, t201, t202, t203, t204, t205, t206, t207, t208⟩, A50, H⟩ := H
 try dsimp -simprocs only at H
 have A5 := Ya.mk A50
 clear A50
 replace H := Option.bind_eq_some_iff.mp H
 obtain ⟨t209, A60, H⟩ := H
 try dsimp -simprocs only at H
 have A6 := Ya.mk A60
 clear A60
 by_cases c7 : t209 ≥ 0
 ·rw [if_pos c7] at H
  have c7b0 : decide (0 ≤ t209) = true := decide_eq_true c7
  clear c7
  simp only [Option.some.injEq, Prod.mk.injEq] at H
  obtain ⟨rfl, rfl, rfl, rfl, rfl, rfl, rfl, rfl, rfl, rfl⟩ := H
  obtain ⟨HGz8, hgz8⟩ := HI0.out
  have hcz8_0 := Yy HGz8
  have hcz8_1 := Yia HGz8
  have hcz8_2 := Yja HGz8
  have hcz8_3 := Yka HGz8
  have hcz8_4 := Yga HGz8
  have hcz8_5 := Yea HGz8
  have hcz8_6 := Yaa HGz8
  have hcz8_7 := Yda HGz8
  have hcz8_8 := Yba HGz8
  have hfz8_0 := Yc HGz8 0
  have hfz8_1 := Yc HGz8 1
  have hfz8_2 := Yc HGz8 2
  have hfz8_3 := Yc HGz8 3
  have hfz8_4 := Yc HGz8 4
  have hfz8_5 := Yc HGz8 5
  have hfz8_6 := Yc HGz8 6
  have hfz8_7 := Yc HGz8 7
  have hfz8_8 := Yc HGz8 8
  clear HGz8 hgz8
  go_enter Tryz.func56, Tryz.ntmps56
  go_wp2_with (first | ((with_reducible refine Yi (f := 75) rfl ?_); refine Yp (some 15) rfl rfl Tryz.func75 Zg rfl #[.string s0_0, .string (⟨#[47, 92]⟩ : ByteArray)] rfl Zb ?_; (with_reducible refine (strings_IndexAny.calls s0_0 (⟨#[47, 92]⟩ : ByteArray) t197 _ ?side1 A2.out).mono ?_); (case side1 => first | exact HE.out | exact EnvOk.below HE.out Zd); rintro e w9 ⟨rfl, hb⟩; refine ⟨_, rfl, ?_⟩; have n0_ := Ya.mk (IsS101.below Za hb); have n1_ := Ya.mk (KeepBut.trans Ze (KeepBut.of_below hb g none) (.inl rfl)); have n2_ := Ya.mk (Yn Zd hb); clear HI0; clear HK; clear HB; have HI0 := n0_; have HK := n1_; have HB := n2_; clear n0_ n1_ n2_; (try clear hb); (try clear hb2); (try clear hk); (try clear hi); obtain ⟨HGz10, hgz10⟩ := HI0.out; have hcz10_0 := Yy HGz10; have hcz10_1 := Yia HGz10; have hcz10_2 := Yja HGz10; have hcz10_3 := Yka HGz10; have hcz10_4 := Yga HGz10; have hcz10_5 := Yea HGz10; have hcz10_6 := Yaa HGz10; have hcz10_7 := Yda HGz10; have hcz10_8 := Yba HGz10; have hfz10_0 := Yc HGz10 0; have hfz10_1 := Yc HGz10 1; have hfz10_2 := Yc HGz10 2; have hfz10_3 := Yc HGz10 3; have hfz10_4 := Yc HGz10 4; have hfz10_5 := Yc HGz10 5; have hfz10_6 := Yc HGz10 6; have hfz10_7 := Yc HGz10 7; have hfz10_8 := Yc HGz10 8; clear HGz10 hgz10) | ((with_reducible refine Yi (f := 76) rfl ?_); refine Yp (some 23) rfl rfl Tryz.func76 Zg rfl #[.string s0_0, .string (⟨#[47, 92]⟩ : ByteArray)] rfl Zb ?_; (with_reducible refine (Ysa.calls s0_0 (⟨#[47, 92]⟩ : ByteArray) t198 _ ?side1 A4.out).mono ?_); (case side1 => first | exact HE.out | exact EnvOk.below HE.out Zd); rintro e w11 ⟨rfl, hb⟩; refine ⟨_, rfl, ?_⟩; have n0_ := Ya.mk (IsS101.below Za hb); have n1_ := Ya.mk (KeepBut.trans Ze (KeepBut.of_below hb g none) (.inl rfl)); have n2_ := Ya.mk (Yn Zd hb); clear HI0; clear HK; clear HB; have HI0 := n0_; have HK := n1_; have HB := n2_; clear n0_ n1_ n2_; (try clear hb); (try clear hb2); (try clear hk); (try clear hi); obtain ⟨HGz12, hgz12⟩ := HI0.out; have hcz12_0 := Yy HGz12; have hcz12_1 := Yia HGz12; have hcz12_2 := Yja HGz12; have hcz12_3 := Yka HGz12; have hcz12_4 := Yga HGz12; have hcz12_5 := Yea HGz12; have hcz12_6 := Yaa HGz12; have hcz12_7 := Yda HGz12; have hcz12_8 := Yba HGz12; have hfz12_0 := Yc HGz12 0; have hfz12_1 := Yc HGz12 1; have hfz12_2 := Yc HGz12 2; have hfz12_3 := Yc HGz12 3; have hfz12_4 := Yc HGz12 4; have hfz12_5 := Yc HGz12 5; have hfz12_6 := Yc HGz12 6; have hfz12_7 := Yc HGz12 7; have hfz12_8 := Yc HGz12 8; clear HGz12 hgz12) | ((with_reducible refine Yi (f := 77) rfl ?_); refine Yp (some 30) rfl rfl Tryz.func77 Zg rfl #[.pointer (some ⟨g, 0, none⟩), .string (⟨#[47, 92, 63, 35]⟩ : ByteArray)] rfl Zb ?_; (with_reducible refine (Yma.calls g t198 s0_1 s0_2 s0_3 s0_4 s0_5 s0_6 s0_7 s0_8 (⟨#[47, 92, 63, 35]⟩ : ByteArray) t199 t200 t201 t202 t203 t204 t205 t206 t207 t208 w0 _ ?side1 ?side2 ?side3 A5.out).mono ?_); (case side1 => exact HE.out); (case side2 => repeat (first | (with_reducible first | exact HI0.out | apply IsS101.alloc | apply IsS101.drewN | apply IsS101.drew | apply IsS101.set_0 | apply IsS101.set_1 | apply IsS101.set_2 | apply IsS101.set_3 | apply IsS101.set_4 | apply IsS101.set_5 | apply IsS101.set_6 | apply IsS101.set_7 | apply IsS101.set_8) | exact HI0.out)); (case side3 => repeat (first | (with_reducible first | exact HB.out | apply Ye | apply Yb | apply Yd | refine Yh ?_ (IsS101.ge HI0.out)) | exact HB.out)); rintro e w13 ⟨rfl, hi, hb, hk⟩; refine ⟨_, rfl, ?_⟩; have n0_ := Ya.mk (KeepBut.trans Ze hk (.inl rfl)); have n1_ := Ya.mk (hb); have n2_ := Ya.mk (hi); clear HK; clear HB; clear HI0; have HK := n0_; have HB := n1_; have HI0 := n2_; clear n0_ n1_ n2_; (try clear hb); (try clear hb2); (try clear hk); (try clear hi)) | ((with_reducible refine Yi (f := 73) rfl ?_); refine Yp (some 32) rfl rfl Tryz.func73 Zg rfl #[.string t199, .int .u8 64] rfl Zb ?_; (with_reducible refine (strings_IndexByte.calls t199 64 t209 _ ?side1 A6.out).mono ?_); (case side1 => first | exact HE.out | exact EnvOk.below HE.out Zd); rintro e w' ⟨rfl, ⟨nd, rfl⟩⟩; refine ⟨_, rfl, ?_⟩))
  go_ret
  exact ⟨Zj, Za, Zd, Ze⟩
 rw [if_neg c7] at H
 have c7b0 : decide (0 ≤ t209) = false := decide_eq_false c7
 clear c7
 replace H := Option.bind_eq_some_iff.mp H
 obtain ⟨⟨t210, t211, t212⟩, A140, H⟩ := H
 try dsimp -simprocs only at H
 have A14 := Ya.mk A140
 clear A140
 replace H := Option.bind_eq_some_iff.mp H
 obtain ⟨⟨t213, t214⟩, A150, H⟩ := H
 try dsimp -simprocs only at H
 have A15 := Ya.mk A150
 clear A150
 by_cases c16 : t214 = 0
 rotate_left
 ·rw [if_neg c16] at H
  have c16b0 : (t214 == 0) = false := beq_eq_false_iff_ne.mpr c16
  have c16b1 : (t214 != 0) = true := bne_iff_ne.mpr c16
  simp only [Option.some.injEq, Prod.mk.injEq] at H
  obtain ⟨rfl, rfl, rfl, rfl, rfl, rfl, rfl, rfl, rfl, rfl⟩ := H
  obtain ⟨HGz54, hgz54⟩ := HI0.out
  have hcz54_0 := Yy HGz54
  have hcz54_1 := Yia HGz54
  have hcz54_2 := Yja HGz54
  have hcz54_3 := Yka HGz54
  have hcz54_4 := Yga HGz54
  have hcz54_5 := Yea HGz54
  have hcz54_6 := Yaa HGz54
  have hcz54_7 := Yda HGz54
  have hcz54_8 := Yba HGz54
  have hfz54_0 := Yc HGz54 0
  have hfz54_1 := Yc HGz54 1
  have hfz54_2 := Yc HGz54 2
  have hfz54_3 := Yc HGz54 3
  have hfz54_4 := Yc HGz54 4
  have hfz54_5 := Yc HGz54 5
  have hfz54_6 := Yc HGz54 6
  have hfz54_7 := Yc HGz54 7
  have hfz54_8 := Yc HGz54 8
  clear HGz54 hgz54
  go_enter Tryz.func56, Tryz.ntmps56
  go_wp2_with (first | ((with_reducible refine Yi (f := 75) rfl ?_); refine Yp (some 15) rfl rfl Tryz.func75 Zg rfl #[.string s0_0, .string (⟨#[47, 92]⟩ : ByteArray)] rfl Zb ?_; (with_reducible refine (strings_IndexAny.calls s0_0 (⟨#[47, 92]⟩ : ByteArray) t197 _ ?side1 A2.out).mono ?_); (case side1 => first | exact HE.out | exact EnvOk.below HE.out Zd); rintro e w55 ⟨rfl, hb⟩; refine ⟨_, rfl, ?_⟩; have n0_ := Ya.mk (IsS101.below Za hb); have n1_ := Ya.mk (KeepBut.trans Ze (KeepBut.of_below hb g none) (.inl rfl)); have n2_ := Ya.mk (Yn Zd hb); clear HI0; clear HK; clear HB; have HI0 := n0_; have HK := n1_; have HB := n2_; clear n0_ n1_ n2_; (try clear hb); (try clear hb2); (try clear hk); (try clear hi); obtain ⟨HGz56, hgz56⟩ := HI0.out; have hcz56_0 := Yy HGz56; have hcz56_1 := Yia HGz56; have hcz56_2 := Yja HGz56; have hcz56_3 := Yka HGz56; have hcz56_4 := Yga HGz56; have hcz56_5 := Yea HGz56; have hcz56_6 := Yaa HGz56; have hcz56_7 := Yda HGz56; have hcz56_8 := Yba HGz56; have hfz56_0 := Yc HGz56 0; have hfz56_1 := Yc HGz56 1; have hfz56_2 := Yc HGz56 2; have hfz56_3 := Yc HGz56 3; have hfz56_4 := Yc HGz56 4; have hfz56_5 := Yc HGz56 5; have hfz56_6 := Yc HGz56 6; have hfz56_7 := Yc HGz56 7; have hfz56_8 := Yc HGz56 8; clear HGz56 hgz56) | ((with_reducible refine Yi (f := 76) rfl ?_); refine Yp (some 23) rfl rfl Tryz.func76 Zg rfl #[.string s0_0, .string (⟨#[47, 92]⟩ : ByteArray)] rfl Zb ?_; (with_reducible refine (Ysa.calls s0_0 (⟨#[47, 92]⟩ : ByteArray) t198 _ ?side1 A4.out).mono ?_); (case side1 => first | exact HE.out | exact EnvOk.below HE.out Zd); rintro e w57 ⟨rfl, hb⟩; refine ⟨_, rfl, ?_⟩; have n0_ := Ya.mk (IsS101.below Za hb); have n1_ := Ya.mk (KeepBut.trans Ze (KeepBut.of_below hb g none) (.inl rfl)); have n2_ := Ya.mk (Yn Zd hb); clear HI0; clear HK; clear HB; have HI0 := n0_; have HK := n1_; have HB := n2_; clear n0_ n1_ n2_; (try clear hb); (try clear hb2); (try clear hk); (try clear hi); obtain ⟨HGz58, hgz58⟩ := HI0.out; have hcz58_0 := Yy HGz58; have hcz58_1 := Yia HGz58; have hcz58_2 := Yja HGz58; have hcz58_3 := Yka HGz58; have hcz58_4 := Yga HGz58; have hcz58_5 := Yea HGz58; have hcz58_6 := Yaa HGz58; have hcz58_7 := Yda HGz58; have hcz58_8 := Yba HGz58; have hfz58_0 := Yc HGz58 0; have hfz58_1 := Yc HGz58 1; have hfz58_2 := Yc HGz58 2; have hfz58_3 := Yc HGz58 3; have hfz58_4 := Yc HGz58 4; have hfz58_5 := Yc HGz58 5; have hfz58_6 := Yc HGz58 6; have hfz58_7 := Yc HGz58 7; have hfz58_8 := Yc HGz58 8; clear HGz58 hgz58) | ((with_reducible refine Yi (f := 77) rfl ?_); refine Yp (some 30) rfl rfl Tryz.func77 Zg rfl #[.pointer (some ⟨g, 0, none⟩), .string (⟨#[47, 92, 63, 35]⟩ : ByteArray)] rfl Zb ?_; (with_reducible refine (Yma.calls g t198 s0_1 s0_2 s0_3 s0_4 s0_5 s0_6 s0_7 s0_8 (⟨#[47, 92, 63, 35]⟩ : ByteArray) t199 t200 t201 t202 t203 t204 t205 t206 t207 t208 w0 _ ?side1 ?side2 ?side3 A5.out).mono ?_); (case side1 => exact HE.out); (case side2 => repeat (first | (with_reducible first | exact HI0.out | apply IsS101.alloc | apply IsS101.drewN | apply IsS101.drew | apply IsS101.set_0 | apply IsS101.set_1 | apply IsS101.set_2 | apply IsS101.set_3 | apply IsS101.set_4 | apply IsS101.set_5 | apply IsS101.set_6 | apply IsS101.set_7 | apply IsS101.set_8) | exact HI0.out)); (case side3 => repeat (first | (with_reducible first | exact HB.out | apply Ye | apply Yb | apply Yd | refine Yh ?_ (IsS101.ge HI0.out)) | exact HB.out)); rintro e w59 ⟨rfl, hi, hb, hk⟩; refine ⟨_, rfl, ?_⟩; have n0_ := Ya.mk (KeepBut.trans Ze hk (.inl rfl)); have n1_ := Ya.mk (hb); have n2_ := Ya.mk (hi); clear HK; clear HB; clear HI0; have HK := n0_; have HB := n1_; have HI0 := n2_; clear n0_ n1_ n2_; (try clear hb); (try clear hb2); (try clear hk); (try clear hi)) | ((with_reducible refine Yi (f := 73) rfl ?_); refine Yp (some 32) rfl rfl Tryz.func73 Zg rfl #[.string t199, .int .u8 64] rfl Zb ?_; (with_reducible refine (strings_IndexByte.calls t199 64 t209 _ ?side1 A6.out).mono ?_); (case side1 => first | exact HE.out | exact EnvOk.below HE.out Zd); rintro e w' ⟨rfl, ⟨nd, rfl⟩⟩; refine ⟨_, rfl, ?_⟩) | ((with_reducible refine Yi (f := 70) rfl ?_); refine Yp (some 36) rfl rfl Tryz.func70 Zg rfl #[.string t199, .string (⟨#[58]⟩ : ByteArray)] rfl Zb ?_; (with_reducible refine (strings_Cut.calls t199 (⟨#[58]⟩ : ByteArray) t210 t211 t212 _ ?side1 A14.out).mono ?_); (case side1 => first | exact HE.out | exact EnvOk.below HE.out Zd); rintro e w' ⟨rfl, ⟨nd, rfl⟩⟩; refine ⟨_, rfl, ?_⟩) | ((with_reducible refine Yi (f := 78) rfl ?_); refine Yp (some 42) rfl rfl Tryz.func78 Zg rfl #[.string t210] rfl Zb ?_; (with_reducible refine (Ysb.calls k t210 t213 t214 _ ?side1 A15.out).mono ?_); (case side1 => first | exact HE.out | exact EnvOk.below HE.out Zd); rintro e w60 ⟨rfl, hb⟩; refine ⟨_, rfl, ?_⟩; have n0_ := Ya.mk (IsS101.below Za hb); have n1_ := Ya.mk (KeepBut.trans Ze (KeepBut.of_below hb g none) (.inl rfl)); have n2_ := Ya.mk (Yn Zd hb); clear HI0; clear HK; clear HB; have HI0 := n0_; have HK := n1_; have HB := n2_; clear n0_ n1_ n2_; (try clear hb); (try clear hb2); (try clear hk); (try clear hi)))
  go_ret
  exact ⟨Zj, Za, Zd, Ze⟩
 rw [if_pos c16] at H
 have c16b0 : (t214 == 0) = true := beq_iff_eq.mpr c16
 have c16b1 : (t214 != 0) = false := bne_eq_false_iff_eq.mpr c16
 clear c16
 by_cases c17 : t211.toList = ([] : List UInt8)
 ·rw [if_pos c17] at H
  have c17b0 : (t211.toList == ([] : List UInt8)) = true := beq_iff_eq.mpr c17
  have c17b1 : (t211.toList != ([] : List UInt8)) = false := bne_eq_false_iff_eq.mpr c17
  clear c17
  simp only [Option.some.injEq, Prod.mk.injEq] at H
  obtain ⟨rfl, rfl, rfl, rfl, rfl, rfl, rfl, rfl, rfl, rfl⟩ := H
  obtain ⟨HGz18, hgz18⟩ := HI0.out
  have hcz18_0 := Yy HGz18
  have hcz18_1 := Yia HGz18
  have hcz18_2 := Yja HGz18
  have hcz18_3 := Yka HGz18
  have hcz18_4 := Yga HGz18
  have hcz18_5 := Yea HGz18
  have hcz18_6 := Yaa HGz18
  have hcz18_7 := Yda HGz18
  have hcz18_8 := Yba HGz18
  have hfz18_0 := Yc HGz18 0
  have hfz18_1 := Yc HGz18 1
  have hfz18_2 := Yc HGz18 2
  have hfz18_3 := Yc HGz18 3
  have hfz18_4 := Yc HGz18 4
  have hfz18_5 := Yc HGz18 5
  have hfz18_6 := Yc HGz18 6
  have hfz18_7 := Yc HGz18 7
  have hfz18_8 := Yc HGz18 8
  clear HGz18 hgz18
  go_enter Tryz.func56, Tryz.ntmps56
  go_wp2_with (first | ((with_reducible refine Yi (f := 75) rfl ?_); refine Yp (some 15) rfl rfl Tryz.func75 Zg rfl #[.string s0_0, .string (⟨#[47, 92]⟩ : ByteArray)] rfl Zb ?_; (with_reducible refine (strings_IndexAny.calls s0_0 (⟨#[47, 92]⟩ : ByteArray) t197 _ ?side1 A2.out).mono ?_); (case side1 => first | exact HE.out | exact EnvOk.below HE.out Zd); rintro e w19 ⟨rfl, hb⟩; refine ⟨_, rfl, ?_⟩; have n0_ := Ya.mk (IsS101.below Za hb); have n1_ := Ya.mk (KeepBut.trans Ze (KeepBut.of_below hb g none) (.inl rfl)); have n2_ := Ya.mk (Yn Zd hb); clear HI0; clear HK; clear HB; have HI0 := n0_; have HK := n1_; have HB := n2_; clear n0_ n1_ n2_; (try clear hb); (try clear hb2); (try clear hk); (try clear hi); obtain ⟨HGz20, hgz20⟩ := HI0.out; have hcz20_0 := Yy HGz20; have hcz20_1 := Yia HGz20; have hcz20_2 := Yja HGz20; have hcz20_3 := Yka HGz20; have hcz20_4 := Yga HGz20; have hcz20_5 := Yea HGz20; have hcz20_6 := Yaa HGz20; have hcz20_7 := Yda HGz20; have hcz20_8 := Yba HGz20; have hfz20_0 := Yc HGz20 0; have hfz20_1 := Yc HGz20 1; have hfz20_2 := Yc HGz20 2; have hfz20_3 := Yc HGz20 3; have hfz20_4 := Yc HGz20 4; have hfz20_5 := Yc HGz20 5; have hfz20_6 := Yc HGz20 6; have hfz20_7 := Yc HGz20 7; have hfz20_8 := Yc HGz20 8; clear HGz20 hgz20) | ((with_reducible refine Yi (f := 76) rfl ?_); refine Yp (some 23) rfl rfl Tryz.func76 Zg rfl #[.string s0_0, .string (⟨#[47, 92]⟩ : ByteArray)] rfl Zb ?_; (with_reducible refine (Ysa.calls s0_0 (⟨#[47, 92]⟩ : ByteArray) t198 _ ?side1 A4.out).mono ?_); (case side1 => first | exact HE.out | exact EnvOk.below HE.out Zd); rintro e w21 ⟨rfl, hb⟩; refine ⟨_, rfl, ?_⟩; have n0_ := Ya.mk (IsS101.below Za hb); have n1_ := Ya.mk (KeepBut.trans Ze (KeepBut.of_below hb g none) (.inl rfl)); have n2_ := Ya.mk (Yn Zd hb); clear HI0; clear HK; clear HB; have HI0 := n0_; have HK := n1_; have HB := n2_; clear n0_ n1_ n2_; (try clear hb); (try clear hb2); (try clear hk); (try clear hi); obtain ⟨HGz22, hgz22⟩ := HI0.out; have hcz22_0 := Yy HGz22; have hcz22_1 := Yia HGz22; have hcz22_2 := Yja HGz22; have hcz22_3 := Yka HGz22; have hcz22_4 := Yga HGz22; have hcz22_5 := Yea HGz22; have hcz22_6 := Yaa HGz22; have hcz22_7 := Yda HGz22; have hcz22_8 := Yba HGz22; have hfz22_0 := Yc HGz22 0; have hfz22_1 := Yc HGz22 1; have hfz22_2 := Yc HGz22 2; have hfz22_3 := Yc HGz22 3; have hfz22_4 := Yc HGz22 4; have hfz22_5 := Yc HGz22 5; have hfz22_6 := Yc HGz22 6; have hfz22_7 := Yc HGz22 7; have hfz22_8 := Yc HGz22 8; clear HGz22 hgz22) | ((with_reducible refine Yi (f := 77) rfl ?_); refine Yp (some 30) rfl rfl Tryz.func77 Zg rfl #[.pointer (some ⟨g, 0, none⟩), .string (⟨#[47, 92, 63, 35]⟩ : ByteArray)] rfl Zb ?_; (with_reducible refine (Yma.calls g t198 s0_1 s0_2 s0_3 s0_4 s0_5 s0_6 s0_7 s0_8 (⟨#[47, 92, 63, 35]⟩ : ByteArray) t199 t200 t201 t202 t203 t204 t205 t206 t207 t208 w0 _ ?side1 ?side2 ?side3 A5.out).mono ?_); (case side1 => exact HE.out); (case side2 => repeat (first | (with_reducible first | exact HI0.out | apply IsS101.alloc | apply IsS101.drewN | apply IsS101.drew | apply IsS101.set_0 | apply IsS101.set_1 | apply IsS101.set_2 | apply IsS101.set_3 | apply IsS101.set_4 | apply IsS101.set_5 | apply IsS101.set_6 | apply IsS101.set_7 | apply IsS101.set_8) | exact HI0.out)); (case side3 => repeat (first | (with_reducible first | exact HB.out | apply Ye | apply Yb | apply Yd | refine Yh ?_ (IsS101.ge HI0.out)) | exact HB.out)); rintro e w23 ⟨rfl, hi, hb, hk⟩; refine ⟨_, rfl, ?_⟩; have n0_ := Ya.mk (KeepBut.trans Ze hk (.inl rfl)); have n1_ := Ya.mk (hb); have n2_ := Ya.mk (hi); clear HK; clear HB; clear HI0; have HK := n0_; have HB := n1_; have HI0 := n2_; clear n0_ n1_ n2_; (try clear hb); (try clear hb2); (try clear hk); (try clear hi)) | ((with_reducible refine Yi (f := 73) rfl ?_); refine Yp (some 32) rfl rfl Tryz.func73 Zg rfl #[.string t199, .int .u8 64] rfl Zb ?_; (with_reducible refine (strings_IndexByte.calls t199 64 t209 _ ?side1 A6.out).mono ?_); (case side1 => first | exact HE.out | exact EnvOk.below HE.out Zd); rintro e w' ⟨rfl, ⟨nd, rfl⟩⟩; refine ⟨_, rfl, ?_⟩; (try (rw [Yid w23]; generalize hq_ : World.drewN w23 _ = w23; have n0_ : Ya (IsS101 w0 w23 g t200 t201 t202 t203 t204 t205 t206 t207 t208) := ⟨Zi⟩; have n1_ : Ya (KeepBut w w23 g none) := ⟨Zn⟩; have n2_ : Ya (Below w0.heap.size w0 w23) := ⟨Zo⟩; clear HI0 HK HB hq_; have HI0 := n0_; have HK := n1_; have HB := n2_; clear n0_ n1_ n2_))) | ((with_reducible refine Yi (f := 70) rfl ?_); refine Yp (some 36) rfl rfl Tryz.func70 Zg rfl #[.string t199, .string (⟨#[58]⟩ : ByteArray)] rfl Zb ?_; (with_reducible refine (strings_Cut.calls t199 (⟨#[58]⟩ : ByteArray) t210 t211 t212 _ ?side1 A14.out).mono ?_); (case side1 => first | exact HE.out | exact EnvOk.below HE.out Zd); rintro e w' ⟨rfl, ⟨nd, rfl⟩⟩; refine ⟨_, rfl, ?_⟩; (try (rw [Yid w23]; generalize hq_ : World.drewN w23 _ = w23; have n0_ : Ya (IsS101 w0 w23 g t200 t201 t202 t203 t204 t205 t206 t207 t208) := ⟨Zi⟩; have n1_ : Ya (KeepBut w w23 g none) := ⟨Zn⟩; have n2_ : Ya (Below w0.heap.size w0 w23) := ⟨Zo⟩; clear HI0 HK HB hq_; have HI0 := n0_; have HK := n1_; have HB := n2_; clear n0_ n1_ n2_))) | ((with_reducible refine Yi (f := 78) rfl ?_); refine Yp (some 42) rfl rfl Tryz.func78 Zg rfl #[.string t210] rfl Zb ?_; (with_reducible refine (Ysb.calls k t210 t213 t214 _ ?side1 A15.out).mono ?_); (case side1 => first | exact HE.out | exact EnvOk.below HE.out Zd); rintro e w24 ⟨rfl, hb⟩; refine ⟨_, rfl, ?_⟩; have n0_ := Ya.mk (IsS101.below Za hb); have n1_ := Ya.mk (KeepBut.trans Ze (KeepBut.of_below hb g none) (.inl rfl)); have n2_ := Ya.mk (Yn Zd hb); clear HI0; clear HK; clear HB; have HI0 := n0_; have HK := n1_; have HB := n2_; clear n0_ n1_ n2_; (try clear hb); (try clear hb2); (try clear hk); (try clear hi); obtain ⟨HGz25, hgz25⟩ := HI0.out; have hcz25_0 := Yy HGz25; have hcz25_1 := Yia HGz25; have hcz25_2 := Yja HGz25; have hcz25_3 := Yka HGz25; have hcz25_4 := Yga HGz25; have hcz25_5 := Yea HGz25; have hcz25_6 := Yaa HGz25; have hcz25_7 := Yda HGz25; have hcz25_8 := Yba HGz25; have hfz25_0 := Yc HGz25 0; have hfz25_1 := Yc HGz25 1; have hfz25_2 := Yc HGz25 2; have hfz25_3 := Yc HGz25 3; have hfz25_4 := Yc HGz25 4; have hfz25_5 := Yc HGz25 5; have hfz25_6 := Yc HGz25 6; have hfz25_7 := Yc HGz25 7; have hfz25_8 := Yc HGz25 8; clear HGz25 hgz25))
  go_ret
  exact ⟨Zj, Za, Zd, Ze⟩
 rw [if_neg c17] at H
 have c17b0 : (t211.toList == ([] : List UInt8)) = false := beq_eq_false_iff_ne.mpr c17
 have c17b1 : (t211.toList != ([] : List UInt8)) = true := bne_iff_ne.mpr c17
 replace H := Option.bind_eq_some_iff.mp H
 obtain ⟨⟨t215, t216⟩, A260, H⟩ := H
 try dsimp -simprocs only at H
 have A26 := Ya.mk A260
 clear A260
 by_cases c27 : t216 = 0
 rotate_left
 ·rw [if_neg c27] at H
  have c27b0 : (t216 == 0) = false := beq_eq_false_iff_ne.mpr c27
  have c27b1 : (t216 != 0) = true := bne_iff_ne.mpr c27
  simp only [Option.some.injEq, Prod.mk.injEq] at H
  obtain ⟨rfl, rfl, rfl, rfl, rfl, rfl, rfl, rfl, rfl, rfl⟩ := H
  obtain ⟨HGz46, hgz46⟩ := HI0.out
  have hcz46_0 := Yy HGz46
  have hcz46_1 := Yia HGz46
  have hcz46_2 := Yja HGz46
  have hcz46_3 := Yka HGz46
  have hcz46_4 := Yga HGz46
  have hcz46_5 := Yea HGz46
  have hcz46_6 := Yaa HGz46
  have hcz46_7 := Yda HGz46
  have hcz46_8 := Yba HGz46
  have hfz46_0 := Yc HGz46 0
  have hfz46_1 := Yc HGz46 1
  have hfz46_2 := Yc HGz46 2
  have hfz46_3 := Yc HGz46 3
  have hfz46_4 := Yc HGz46 4
  have hfz46_5 := Yc HGz46 5
  have hfz46_6 := Yc HGz46 6
  have hfz46_7 := Yc HGz46 7
  have hfz46_8 := Yc HGz46 8
  clear HGz46 hgz46
  go_enter Tryz.func56, Tryz.ntmps56
  go_wp2_with (first | ((with_reducible refine Yi (f := 75) rfl ?_); refine Yp (some 15) rfl rfl Tryz.func75 Zg rfl #[.string s0_0, .string (⟨#[47, 92]⟩ : ByteArray)] rfl Zb ?_; (with_reducible refine (strings_IndexAny.calls s0_0 (⟨#[47, 92]⟩ : ByteArray) t197 _ ?side1 A2.out).mono ?_); (case side1 => first | exact HE.out | exact EnvOk.below HE.out Zd); rintro e w47 ⟨rfl, hb⟩; refine ⟨_, rfl, ?_⟩; have n0_ := Ya.mk (IsS101.below Za hb); have n1_ := Ya.mk (KeepBut.trans Ze (KeepBut.of_below hb g none) (.inl rfl)); have n2_ := Ya.mk (Yn Zd hb); clear HI0; clear HK; clear HB; have HI0 := n0_; have HK := n1_; have HB := n2_; clear n0_ n1_ n2_; (try clear hb); (try clear hb2); (try clear hk); (try clear hi); obtain ⟨HGz48, hgz48⟩ := HI0.out; have hcz48_0 := Yy HGz48; have hcz48_1 := Yia HGz48; have hcz48_2 := Yja HGz48; have hcz48_3 := Yka HGz48; have hcz48_4 := Yga HGz48; have hcz48_5 := Yea HGz48; have hcz48_6 := Yaa HGz48; have hcz48_7 := Yda HGz48; have hcz48_8 := Yba HGz48; have hfz48_0 := Yc HGz48 0; have hfz48_1 := Yc HGz48 1; have hfz48_2 := Yc HGz48 2; have hfz48_3 := Yc HGz48 3; have hfz48_4 := Yc HGz48 4; have hfz48_5 := Yc HGz48 5; have hfz48_6 := Yc HGz48 6; have hfz48_7 := Yc HGz48 7; have hfz48_8 := Yc HGz48 8; clear HGz48 hgz48) | ((with_reducible refine Yi (f := 76) rfl ?_); refine Yp (some 23) rfl rfl Tryz.func76 Zg rfl #[.string s0_0, .string (⟨#[47, 92]⟩ : ByteArray)] rfl Zb ?_; (with_reducible refine (Ysa.calls s0_0 (⟨#[47, 92]⟩ : ByteArray) t198 _ ?side1 A4.out).mono ?_); (case side1 => first | exact HE.out | exact EnvOk.below HE.out Zd); rintro e w49 ⟨rfl, hb⟩; refine ⟨_, rfl, ?_⟩; have n0_ := Ya.mk (IsS101.below Za hb); have n1_ := Ya.mk (KeepBut.trans Ze (KeepBut.of_below hb g none) (.inl rfl)); have n2_ := Ya.mk (Yn Zd hb); clear HI0; clear HK; clear HB; have HI0 := n0_; have HK := n1_; have HB := n2_; clear n0_ n1_ n2_; (try clear hb); (try clear hb2); (try clear hk); (try clear hi); obtain ⟨HGz50, hgz50⟩ := HI0.out; have hcz50_0 := Yy HGz50; have hcz50_1 := Yia HGz50; have hcz50_2 := Yja HGz50; have hcz50_3 := Yka HGz50; have hcz50_4 := Yga HGz50; have hcz50_5 := Yea HGz50; have hcz50_6 := Yaa HGz50; have hcz50_7 := Yda HGz50; have hcz50_8 := Yba HGz50; have hfz50_0 := Yc HGz50 0; have hfz50_1 := Yc HGz50 1; have hfz50_2 := Yc HGz50 2; have hfz50_3 := Yc HGz50 3; have hfz50_4 := Yc HGz50 4; have hfz50_5 := Yc HGz50 5; have hfz50_6 := Yc HGz50 6; have hfz50_7 := Yc HGz50 7; have hfz50_8 := Yc HGz50 8; clear HGz50 hgz50) | ((with_reducible refine Yi (f := 77) rfl ?_); refine Yp (some 30) rfl rfl Tryz.func77 Zg rfl #[.pointer (some ⟨g, 0, none⟩), .string (⟨#[47, 92, 63, 35]⟩ : ByteArray)] rfl Zb ?_; (with_reducible refine (Yma.calls g t198 s0_1 s0_2 s0_3 s0_4 s0_5 s0_6 s0_7 s0_8 (⟨#[47, 92, 63, 35]⟩ : ByteArray) t199 t200 t201 t202 t203 t204 t205 t206 t207 t208 w0 _ ?side1 ?side2 ?side3 A5.out).mono ?_); (case side1 => exact HE.out); (case side2 => repeat (first | (with_reducible first | exact HI0.out | apply IsS101.alloc | apply IsS101.drewN | apply IsS101.drew | apply IsS101.set_0 | apply IsS101.set_1 | apply IsS101.set_2 | apply IsS101.set_3 | apply IsS101.set_4 | apply IsS101.set_5 | apply IsS101.set_6 | apply IsS101.set_7 | apply IsS101.set_8) | exact HI0.out)); (case side3 => repeat (first | (with_reducible first | exact HB.out | apply Ye | apply Yb | apply Yd | refine Yh ?_ (IsS101.ge HI0.out)) | exact HB.out)); rintro e w51 ⟨rfl, hi, hb, hk⟩; refine ⟨_, rfl, ?_⟩; have n0_ := Ya.mk (KeepBut.trans Ze hk (.inl rfl)); have n1_ := Ya.mk (hb); have n2_ := Ya.mk (hi); clear HK; clear HB; clear HI0; have HK := n0_; have HB := n1_; have HI0 := n2_; clear n0_ n1_ n2_; (try clear hb); (try clear hb2); (try clear hk); (try clear hi)) | ((with_reducible refine Yi (f := 73) rfl ?_); refine Yp (some 32) rfl rfl Tryz.func73 Zg rfl #[.string t199, .int .u8 64] rfl Zb ?_; (with_reducible refine (strings_IndexByte.calls t199 64 t209 _ ?side1 A6.out).mono ?_); (case side1 => first | exact HE.out | exact EnvOk.below HE.out Zd); rintro e w' ⟨rfl, ⟨nd, rfl⟩⟩; refine ⟨_, rfl, ?_⟩; (try (rw [Yid w51]; generalize hq_ : World.drewN w51 _ = w51; have n0_ : Ya (IsS101 w0 w51 g t200 t201 t202 t203 t204 t205 t206 t207 t208) := ⟨Zi⟩; have n1_ : Ya (KeepBut w w51 g none) := ⟨Zn⟩; have n2_ : Ya (Below w0.heap.size w0 w51) := ⟨Zo⟩; clear HI0 HK HB hq_; have HI0 := n0_; have HK := n1_; have HB := n2_; clear n0_ n1_ n2_))) | ((with_reducible refine Yi (f := 70) rfl ?_); refine Yp (some 36) rfl rfl Tryz.func70 Zg rfl #[.string t199, .string (⟨#[58]⟩ : ByteArray)] rfl Zb ?_; (with_reducible refine (strings_Cut.calls t199 (⟨#[58]⟩ : ByteArray) t210 t211 t212 _ ?side1 A14.out).mono ?_); (case side1 => first | exact HE.out | exact EnvOk.below HE.out Zd); rintro e w' ⟨rfl, ⟨nd, rfl⟩⟩; refine ⟨_, rfl, ?_⟩; (try (rw [Yid w51]; generalize hq_ : World.drewN w51 _ = w51; have n0_ : Ya (IsS101 w0 w51 g t200 t201 t202 t203 t204 t205 t206 t207 t208) := ⟨Zi⟩; have n1_ : Ya (KeepBut w w51 g none) := ⟨Zn⟩; have n2_ : Ya (Below w0.heap.size w0 w51) := ⟨Zo⟩; clear HI0 HK HB hq_; have HI0 := n0_; have HK := n1_; have HB := n2_; clear n0_ n1_ n2_))) | ((with_reducible refine Yi (f := 78) rfl ?_); refine Yp (some 42) rfl rfl Tryz.func78 Zg rfl #[.string t210] rfl Zb ?_; (with_reducible refine (Ysb.calls k t210 t213 t214 _ ?side1 A15.out).mono ?_); (case side1 => first | exact HE.out | exact EnvOk.below HE.out Zd); rintro e w52 ⟨rfl, hb⟩; refine ⟨_, rfl, ?_⟩; have n0_ := Ya.mk (IsS101.below Za hb); have n1_ := Ya.mk (KeepBut.trans Ze (KeepBut.of_below hb g none) (.inl rfl)); have n2_ := Ya.mk (Yn Zd hb); clear HI0; clear HK; clear HB; have HI0 := n0_; have HK := n1_; have HB := n2_; clear n0_ n1_ n2_; (try clear hb); (try clear hb2); (try clear hk); (try clear hi); obtain ⟨HGz53, hgz53⟩ := HI0.out; have hcz53_0 := Yy HGz53; have hcz53_1 := Yia HGz53; have hcz53_2 := Yja HGz53; have hcz53_3 := Yka HGz53; have hcz53_4 := Yga HGz53; have hcz53_5 := Yea HGz53; have hcz53_6 := Yaa HGz53; have hcz53_7 := Yda HGz53; have hcz53_8 := Yba HGz53; have hfz53_0 := Yc HGz53 0; have hfz53_1 := Yc HGz53 1; have hfz53_2 := Yc HGz53 2; have hfz53_3 := Yc HGz53 3; have hfz53_4 := Yc HGz53 4; have hfz53_5 := Yc HGz53 5; have hfz53_6 := Yc HGz53 6; have hfz53_7 := Yc HGz53 7; have hfz53_8 := Yc HGz53 8; clear HGz53 hgz53) | ((with_reducible refine Yi (f := 62) rfl ?_); refine Yp (some 57) rfl rfl Tryz.func62 Zg rfl #[.string t211, .int .i64 65535] rfl Zb ?_; (with_reducible refine (Ym.calls k t211 65535 t215 t216 _ ?side1 A26.out).mono ?_); (case side1 => first | exact HE.out | exact EnvOk.below HE.out Zd); rintro e w' ⟨rfl, ⟨nd, rfl⟩⟩; refine ⟨_, rfl, ?_⟩))
  go_ret
  exact ⟨Zj, Za, Zd, Ze⟩
 rw [if_pos c27] at H
 have c27b0 : (t216 == 0) = true := beq_iff_eq.mpr c27
 have c27b1 : (t216 != 0) = false := bne_eq_false_iff_eq.mpr c27
 clear c27
 replace H := Option.bind_eq_some_iff.mp H
 obtain ⟨t217, A280, H⟩ := H
 try dsimp -simprocs only at H
 have A28 := Ya.mk A280
 clear A280
 by_cases c29 : t215 = t217
 rotate_left
 ·rw [if_neg c29] at H
  have c29b0 : (t215 == t217) = false := beq_eq_false_iff_ne.mpr c29
  have c29b1 : (t215 != t217) = true := bne_iff_ne.mpr c29
  simp only [Option.some.injEq, Prod.mk.injEq] at H
  obtain ⟨rfl, rfl, rfl, rfl, rfl, rfl, rfl, rfl, rfl, rfl⟩ := H
  obtain ⟨HGz38, hgz38⟩ := HI0.out
  have hcz38_0 := Yy HGz38
  have hcz38_1 := Yia HGz38
  have hcz38_2 := Yja HGz38
  have hcz38_3 := Yka HGz38
  have hcz38_4 := Yga HGz38
  have hcz38_5 := Yea HGz38
  have hcz38_6 := Yaa HGz38
  have hcz38_7 := Yda HGz38
  have hcz38_8 := Yba HGz38
  have hfz38_0 := Yc HGz38 0
  have hfz38_1 := Yc HGz38 1
  have hfz38_2 := Yc HGz38 2
  have hfz38_3 := Yc HGz38 3
  have hfz38_4 := Yc HGz38 4
  have hfz38_5 := Yc HGz38 5
  have hfz38_6 := Yc HGz38 6
  have hfz38_7 := Yc HGz38 7
  have hfz38_8 := Yc HGz38 8
  clear HGz38 hgz38
  go_enter Tryz.func56, Tryz.ntmps56
  go_wp2_with (first | ((with_reducible refine Yi (f := 75) rfl ?_); refine Yp (some 15) rfl rfl Tryz.func75 Zg rfl #[.string s0_0, .string (⟨#[47, 92]⟩ : ByteArray)] rfl Zb ?_; (with_reducible refine (strings_IndexAny.calls s0_0 (⟨#[47, 92]⟩ : ByteArray) t197 _ ?side1 A2.out).mono ?_); (case side1 => first | exact HE.out | exact EnvOk.below HE.out Zd); rintro e w39 ⟨rfl, hb⟩; refine ⟨_, rfl, ?_⟩; have n0_ := Ya.mk (IsS101.below Za hb); have n1_ := Ya.mk (KeepBut.trans Ze (KeepBut.of_below hb g none) (.inl rfl)); have n2_ := Ya.mk (Yn Zd hb); clear HI0; clear HK; clear HB; have HI0 := n0_; have HK := n1_; have HB := n2_; clear n0_ n1_ n2_; (try clear hb); (try clear hb2); (try clear hk); (try clear hi); obtain ⟨HGz40, hgz40⟩ := HI0.out; have hcz40_0 := Yy HGz40; have hcz40_1 := Yia HGz40; have hcz40_2 := Yja HGz40; have hcz40_3 := Yka HGz40; have hcz40_4 := Yga HGz40; have hcz40_5 := Yea HGz40; have hcz40_6 := Yaa HGz40; have hcz40_7 := Yda HGz40; have hcz40_8 := Yba HGz40; have hfz40_0 := Yc HGz40 0; have hfz40_1 := Yc HGz40 1; have hfz40_2 := Yc HGz40 2; have hfz40_3 := Yc HGz40 3; have hfz40_4 := Yc HGz40 4; have hfz40_5 := Yc HGz40 5; have hfz40_6 := Yc HGz40 6; have hfz40_7 := Yc HGz40 7; have hfz40_8 := Yc HGz40 8; clear HGz40 hgz40) | ((with_reducible refine Yi (f := 76) rfl ?_); refine Yp (some 23) rfl rfl Tryz.func76 Zg rfl #[.string s0_0, .string (⟨#[47, 92]⟩ : ByteArray)] rfl Zb ?_; (with_reducible refine (Ysa.calls s0_0 (⟨#[47, 92]⟩ : ByteArray) t198 _ ?side1 A4.out).mono ?_); (case side1 => first | exact HE.out | exact EnvOk.below HE.out Zd); rintro e w41 ⟨rfl, hb⟩; refine ⟨_, rfl, ?_⟩; have n0_ := Ya.mk (IsS101.below Za hb); have n1_ := Ya.mk (KeepBut.trans Ze (KeepBut.of_below hb g none) (.inl rfl)); have n2_ := Ya.mk (Yn Zd hb); clear HI0; clear HK; clear HB; have HI0 := n0_; have HK := n1_; have HB := n2_; clear n0_ n1_ n2_; (try clear hb); (try clear hb2); (try clear hk); (try clear hi); obtain ⟨HGz42, hgz42⟩ := HI0.out; have hcz42_0 := Yy HGz42; have hcz42_1 := Yia HGz42; have hcz42_2 := Yja HGz42; have hcz42_3 := Yka HGz42; have hcz42_4 := Yga HGz42; have hcz42_5 := Yea HGz42; have hcz42_6 := Yaa HGz42; have hcz42_7 := Yda HGz42; have hcz42_8 := Yba HGz42; have hfz42_0 := Yc HGz42 0; have hfz42_1 := Yc HGz42 1; have hfz42_2 := Yc HGz42 2; have hfz42_3 := Yc HGz42 3; have hfz42_4 := Yc HGz42 4; have hfz42_5 := Yc HGz42 5; have hfz42_6 := Yc HGz42 6; have hfz42_7 := Yc HGz42 7; have hfz42_8 := Yc HGz42 8; clear HGz42 hgz42) | ((with_reducible refine Yi (f := 77) rfl ?_); refine Yp (some 30) rfl rfl Tryz.func77 Zg rfl #[.pointer (some ⟨g, 0, none⟩), .string (⟨#[47, 92, 63, 35]⟩ : ByteArray)] rfl Zb ?_; (with_reducible refine (Yma.calls g t198 s0_1 s0_2 s0_3 s0_4 s0_5 s0_6 s0_7 s0_8 (⟨#[47, 92, 63, 35]⟩ : ByteArray) t199 t200 t201 t202 t203 t204 t205 t206 t207 t208 w0 _ ?side1 ?side2 ?side3 A5.out).mono ?_); (case side1 => exact HE.out); (case side2 => repeat (first | (with_reducible first | exact HI0.out | apply IsS101.alloc | apply IsS101.drewN | apply IsS101.drew | apply IsS101.set_0 | apply IsS101.set_1 | apply IsS101.set_2 | apply IsS101.set_3 | apply IsS101.set_4 | apply IsS101.set_5 | apply IsS101.set_6 | apply IsS101.set_7 | apply IsS101.set_8) | exact HI0.out)); (case side3 => repeat (first | (with_reducible first | exact HB.out | apply Ye | apply Yb | apply Yd | refine Yh ?_ (IsS101.ge HI0.out)) | exact HB.out)); rintro e w43 ⟨rfl, hi, hb, hk⟩; refine ⟨_, rfl, ?_⟩; have n0_ := Ya.mk (KeepBut.trans Ze hk (.inl rfl)); have n1_ := Ya.mk (hb); have n2_ := Ya.mk (hi); clear HK; clear HB; clear HI0; have HK := n0_; have HB := n1_; have HI0 := n2_; clear n0_ n1_ n2_; (try clear hb); (try clear hb2); (try clear hk); (try clear hi)) | ((with_reducible refine Yi (f := 73) rfl ?_); refine Yp (some 32) rfl rfl Tryz.func73 Zg rfl #[.string t199, .int .u8 64] rfl Zb ?_; (with_reducible refine (strings_IndexByte.calls t199 64 t209 _ ?side1 A6.out).mono ?_); (case side1 => first | exact HE.out | exact EnvOk.below HE.out Zd); rintro e w' ⟨rfl, ⟨nd, rfl⟩⟩; refine ⟨_, rfl, ?_⟩; (try (rw [Yid w43]; generalize hq_ : World.drewN w43 _ = w43; have n0_ : Ya (IsS101 w0 w43 g t200 t201 t202 t203 t204 t205 t206 t207 t208) := ⟨Zi⟩; have n1_ : Ya (KeepBut w w43 g none) := ⟨Zn⟩; have n2_ : Ya (Below w0.heap.size w0 w43) := ⟨Zo⟩; clear HI0 HK HB hq_; have HI0 := n0_; have HK := n1_; have HB := n2_; clear n0_ n1_ n2_))) | ((with_reducible refine Yi (f := 70) rfl ?_); refine Yp (some 36) rfl rfl Tryz.func70 Zg rfl #[.string t199, .string (⟨#[58]⟩ : ByteArray)] rfl Zb ?_; (with_reducible refine (strings_Cut.calls t199 (⟨#[58]⟩ : ByteArray) t210 t211 t212 _ ?side1 A14.out).mono ?_); (case side1 => first | exact HE.out | exact EnvOk.below HE.out Zd); rintro e w' ⟨rfl, ⟨nd, rfl⟩⟩; refine ⟨_, rfl, ?_⟩; (try (rw [Yid w43]; generalize hq_ : World.drewN w43 _ = w43; have n0_ : Ya (IsS101 w0 w43 g t200 t201 t202 t203 t204 t205 t206 t207 t208) := ⟨Zi⟩; have n1_ : Ya (KeepBut w w43 g none) := ⟨Zn⟩; have n2_ : Ya (Below w0.heap.size w0 w43) := ⟨Zo⟩; clear HI0 HK HB hq_; have HI0 := n0_; have HK := n1_; have HB := n2_; clear n0_ n1_ n2_))) | ((with_reducible refine Yi (f := 78) rfl ?_); refine Yp (some 42) rfl rfl Tryz.func78 Zg rfl #[.string t210] rfl Zb ?_; (with_reducible refine (Ysb.calls k t210 t213 t214 _ ?side1 A15.out).mono ?_); (case side1 => first | exact HE.out | exact EnvOk.below HE.out Zd); rintro e w44 ⟨rfl, hb⟩; refine ⟨_, rfl, ?_⟩; have n0_ := Ya.mk (IsS101.below Za hb); have n1_ := Ya.mk (KeepBut.trans Ze (KeepBut.of_below hb g none) (.inl rfl)); have n2_ := Ya.mk (Yn Zd hb); clear HI0; clear HK; clear HB; have HI0 := n0_; have HK := n1_; have HB := n2_; clear n0_ n1_ n2_; (try clear hb); (try clear hb2); (try clear hk); (try clear hi); obtain ⟨HGz45, hgz45⟩ := HI0.out; have hcz45_0 := Yy HGz45; have hcz45_1 := Yia HGz45; have hcz45_2 := Yja HGz45; have hcz45_3 := Yka HGz45; have hcz45_4 := Yga HGz45; have hcz45_5 := Yea HGz45; have hcz45_6 := Yaa HGz45; have hcz45_7 := Yda HGz45; have hcz45_8 := Yba HGz45; have hfz45_0 := Yc HGz45 0; have hfz45_1 := Yc HGz45 1; have hfz45_2 := Yc HGz45 2; have hfz45_3 := Yc HGz45 3; have hfz45_4 := Yc HGz45 4; have hfz45_5 := Yc HGz45 5; have hfz45_6 := Yc HGz45 6; have hfz45_7 := Yc HGz45 7; have hfz45_8 := Yc HGz45 8; clear HGz45 hgz45) | ((with_reducible refine Yi (f := 62) rfl ?_); refine Yp (some 57) rfl rfl Tryz.func62 Zg rfl #[.string t211, .int .i64 65535] rfl Zb ?_; (with_reducible refine (Ym.calls k t211 65535 t215 t216 _ ?side1 A26.out).mono ?_); (case side1 => first | exact HE.out | exact EnvOk.below HE.out Zd); rintro e w' ⟨rfl, ⟨nd, rfl⟩⟩; refine ⟨_, rfl, ?_⟩) | ((with_reducible refine Yi (f := 79) rfl ?_); refine Yp (some 68) rfl rfl Tryz.func79 Zg rfl #[.string t201] rfl Zb ?_; (with_reducible refine (Yxc.calls t201 t217 _ ?side1 A28.out).mono ?_); (case side1 => first | exact HE.out | exact EnvOk.below HE.out Zd); rintro e w' ⟨rfl, ⟨nd, rfl⟩⟩; refine ⟨_, rfl, ?_⟩))
  go_ret
  exact ⟨Zj, Za, Zd, Ze⟩
 rw [if_pos c29] at H
 have c29b0 : (t215 == t217) = true := beq_iff_eq.mpr c29
 have c29b1 : (t215 != t217) = false := bne_eq_false_iff_eq.mpr c29
 clear c29
 simp only [Option.some.injEq, Prod.mk.injEq] at H
 obtain ⟨rfl, rfl, rfl, rfl, rfl, rfl, rfl, rfl, rfl, rfl⟩ := H
 obtain ⟨HGz30, hgz30⟩ := HI0.out
 have hcz30_0 := Yy HGz30
 have hcz30_1 := Yia HGz30
 have hcz30_2 := Yja HGz30
 have hcz30_3 := Yka HGz30
 have hcz30_4 := Yga HGz30
 have hcz30_5 := Yea HGz30
 have hcz30_6 := Yaa HGz30
 have hcz30_7 := Yda HGz30
 have hcz30_8 := Yba HGz30
 have hfz30_0 := Yc HGz30 0
 have hfz30_1 := Yc HGz30 1
 have hfz30_2 := Yc HGz30 2
 have hfz30_3 := Yc HGz30 3
 have hfz30_4 := Yc HGz30 4
 have hfz30_5 := Yc HGz30 5
 have hfz30_6 := Yc HGz30 6
 have hfz30_7 := Yc HGz30 7
 have hfz30_8 := Yc HGz30 8
 clear HGz30 hgz30
 go_enter Tryz.func56, Tryz.ntmps56
 go_wp2_with (first | ((with_reducible refine Yi (f := 75) rfl ?_); refine Yp (some 15) rfl rfl Tryz.func75 Zg rfl #[.string s0_0, .string (⟨#[47, 92]⟩ : ByteArray)] rfl Zb ?_; (with_reducible refine (strings_IndexAny.calls s0_0 (⟨#[47, 92]⟩ : ByteArray) t197 _ ?side1 A2.out).mono ?_); (case side1 => first | exact HE.out | exact EnvOk.below HE.out Zd); rintro e w31 ⟨rfl, hb⟩; refine ⟨_, rfl, ?_⟩; have n0_ := Ya.mk (IsS101.below Za hb); have n1_ := Ya.mk (KeepBut.trans Ze (KeepBut.of_below hb g none) (.inl rfl)); have n2_ := Ya.mk (Yn Zd hb); clear HI0; clear HK; clear HB; have HI0 := n0_; have HK := n1_; have HB := n2_; clear n0_ n1_ n2_; (try clear hb); (try clear hb2); (try clear hk); (try clear hi); obtain ⟨HGz32, hgz32⟩ := HI0.out; have hcz32_0 := Yy HGz32; have hcz32_1 := Yia HGz32; have hcz32_2 := Yja HGz32; have hcz32_3 := Yka HGz32; have hcz32_4 := Yga HGz32; have hcz32_5 := Yea HGz32; have hcz32_6 := Yaa HGz32; have hcz32_7 := Yda HGz32; have hcz32_8 := Yba HGz32; have hfz32_0 := Yc HGz32 0; have hfz32_1 := Yc HGz32 1; have hfz32_2 := Yc HGz32 2; have hfz32_3 := Yc HGz32 3; have hfz32_4 := Yc HGz32 4; have hfz32_5 := Yc HGz32 5; have hfz32_6 := Yc HGz32 6; have hfz32_7 := Yc HGz32 7; have hfz32_8 := Yc HGz32 8; clear HGz32 hgz32) | ((with_reducible refine Yi (f := 76) rfl ?_); refine Yp (some 23) rfl rfl Tryz.func76 Zg rfl #[.string s0_0, .string (⟨#[47, 92]⟩ : ByteArray)] rfl Zb ?_; (with_reducible refine (Ysa.calls s0_0 (⟨#[47, 92]⟩ : ByteArray) t198 _ ?side1 A4.out).mono ?_); (case side1 => first | exact HE.out | exact EnvOk.below HE.out Zd); rintro e w33 ⟨rfl, hb⟩; refine ⟨_, rfl, ?_⟩; have n0_ := Ya.mk (IsS101.below Za hb); have n1_ := Ya.mk (KeepBut.trans Ze (KeepBut.of_below hb g none) (.inl rfl)); have n2_ := Ya.mk (Yn Zd hb); clear HI0; clear HK; clear HB; have HI0 := n0_; have HK := n1_; have HB := n2_; clear n0_ n1_ n2_; (try clear hb); (try clear hb2); (try clear hk); (try clear hi); obtain ⟨HGz34, hgz34⟩ := HI0.out; have hcz34_0 := Yy HGz34; have hcz34_1 := Yia HGz34; have hcz34_2 := Yja HGz34; have hcz34_3 := Yka HGz34; have hcz34_4 := Yga HGz34; have hcz34_5 := Yea HGz34; have hcz34_6 := Yaa HGz34; have hcz34_7 := Yda HGz34; have hcz34_8 := Yba HGz34; have hfz34_0 := Yc HGz34 0; have hfz34_1 := Yc HGz34 1; have hfz34_2 := Yc HGz34 2; have hfz34_3 := Yc HGz34 3; have hfz34_4 := Yc HGz34 4; have hfz34_5 := Yc HGz34 5; have hfz34_6 := Yc HGz34 6; have hfz34_7 := Yc HGz34 7; have hfz34_8 := Yc HGz34 8; clear HGz34 hgz34) | ((with_reducible refine Yi (f := 77) rfl ?_); refine Yp (some 30) rfl rfl Tryz.func77 Zg rfl #[.pointer (some ⟨g, 0, none⟩), .string (⟨#[47, 92, 63, 35]⟩ : ByteArray)] rfl Zb ?_; (with_reducible refine (Yma.calls g t198 s0_1 s0_2 s0_3 s0_4 s0_5 s0_6 s0_7 s0_8 (⟨#[47, 92, 63, 35]⟩ : ByteArray) t199 t200 t201 t202 t203 t204 t205 t206 t207 t208 w0 _ ?side1 ?side2 ?side3 A5.out).mono ?_); (case side1 => exact HE.out); (case side2 => repeat (first | (with_reducible first | exact HI0.out | apply IsS101.alloc | apply IsS101.drewN | apply IsS101.drew | apply IsS101.set_0 | apply IsS101.set_1 | apply IsS101.set_2 | apply IsS101.set_3 | apply IsS101.set_4 | apply IsS101.set_5 | apply IsS101.set_6 | apply IsS101.set_7 | apply IsS101.set_8) | exact HI0.out)); (case side3 => repeat (first | (with_reducible first | exact HB.out | apply Ye | apply Yb | apply Yd | refine Yh ?_ (IsS101.ge HI0.out)) | exact HB.out)); rintro e w35 ⟨rfl, hi, hb, hk⟩; refine ⟨_, rfl, ?_⟩; have n0_ := Ya.mk (KeepBut.trans Ze hk (.inl rfl)); have n1_ := Ya.mk (hb); have n2_ := Ya.mk (hi); clear HK; clear HB; clear HI0; have HK := n0_; have HB := n1_; have HI0 := n2_; clear n0_ n1_ n2_; (try clear hb); (try clear hb2); (try clear hk); (try clear hi)) | ((with_reducible refine Yi (f := 73) rfl ?_); refine Yp (some 32) rfl rfl Tryz.func73 Zg rfl #[.string t199, .int .u8 64] rfl Zb ?_; (with_reducible refine (strings_IndexByte.calls t199 64 t209 _ ?side1 A6.out).mono ?_); (case side1 => first | exact HE.out | exact EnvOk.below HE.out Zd); rintro e w' ⟨rfl, ⟨nd, rfl⟩⟩; refine ⟨_, rfl, ?_⟩; (try (rw [Yid w35]; generalize hq_ : World.drewN w35 _ = w35; have n0_ : Ya (IsS101 w0 w35 g t200 t201 t202 t203 t204 t205 t206 t207 t208) := ⟨Zi⟩; have n1_ : Ya (KeepBut w w35 g none) := ⟨Zn⟩; have n2_ : Ya (Below w0.heap.size w0 w35) := ⟨Zo⟩; clear HI0 HK HB hq_; have HI0 := n0_; have HK := n1_; have HB := n2_; clear n0_ n1_ n2_))) | ((with_reducible refine Yi (f := 70) rfl ?_); refine Yp (some 36) rfl rfl Tryz.func70 Zg rfl #[.string t199, .string (⟨#[58]⟩ : ByteArray)] rfl Zb ?_; (with_reducible refine (strings_Cut.calls t199 (⟨#[58]⟩ : ByteArray) t210 t211 t212 _ ?side1 A14.out).mono ?_); (case side1 => first | exact HE.out | exact EnvOk.below HE.out Zd); rintro e w' ⟨rfl, ⟨nd, rfl⟩⟩; refine ⟨_, rfl, ?_⟩; (try (rw [Yid w35]; generalize hq_ : World.drewN w35 _ = w35; have n0_ : Ya (IsS101 w0 w35 g t200 t201 t202 t203 t204 t205 t206 t207 t208) := ⟨Zi⟩; have n1_ : Ya (KeepBut w w35 g none) := ⟨Zn⟩; have n2_ : Ya (Below w0.heap.size w0 w35) := ⟨Zo⟩; clear HI0 HK HB hq_; have HI0 := n0_; have HK := n1_; have HB := n2_; clear n0_ n1_ n2_))) | ((with_reducible refine Yi (f := 78) rfl ?_); refine Yp (some 42) rfl rfl Tryz.func78 Zg rfl #[.string t210] rfl Zb ?_; (with_reducible refine (Ysb.calls k t210 t213 t214 _ ?side1 A15.out).mono ?_); (case side1 => first | exact HE.out | exact EnvOk.below HE.out Zd); rintro e w36 ⟨rfl, hb⟩; refine ⟨_, rfl, ?_⟩; have n0_ := Ya.mk (IsS101.below Za hb); have n1_ := Ya.mk (KeepBut.trans Ze (KeepBut.of_below hb g none) (.inl rfl)); have n2_ := Ya.mk (Yn Zd hb); clear HI0; clear HK; clear HB; have HI0 := n0_; have HK := n1_; have HB := n2_; clear n0_ n1_ n2_; (try clear hb); (try clear hb2); (try clear hk); (try clear hi); obtain ⟨HGz37, hgz37⟩ := HI0.out; have hcz37_0 := Yy HGz37; have hcz37_1 := Yia HGz37; have hcz37_2 := Yja HGz37; have hcz37_3 := Yka HGz37; have hcz37_4 := Yga HGz37; have hcz37_5 := Yea HGz37; have hcz37_6 := Yaa HGz37; have hcz37_7 := Yda HGz37; have hcz37_8 := Yba HGz37; have hfz37_0 := Yc HGz37 0; have hfz37_1 := Yc HGz37 1; have hfz37_2 := Yc HGz37 2; have hfz37_3 := Yc HGz37 3; have hfz37_4 := Yc HGz37 4; have hfz37_5 := Yc HGz37 5; have hfz37_6 := Yc HGz37 6; have hfz37_7 := Yc HGz37 7; have hfz37_8 := Yc HGz37 8; clear HGz37 hgz37) | ((with_reducible refine Yi (f := 62) rfl ?_); refine Yp (some 57) rfl rfl Tryz.func62 Zg rfl #[.string t211, .int .i64 65535] rfl Zb ?_; (with_reducible refine (Ym.calls k t211 65535 t215 t216 _ ?side1 A26.out).mono ?_); (case side1 => first | exact HE.out | exact EnvOk.below HE.out Zd); rintro e w' ⟨rfl, ⟨nd, rfl⟩⟩; refine ⟨_, rfl, ?_⟩) | ((with_reducible refine Yi (f := 79) rfl ?_); refine Yp (some 68) rfl rfl Tryz.func79 Zg rfl #[.string t201] rfl Zb ?_; (with_reducible refine (Yxc.calls t201 t217 _ ?side1 A28.out).mono ?_); (case side1 => first | exact HE.out | exact EnvOk.below HE.out Zd); rintro e w' ⟨rfl, ⟨nd, rfl⟩⟩; refine ⟨_, rfl, ?_⟩))
 go_ret
 exact ⟨Zj, Za, Zd, Ze⟩
def Ywf.f (a0 : ByteArray) : Option (Int) := (Yqa.f a0).bind fun t218 => ((strings_ReplaceAll.f t218 (⟨#[37, 50, 101]⟩ : ByteArray) (⟨#[46]⟩ : ByteArray)).bind fun t219 => (if t219.toList = ([46] : List UInt8) then (some 1) else (if t219.toList = ([46, 46] : List UInt8) then (some 2) else (some 0))))
set_option maxHeartbeats 8000000 in
set_option maxRecDepth 100000 in
theorem Ywf.calls (a0 : ByteArray) (r : Int) (w : World) (hE : EnvOk w) (h : Ywf.f a0 = some r) :
  Calls Tryz.prog 105 #[.string a0] w fun e w' => e = .returned (.int .i64 r) ∧ Below w.heap.size w w' := by
 have HE := Ya.mk hE
 clear hE
 have HB := Ya.mk (Below.refl w.heap.size w)
 have H : ((Yqa.f a0).bind fun t218 => ((strings_ReplaceAll.f t218 (⟨#[37, 50, 101]⟩ : ByteArray) (⟨#[46]⟩ : ByteArray)).bind fun t219 => (if t219.toList = ([46] : List UInt8) then (some 1) else (if t219.toList = ([46, 46] : List UInt8) then (some 2) else (some 0))))) = some r := h
 clear h
 replace H := Option.bind_eq_some_iff.mp H
 obtain ⟨t218, A20, H⟩ := H
 try dsimp -simprocs only at H
 have A2 := Ya.mk A20
 clear A20
 replace H := Option.bind_eq_some_iff.mp H
 obtain ⟨t219, A30, H⟩ := H
 try dsimp -simprocs only at H
 have A3 := Ya.mk A30
 clear A30
 by_cases c4 : t219.toList = ([46] : List UInt8)
 ·rw [if_pos c4] at H
  have c4b0 : (t219.toList == ([46] : List UInt8)) = true := beq_iff_eq.mpr c4
  have c4b1 : (t219.toList != ([46] : List UInt8)) = false := bne_eq_false_iff_eq.mpr c4
  clear c4
  obtain rfl := Option.some.inj H
  go_enter Tryz.func105, Tryz.ntmps105
  go_wp2_with (first | ((with_reducible refine Yi (f := 74) rfl ?_); refine Yp (some 4) rfl rfl Tryz.func74 Zg rfl #[.string a0] rfl Zb ?_; (with_reducible refine (Yqa.calls a0 t218 _ ?side1 A2.out).mono ?_); (case side1 => first | exact HE.out | exact EnvOk.below HE.out Zc); rintro e w5 ⟨rfl, hb⟩; refine ⟨_, rfl, ?_⟩; have n0_ := Ya.mk (Yn Zc hb); clear HB; have HB := n0_; clear n0_; (try clear hb); (try clear hb2); (try clear hk); (try clear hi)) | ((with_reducible refine Yi (f := 69) rfl ?_); refine Yp (some 5) rfl rfl Tryz.func69 Zg rfl #[.string t218, .string (⟨#[37, 50, 101]⟩ : ByteArray), .string (⟨#[46]⟩ : ByteArray)] rfl Zb ?_; (with_reducible refine (strings_ReplaceAll.calls t218 (⟨#[37, 50, 101]⟩ : ByteArray) (⟨#[46]⟩ : ByteArray) t219 _ ?side1 A3.out).mono ?_); (case side1 => first | exact HE.out | exact EnvOk.below HE.out Zc); rintro e w6 ⟨rfl, hb⟩; refine ⟨_, rfl, ?_⟩; have n0_ := Ya.mk (Yn Zc hb); clear HB; have HB := n0_; clear n0_; (try clear hb); (try clear hb2); (try clear hk); (try clear hi)))
  go_ret
  exact ⟨Zj, Zc⟩
 rw [if_neg c4] at H
 have c4b0 : (t219.toList == ([46] : List UInt8)) = false := beq_eq_false_iff_ne.mpr c4
 have c4b1 : (t219.toList != ([46] : List UInt8)) = true := bne_iff_ne.mpr c4
 by_cases c7 : t219.toList = ([46, 46] : List UInt8)
 rotate_left
 ·rw [if_neg c7] at H
  have c7b0 : (t219.toList == ([46, 46] : List UInt8)) = false := beq_eq_false_iff_ne.mpr c7
  have c7b1 : (t219.toList != ([46, 46] : List UInt8)) = true := bne_iff_ne.mpr c7
  obtain rfl := Option.some.inj H
  go_enter Tryz.func105, Tryz.ntmps105
  go_wp2_with (first | ((with_reducible refine Yi (f := 74) rfl ?_); refine Yp (some 4) rfl rfl Tryz.func74 Zg rfl #[.string a0] rfl Zb ?_; (with_reducible refine (Yqa.calls a0 t218 _ ?side1 A2.out).mono ?_); (case side1 => first | exact HE.out | exact EnvOk.below HE.out Zc); rintro e w10 ⟨rfl, hb⟩; refine ⟨_, rfl, ?_⟩; have n0_ := Ya.mk (Yn Zc hb); clear HB; have HB := n0_; clear n0_; (try clear hb); (try clear hb2); (try clear hk); (try clear hi)) | ((with_reducible refine Yi (f := 69) rfl ?_); refine Yp (some 5) rfl rfl Tryz.func69 Zg rfl #[.string t218, .string (⟨#[37, 50, 101]⟩ : ByteArray), .string (⟨#[46]⟩ : ByteArray)] rfl Zb ?_; (with_reducible refine (strings_ReplaceAll.calls t218 (⟨#[37, 50, 101]⟩ : ByteArray) (⟨#[46]⟩ : ByteArray) t219 _ ?side1 A3.out).mono ?_); (case side1 => first | exact HE.out | exact EnvOk.below HE.out Zc); rintro e w11 ⟨rfl, hb⟩; refine ⟨_, rfl, ?_⟩; have n0_ := Ya.mk (Yn Zc hb); clear HB; have HB := n0_; clear n0_; (try clear hb); (try clear hb2); (try clear hk); (try clear hi)))
  go_ret
  exact ⟨Zj, Zc⟩
 rw [if_pos c7] at H
 have c7b0 : (t219.toList == ([46, 46] : List UInt8)) = true := beq_iff_eq.mpr c7
 have c7b1 : (t219.toList != ([46, 46] : List UInt8)) = false := bne_eq_false_iff_eq.mpr c7
 clear c7
 obtain rfl := Option.some.inj H
 go_enter Tryz.func105, Tryz.ntmps105
 go_wp2_with (first | ((with_reducible refine Yi (f := 74) rfl ?_); refine Yp (some 4) rfl rfl Tryz.func74 Zg rfl #[.string a0] rfl Zb ?_; (with_reducible refine (Yqa.calls a0 t218 _ ?side1 A2.out).mono ?_); (case side1 => first | exact HE.out | exact EnvOk.below HE.out Zc); rintro e w8 ⟨rfl, hb⟩; refine ⟨_, rfl, ?_⟩; have n0_ := Ya.mk (Yn Zc hb); clear HB; have HB := n0_; clear n0_; (try clear hb); (try clear hb2); (try clear hk); (try clear hi)) | ((with_reducible refine Yi (f := 69) rfl ?_); refine Yp (some 5) rfl rfl Tryz.func69 Zg rfl #[.string t218, .string (⟨#[37, 50, 101]⟩ : ByteArray), .string (⟨#[46]⟩ : ByteArray)] rfl Zb ?_; (with_reducible refine (strings_ReplaceAll.calls t218 (⟨#[37, 50, 101]⟩ : ByteArray) (⟨#[46]⟩ : ByteArray) t219 _ ?side1 A3.out).mono ?_); (case side1 => first | exact HE.out | exact EnvOk.below HE.out Zc); rintro e w9 ⟨rfl, hb⟩; refine ⟨_, rfl, ?_⟩; have n0_ := Ya.mk (Yn Zc hb); clear HB; have HB := n0_; clear n0_; (try clear hb); (try clear hb2); (try clear hk); (try clear hi)))
 go_ret
 exact ⟨Zj, Zc⟩
end Go.Proofs.YtfmjnmglagdcdaaGreatDoor.X
