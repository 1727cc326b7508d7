/- Printed by a program of ours: functions as plain Lean, and what a call of each does. -/
import Derived.Test.YtnmglnglbdpjjaaGreatDoorUjWords
import Derived.Test.YtnmglnglbdpjjaaGreatDoorUjX0
import Derived.Test.YtnmglnglbdpjjaaGreatDoorUjX3
import Derived.Test.YtnmglnglbdpjjaaGreatDoorUjX4
import Derived.Test.YtnmglnglbdpjjaaGreatDoorUjH0e
import Derived.Test.YtnmglnglbdpjjaaGreatDoorUjH1c
namespace Go.Proofs.YtnmglnglbdpjjaaGreatDoor.X
open Go.RowKit Go.Yw.PrintWords Go.Yw.PrintLast Go.Yw.PrintMore
attribute [local go_sem] Yvd Yyd Yke Yme Yld Ykd Yud Ywd
set_option linter.unusedVariables false
set_option linter.unusedSimpArgs false
mutual
def Yt.j0 : Nat → ByteArray → ByteArray → Bool → ByteArray → ByteArray → ByteArray → Int → ByteArray → ByteArray → ByteArray → Bool → Bool → Option (Int × ByteArray × ByteArray × ByteArray × Int × ByteArray × ByteArray × ByteArray × Bool × Bool)
 | 0, _, _, _, _, _, _, _, _, _, _, _, _ => none
 | k + 1, x3, x4, x29, x1000, x1001, x1002, x1003, x1004, x1005, x1006, x1007, x1008 => if x29 = true then (some (3, x1000, x1001, x1002, x1003, x1004, x1005, x1006, x1007, x1008)) else (Yt.l0 k x3 x4 (x3.size : Int) 0 x1000 x1001 x1002 x1003 x1004 x1005 x1006 x1007 x1008)
def Yt.l0 : Nat → ByteArray → ByteArray → Int → Int → ByteArray → ByteArray → ByteArray → Int → ByteArray → ByteArray → ByteArray → Bool → Bool → Option (Int × ByteArray × ByteArray × ByteArray × Int × ByteArray × ByteArray × ByteArray × Bool × Bool)
 | 0, _, _, _, _, _, _, _, _, _, _, _, _, _ => none
 | k + 1, x3, x4, x31, x32, x1000, x1001, x1002, x1003, x1004, x1005, x1006, x1007, x1008 => if x32 < x31 then (if 0 ≤ x32 then (if x32 < (x3.size : Int) then ((Yva.f (bt x3 x32)).bind fun t275 => (if t275 = true then (Yt.l0 k x3 x4 x31 (wrap64 (x32 + 1)) x1000 x1001 x1002 x1003 x1004 x1005 x1006 x1007 x1008) else ((Yta.f (bt x3 x32)).bind fun t276 => (if t276 = true then (Yt.l0 k x3 x4 x31 (wrap64 (x32 + 1)) x1000 x1001 x1002 x1003 x1004 x1005 x1006 x1007 x1008) else ((strings_IndexByte.f (⟨#[43, 45, 46]⟩ : ByteArray) (bt x3 x32)).bind fun t277 => (if t277 < 0 then (some (3, x1000, x1001, x1002, x1003, x1004, x1005, x1006, x1007, x1008)) else (Yt.l0 k x3 x4 x31 (wrap64 (x32 + 1)) x1000 x1001 x1002 x1003 x1004 x1005 x1006 x1007 x1008))))))) else (none)) else (none)) else ((Yhb.f x3).bind fun t274 => (if t274.toList = ([104, 116, 116, 112] : List UInt8) then (some (0, x4, t274, x1002, x1003, x1004, x1005, x1006, x1007, x1008)) else (if t274.toList = ([104, 116, 116, 112, 115] : List UInt8) then (some (0, x4, t274, x1002, x1003, x1004, x1005, x1006, x1007, x1008)) else (some (16, x4, t274, x1002, x1003, x1004, x1005, x1006, x1007, x1008)))))
end
def Yt.f (k : Nat) (s0_0 : ByteArray) (s0_1 : ByteArray) (s0_2 : ByteArray) (s0_3 : Int) (s0_4 : ByteArray) (s0_5 : ByteArray) (s0_6 : ByteArray) (s0_7 : Bool) (s0_8 : Bool) : Option (Int × ByteArray × ByteArray × ByteArray × Int × ByteArray × ByteArray × ByteArray × Bool × Bool) := (strings_Cut.f s0_0 (⟨#[58]⟩ : ByteArray)).bind fun bt270 => (if bt270.2.2 = true then (if bt270.1.toList = ([] : List UInt8) then (Yt.j0 k bt270.1 bt270.2.1 true s0_0 s0_1 s0_2 s0_3 s0_4 s0_5 s0_6 s0_7 s0_8) else (if 0 < (bt270.1.size : Int) then ((Yva.f (bt bt270.1 0)).bind fun t273 => (Yt.j0 k bt270.1 bt270.2.1 (!t273) s0_0 s0_1 s0_2 s0_3 s0_4 s0_5 s0_6 s0_7 s0_8)) else (none))) else (Yt.j0 k bt270.1 bt270.2.1 true s0_0 s0_1 s0_2 s0_3 s0_4 s0_5 s0_6 s0_7 s0_8))
set_option maxHeartbeats 8000000 in
set_option maxRecDepth 100000 in
theorem Yt.calls (k : Nat) (g : Nat) (s0_0 : ByteArray) (s0_1 : ByteArray) (s0_2 : ByteArray) (s0_3 : Int) (s0_4 : ByteArray) (s0_5 : ByteArray) (s0_6 : ByteArray) (s0_7 : Bool) (s0_8 : Bool) (r1 : Int) (r2 : ByteArray) (r3 : ByteArray) (r4 : ByteArray) (r5 : Int) (r6 : ByteArray) (r7 : ByteArray) (r8 : ByteArray) (r9 : Bool) (r10 : Bool) (w0 w : World) (hE : EnvOk w0) (hI : IsS53 w0 w g s0_0 s0_1 s0_2 s0_3 s0_4 s0_5 s0_6 s0_7 s0_8) (hB : Below w0.heap.size w0 w) (h : Yt.f k s0_0 s0_1 s0_2 s0_3 s0_4 s0_5 s0_6 s0_7 s0_8 = some (r1, r2, r3, r4, r5, r6, r7, r8, r9, r10)) :
  Calls Tryz.prog 43 #[.pointer (some ⟨g, 0, none⟩)] w fun e w' => e = .returned (.int .i64 r1) ∧ IsS53 w0 w' g r2 r3 r4 r5 r6 r7 r8 r9 r10 ∧ Below w0.heap.size w0 w' ∧ KeepBut w w' g none := by
 have HI0 := Ya.mk hI
 have HK := Ya.mk (KeepBut.refl w g none)
 have HL := Ya.mk hB.size
 clear hI
 have HE := Ya.mk hE
 clear hE
 have HW0 := Ya.mk hB.size
 have HB := Ya.mk hB
 clear hB
 have H : ((strings_Cut.f s0_0 (⟨#[58]⟩ : ByteArray)).bind fun bt270 => (if bt270.2.2 = true then (if bt270.1.toList = ([] : List UInt8) then (Yt.j0 k bt270.1 bt270.2.1 true s0_0 s0_1 s0_2 s0_3 s0_4 s0_5 s0_6 s0_7 s0_8) else (if 0 < (bt270.1.size : Int) then ((Yva.f (bt bt270.1 0)).bind fun t273 => (Yt.j0 k bt270.1 bt270.2.1 (!t273) s0_0 s0_1 s0_2 s0_3 s0_4 s0_5 s0_6 s0_7 s0_8)) else (none))) else (Yt.j0 k bt270.1 bt270.2.1 true s0_0 s0_1 s0_2 s0_3 s0_4 s0_5 s0_6 s0_7 s0_8))) = some (r1, r2, r3, r4, r5, r6, r7, r8, r9, r10) := h
 clear h
 replace H := Option.bind_eq_some_iff.mp H
 obtain ⟨⟨t270, t271, t272⟩, A20, H⟩ := H
 try dsimp -simprocs only at H
 have A2 := Ya.mk A20
 clear A20
 have HC3 := Ya.mk H
 clear H
 obtain ⟨HGz4, hgz4⟩ := HI0.out
 have hcz4_0 := Yzb HGz4
 have hcz4_1 := Ykc HGz4
 have hcz4_2 := Yjc HGz4
 have hcz4_3 := Yic HGz4
 have hcz4_4 := Yfc HGz4
 have hcz4_5 := Yec HGz4
 have hcz4_6 := Yyb HGz4
 have hcz4_7 := Ygc HGz4
 have hcz4_8 := Ycc HGz4
 have hfz4_0 := Ye HGz4 0
 have hfz4_1 := Ye HGz4 1
 have hfz4_2 := Ye HGz4 2
 have hfz4_3 := Ye HGz4 3
 have hfz4_4 := Ye HGz4 4
 have hfz4_5 := Ye HGz4 5
 have hfz4_6 := Ye HGz4 6
 have hfz4_7 := Ye HGz4 7
 have hfz4_8 := Ye HGz4 8
 clear HGz4 hgz4
 go_enter Tryz.func43, Tryz.ntmps43
 go_upto_region 2 with (first | ((with_reducible refine Yh (f := 76) rfl ?_); refine Yz (some 14) rfl rfl Tryz.func76 Zi rfl #[.string s0_0, .string (⟨#[58]⟩ : ByteArray)] rfl Zb ?_; (with_reducible refine (strings_Cut.calls s0_0 (⟨#[58]⟩ : ByteArray) t270 t271 t272 _ ?side1 A2.out).mono ?_); (case side1 => first | exact HE.out | exact EnvOk.below HE.out Ze); rintro e w' ⟨rfl, ⟨nd, rfl⟩⟩; refine ⟨_, rfl, ?_⟩))
 (try simp only [Act.put, List.setIfInBounds_toArray, List.set_cons_zero, List.set_cons_succ])
 go_cut [29] (fun v29 wc => ∃ (kq : Nat) (x29_2 : Bool), v29 = .bool x29_2 ∧ Ya (Yt.j0 kq t270 t271 x29_2 s0_0 s0_1 s0_2 s0_3 s0_4 s0_5 s0_6 s0_7 s0_8 = some (r1, r2, r3, r4, r5, r6, r7, r8, r9, r10)) ∧ Ya (kq ≤ k) ∧ Ya (IsS53 w0 wc g s0_0 s0_1 s0_2 s0_3 s0_4 s0_5 s0_6 s0_7 s0_8) ∧ Ya (KeepBut w wc g none) ∧ Ya (Below w0.heap.size w0 wc))
 case first =>
  have H := HC3.out
  clear HC3
  by_cases c5 : t272 = true
  rotate_left
  ·replace c5 := Bool.eq_false_iff.mpr c5
   subst c5
   rw [if_neg (show ¬ (false = true) by decide)] at H
   have H' := Ya.mk H
   clear H
   go_wp2
   go_meet
   case rel => exact ⟨_, (true), Zf, H', ⟨Zna⟩, ⟨Zd⟩, ⟨Zg⟩, ⟨Ze⟩⟩
  subst c5
  rw [if_pos rfl] at H
  by_cases c6 : t270.toList = ([] : List UInt8)
  ·rw [if_pos c6] at H
   have c6b0 : (t270.toList == ([] : List UInt8)) = true := beq_iff_eq.mpr c6
   have c6b1 : (t270.toList != ([] : List UInt8)) = false := bne_eq_false_iff_eq.mpr c6
   clear c6
   (first | rw [c6b0] | (simp only [Yqa, Yra]; rw [c6b0]) | skip)
   have H' := Ya.mk H
   clear H
   go_wp2
   go_meet
   case rel => exact ⟨_, (true), Zf, H', ⟨Zna⟩, ⟨Zd⟩, ⟨Zg⟩, ⟨Ze⟩⟩
  rw [if_neg c6] at H
  have c6b0 : (t270.toList == ([] : List UInt8)) = false := beq_eq_false_iff_ne.mpr c6
  have c6b1 : (t270.toList != ([] : List UInt8)) = true := bne_iff_ne.mpr c6
  (first | rw [c6b0] | (simp only [Yqa, Yra]; rw [c6b0]) | skip)
  by_cases c7 : 0 < (t270.size : Int)
  rotate_left
  ·rw [if_neg c7] at H
   exact absurd H Zv
  rw [if_pos c7] at H
  have c7b0 : decide (0 < (t270.size : Int)) = true := decide_eq_true c7
  have c7b1 : decide (0 < t270.size) = true := decide_eq_true Zl
  clear c7
  replace H := Option.bind_eq_some_iff.mp H
  obtain ⟨t273, A90, H⟩ := H
  try dsimp -simprocs only at H
  have A9 := Ya.mk A90
  clear A90
  have H' := Ya.mk H
  clear H
  have p8 : 0 ≤ (0 : Int) := Zl
  have q8 : 0 < t270.size := (by have : (0 : Int) < (t270.size : Int) := of_decide_eq_true Zc; omega)
  have hx8 : ∀ h : 0 < t270.size, ((t270[0]'h).toNat : Int) = bt t270 0 := Yya t270 0
  clear p8
  have qi8 : (0 < (t270.size : Int)) = True := eq_true (of_decide_eq_true Zc)
  replace q8 := eq_true q8
  go_wp2_with (first | (go_at_call 77; (with_reducible refine (Yva.calls (bt t270 0) t273 _ ?side1 A9.out).mono ?_); (case side1 => first | exact HE.out | exact EnvOk.below HE.out Ze); rintro e w' ⟨rfl, ⟨nd, rfl⟩⟩))
  go_meet
  case rel => exact ⟨_, (!t273), Zf, H', ⟨Zna⟩, ⟨Zd⟩, ⟨Zg⟩, ⟨Ze⟩⟩
 case rest =>
  clear HC3
  try clear p2
  try clear c4
  try clear c5
  try clear c6
  try clear c6b0
  try clear c6b1
  try clear c7
  try clear c7b0
  try clear c7b1
  try clear p8
  try clear q8
  try clear hx8
  try clear qi8
  try clear hcz4_0
  try clear hcz4_1
  try clear hcz4_2
  try clear hcz4_3
  try clear hcz4_4
  try clear hcz4_5
  try clear hcz4_6
  try clear hcz4_7
  try clear hcz4_8
  try clear hfz4_0
  try clear hfz4_1
  try clear hfz4_2
  try clear hfz4_3
  try clear hfz4_4
  try clear hfz4_5
  try clear hfz4_6
  try clear hfz4_7
  try clear hfz4_8
  try clear p8
  try clear q8
  obtain ⟨kq, x29_2, rfl, HA, HJ2, HI0, HK, HB⟩ := hcut
  cases kq with
  | zero => exact absurd HA.out (by simp [Yt.j0])
  | succ kj2 =>
   have H := HA.out
   clear HA
   simp only [Yt.j0] at H
   by_cases c10 : x29_2 = true
   ·subst c10
    rw [if_pos rfl] at H
    simp only [Option.some.injEq, Prod.mk.injEq] at H
    obtain ⟨rfl, rfl, rfl, rfl, rfl, rfl, rfl, rfl, rfl, rfl⟩ := H
    go_wp2
    go_ret
    exact ⟨Zk, Zd, Ze, Zg⟩
   replace c10 := Bool.eq_false_iff.mpr c10
   subst c10
   rw [if_neg (show ¬ (false = true) by decide)] at H
   have H' := Ya.mk H
   clear H
   go_wp2
   go_loopg [32] kj2 (fun kq v32 w' => ∃ (x32_2 : Int), v32 = .int .i64 x32_2 ∧ Ya (Yt.l0 kq t270 t271 (t270.size : Int) x32_2 s0_0 s0_1 s0_2 s0_3 s0_4 s0_5 s0_6 s0_7 s0_8 = some (r1, r2, r3, r4, r5, r6, r7, r8, r9, r10)) ∧ Ya (kq ≤ kj2) ∧ Ya (IsS53 w0 w' g s0_0 s0_1 s0_2 s0_3 s0_4 s0_5 s0_6 s0_7 s0_8) ∧ Ya (KeepBut w w' g none) ∧ Ya (Below w0.heap.size w0 w'))
   case atStart => exact ⟨(0), Zf, H', ⟨Nat.le_refl _⟩, ⟨Zd⟩, ⟨Zg⟩, ⟨Ze⟩⟩
   case round =>
    clear H'
    try clear c1
    try clear p2
    try clear c4
    try clear c5
    try clear c6
    try clear c6b0
    try clear c6b1
    try clear c7
    try clear c7b0
    try clear c7b1
    try clear p8
    try clear q8
    try clear hx8
    try clear qi8
    try clear c10
    try clear hcz4_0
    try clear hcz4_1
    try clear hcz4_2
    try clear hcz4_3
    try clear hcz4_4
    try clear hcz4_5
    try clear hcz4_6
    try clear hcz4_7
    try clear hcz4_8
    try clear hfz4_0
    try clear hfz4_1
    try clear hfz4_2
    try clear hfz4_3
    try clear hfz4_4
    try clear hfz4_5
    try clear hfz4_6
    try clear hfz4_7
    try clear hfz4_8
    try clear p2
    try clear p8
    try clear q8
    obtain ⟨x32_2, rfl, HA, HK2, HI0, HK, HB⟩ := hrel
    cases gk with
    | zero => exact absurd HA.out (by simp [Yt.l0])
    | succ k2 =>
     have H := HA.out
     clear HA
     simp only [Yt.l0] at H
     by_cases c11 : x32_2 < (t270.size : Int)
     rotate_left
     ·rw [if_neg c11] at H
      have c11b0 : decide (x32_2 < (t270.size : Int)) = false := decide_eq_false c11
      clear c11
      replace H := Option.bind_eq_some_iff.mp H
      obtain ⟨t274, A210, H⟩ := H
      try dsimp -simprocs only at H
      have A21 := Ya.mk A210
      clear A210
      by_cases c22 : t274.toList = ([104, 116, 116, 112] : List UInt8)
      ·rw [if_pos c22] at H
       have c22b0 : (t274.toList == ([104, 116, 116, 112] : List UInt8)) = true := beq_iff_eq.mpr c22
       have c22b1 : (t274.toList != ([104, 116, 116, 112] : List UInt8)) = false := bne_eq_false_iff_eq.mpr c22
       clear c22
       simp only [Option.some.injEq, Prod.mk.injEq] at H
       obtain ⟨rfl, rfl, rfl, rfl, rfl, rfl, rfl, rfl, rfl, rfl⟩ := H
       go_wp2_with (first | ((with_reducible refine Yh (f := 52) rfl ?_); refine Yz (some 55) rfl rfl Tryz.func52 Zi rfl #[.string t270] rfl Zb ?_; (with_reducible refine (Yhb.calls t270 t274 _ ?side1 A21.out).mono ?_); (case side1 => first | exact HE.out | exact EnvOk.below HE.out Ze); rintro e w23 ⟨rfl, hb⟩; refine ⟨_, rfl, ?_⟩; have n0_ := Ya.mk (IsS53.below Zd hb); have n1_ := Ya.mk (KeepBut.trans Zg (KeepBut.of_below hb g none) (.inl rfl)); have n2_ := Ya.mk (Yq Ze hb); clear HI0; clear HK; clear HB; have HI0 := n0_; have HK := n1_; have HB := n2_; clear n0_ n1_ n2_; (try clear hb); (try clear hb2); (try clear hk); (try clear hi); obtain ⟨HGz24, hgz24⟩ := HI0.out; have hcz24_0 := Yzb HGz24; have hcz24_1 := Ykc HGz24; have hcz24_2 := Yjc HGz24; have hcz24_3 := Yic HGz24; have hcz24_4 := Yfc HGz24; have hcz24_5 := Yec HGz24; have hcz24_6 := Yyb HGz24; have hcz24_7 := Ygc HGz24; have hcz24_8 := Ycc HGz24; have hfz24_0 := Ye HGz24 0; have hfz24_1 := Ye HGz24 1; have hfz24_2 := Ye HGz24 2; have hfz24_3 := Ye HGz24 3; have hfz24_4 := Ye HGz24 4; have hfz24_5 := Ye HGz24 5; have hfz24_6 := Ye HGz24 6; have hfz24_7 := Ye HGz24 7; have hfz24_8 := Ye HGz24 8; clear HGz24 hgz24))
       go_ret
       exact ⟨Zk, Zd, Ze, Zg⟩
      rw [if_neg c22] at H
      have c22b0 : (t274.toList == ([104, 116, 116, 112] : List UInt8)) = false := beq_eq_false_iff_ne.mpr c22
      have c22b1 : (t274.toList != ([104, 116, 116, 112] : List UInt8)) = true := bne_iff_ne.mpr c22
      by_cases c25 : t274.toList = ([104, 116, 116, 112, 115] : List UInt8)
      rotate_left
      ·rw [if_neg c25] at H
       have c25b0 : (t274.toList == ([104, 116, 116, 112, 115] : List UInt8)) = false := beq_eq_false_iff_ne.mpr c25
       have c25b1 : (t274.toList != ([104, 116, 116, 112, 115] : List UInt8)) = true := bne_iff_ne.mpr c25
       simp only [Option.some.injEq, Prod.mk.injEq] at H
       obtain ⟨rfl, rfl, rfl, rfl, rfl, rfl, rfl, rfl, rfl, rfl⟩ := H
       go_wp2_with (first | ((with_reducible refine Yh (f := 52) rfl ?_); refine Yz (some 55) rfl rfl Tryz.func52 Zi rfl #[.string t270] rfl Zb ?_; (with_reducible refine (Yhb.calls t270 t274 _ ?side1 A21.out).mono ?_); (case side1 => first | exact HE.out | exact EnvOk.below HE.out Ze); rintro e w28 ⟨rfl, hb⟩; refine ⟨_, rfl, ?_⟩; have n0_ := Ya.mk (IsS53.below Zd hb); have n1_ := Ya.mk (KeepBut.trans Zg (KeepBut.of_below hb g none) (.inl rfl)); have n2_ := Ya.mk (Yq Ze hb); clear HI0; clear HK; clear HB; have HI0 := n0_; have HK := n1_; have HB := n2_; clear n0_ n1_ n2_; (try clear hb); (try clear hb2); (try clear hk); (try clear hi); obtain ⟨HGz29, hgz29⟩ := HI0.out; have hcz29_0 := Yzb HGz29; have hcz29_1 := Ykc HGz29; have hcz29_2 := Yjc HGz29; have hcz29_3 := Yic HGz29; have hcz29_4 := Yfc HGz29; have hcz29_5 := Yec HGz29; have hcz29_6 := Yyb HGz29; have hcz29_7 := Ygc HGz29; have hcz29_8 := Ycc HGz29; have hfz29_0 := Ye HGz29 0; have hfz29_1 := Ye HGz29 1; have hfz29_2 := Ye HGz29 2; have hfz29_3 := Ye HGz29 3; have hfz29_4 := Ye HGz29 4; have hfz29_5 := Ye HGz29 5; have hfz29_6 := Ye HGz29 6; have hfz29_7 := Ye HGz29 7; have hfz29_8 := Ye HGz29 8; clear HGz29 hgz29))
       go_ret
       exact ⟨Zk, Zd, Ze, Zg⟩
      rw [if_pos c25] at H
      have c25b0 : (t274.toList == ([104, 116, 116, 112, 115] : List UInt8)) = true := beq_iff_eq.mpr c25
      have c25b1 : (t274.toList != ([104, 116, 116, 112, 115] : List UInt8)) = false := bne_eq_false_iff_eq.mpr c25
      clear c25
      simp only [Option.some.injEq, Prod.mk.injEq] at H
      obtain ⟨rfl, rfl, rfl, rfl, rfl, rfl, rfl, rfl, rfl, rfl⟩ := H
      go_wp2_with (first | ((with_reducible refine Yh (f := 52) rfl ?_); refine Yz (some 55) rfl rfl Tryz.func52 Zi rfl #[.string t270] rfl Zb ?_; (with_reducible refine (Yhb.calls t270 t274 _ ?side1 A21.out).mono ?_); (case side1 => first | exact HE.out | exact EnvOk.below HE.out Ze); rintro e w26 ⟨rfl, hb⟩; refine ⟨_, rfl, ?_⟩; have n0_ := Ya.mk (IsS53.below Zd hb); have n1_ := Ya.mk (KeepBut.trans Zg (KeepBut.of_below hb g none) (.inl rfl)); have n2_ := Ya.mk (Yq Ze hb); clear HI0; clear HK; clear HB; have HI0 := n0_; have HK := n1_; have HB := n2_; clear n0_ n1_ n2_; (try clear hb); (try clear hb2); (try clear hk); (try clear hi); obtain ⟨HGz27, hgz27⟩ := HI0.out; have hcz27_0 := Yzb HGz27; have hcz27_1 := Ykc HGz27; have hcz27_2 := Yjc HGz27; have hcz27_3 := Yic HGz27; have hcz27_4 := Yfc HGz27; have hcz27_5 := Yec HGz27; have hcz27_6 := Yyb HGz27; have hcz27_7 := Ygc HGz27; have hcz27_8 := Ycc HGz27; have hfz27_0 := Ye HGz27 0; have hfz27_1 := Ye HGz27 1; have hfz27_2 := Ye HGz27 2; have hfz27_3 := Ye HGz27 3; have hfz27_4 := Ye HGz27 4; have hfz27_5 := Ye HGz27 5; have hfz27_6 := Ye HGz27 6; have hfz27_7 := Ye HGz27 7; have hfz27_8 := Ye HGz27 8; clear HGz27 hgz27))
      go_ret
      exact ⟨Zk, Zd, Ze, Zg⟩
     rw [if_pos c11] at H
     have c11b0 : decide (x32_2 < (t270.size : Int)) = true := decide_eq_true c11
     clear c11
     by_cases c12 : 0 ≤ x32_2
     rotate_left
     ·rw [if_neg c12] at H
      exact absurd H Zv
     rw [if_pos c12] at H
     have c12b0 : decide (0 ≤ x32_2) = true := decide_eq_true c12
     clear c12
     by_cases c13 : x32_2 < (t270.size : Int)
     rotate_left
     ·rw [if_neg c13] at H
      exact absurd H Zv
     rw [if_pos c13] at H
     have c13b0 : decide (x32_2 < (t270.size : Int)) = true := decide_eq_true c13
     clear c13
     replace H := Option.bind_eq_some_iff.mp H
     obtain ⟨t275, A150, H⟩ := H
     try dsimp -simprocs only at H
     have A15 := Ya.mk A150
     clear A150
     by_cases c16 : t275 = true
     ·subst c16
      rw [if_pos rfl] at H
      have H' := Ya.mk H
      clear H
      have p14 : 0 ≤ (x32_2 : Int) := of_decide_eq_true Zc
      have q14 : x32_2 < (t270.size : Int) := of_decide_eq_true Zc
      have hx14 := Yya t270 x32_2
      replace p14 := eq_true p14
      replace q14 := eq_true q14
      go_wp2_with (first | ((with_reducible refine Yh (f := 77) rfl ?_); refine Yz (some 39) rfl rfl Tryz.func77 Zi rfl #[.int .u8 (bt t270 x32_2)] rfl Zb ?_; (with_reducible refine (Yva.calls (bt t270 x32_2) true _ ?side1 A15.out).mono ?_); (case side1 => first | exact HE.out | exact EnvOk.below HE.out Ze); rintro e w' ⟨rfl, ⟨nd, rfl⟩⟩; refine ⟨_, rfl, ?_⟩))
      go_roundg k2
      case measure => have := HJ2.out; have := HK2.out; omega
      case rel => exact ⟨(wrap64 (x32_2 + 1)), Zf, H', ⟨Zza⟩, ⟨Zd⟩, ⟨Zg⟩, ⟨Ze⟩⟩
     replace c16 := Bool.eq_false_iff.mpr c16
     subst c16
     rw [if_neg (show ¬ (false = true) by decide)] at H
     replace H := Option.bind_eq_some_iff.mp H
     obtain ⟨t276, A170, H⟩ := H
     try dsimp -simprocs only at H
     have A17 := Ya.mk A170
     clear A170
     by_cases c18 : t276 = true
     ·subst c18
      rw [if_pos rfl] at H
      have H' := Ya.mk H
      clear H
      have p14 : 0 ≤ (x32_2 : Int) := of_decide_eq_true Zc
      have q14 : x32_2 < (t270.size : Int) := of_decide_eq_true Zc
      have hx14 := Yya t270 x32_2
      replace p14 := eq_true p14
      replace q14 := eq_true q14
      go_wp2_with (first | ((with_reducible refine Yh (f := 77) rfl ?_); refine Yz (some 39) rfl rfl Tryz.func77 Zi rfl #[.int .u8 (bt t270 x32_2)] rfl Zb ?_; (with_reducible refine (Yva.calls (bt t270 x32_2) false _ ?side1 A15.out).mono ?_); (case side1 => first | exact HE.out | exact EnvOk.below HE.out Ze); rintro e w' ⟨rfl, ⟨nd, rfl⟩⟩; refine ⟨_, rfl, ?_⟩) | (go_at_call 78; (with_reducible refine (Yta.calls (bt t270 x32_2) true _ ?side1 A17.out).mono ?_); (case side1 => first | exact HE.out | exact EnvOk.below HE.out Ze); rintro e w' ⟨rfl, ⟨nd, rfl⟩⟩))
      go_roundg k2
      case measure => have := HJ2.out; have := HK2.out; omega
      case rel => exact ⟨(wrap64 (x32_2 + 1)), Zf, H', ⟨Zza⟩, ⟨Zd⟩, ⟨Zg⟩, ⟨Ze⟩⟩
     replace c18 := Bool.eq_false_iff.mpr c18
     subst c18
     rw [if_neg (show ¬ (false = true) by decide)] at H
     replace H := Option.bind_eq_some_iff.mp H
     obtain ⟨t277, A190, H⟩ := H
     try dsimp -simprocs only at H
     have A19 := Ya.mk A190
     clear A190
     by_cases c20 : t277 < 0
     ·rw [if_pos c20] at H
      have c20b0 : decide (t277 < 0) = true := decide_eq_true c20
      clear c20
      simp only [Option.some.injEq, Prod.mk.injEq] at H
      obtain ⟨rfl, rfl, rfl, rfl, rfl, rfl, rfl, rfl, rfl, rfl⟩ := H
      have p14 : 0 ≤ (x32_2 : Int) := of_decide_eq_true Zc
      have q14 : x32_2 < (t270.size : Int) := of_decide_eq_true Zc
      have hx14 := Yya t270 x32_2
      replace p14 := eq_true p14
      replace q14 := eq_true q14
      go_wp2_with (first | ((with_reducible refine Yh (f := 77) rfl ?_); refine Yz (some 39) rfl rfl Tryz.func77 Zi rfl #[.int .u8 (bt t270 x32_2)] rfl Zb ?_; (with_reducible refine (Yva.calls (bt t270 x32_2) false _ ?side1 A15.out).mono ?_); (case side1 => first | exact HE.out | exact EnvOk.below HE.out Ze); rintro e w' ⟨rfl, ⟨nd, rfl⟩⟩; refine ⟨_, rfl, ?_⟩) | (go_at_call 78; (with_reducible refine (Yta.calls (bt t270 x32_2) false _ ?side1 A17.out).mono ?_); (case side1 => first | exact HE.out | exact EnvOk.below HE.out Ze); rintro e w' ⟨rfl, ⟨nd, rfl⟩⟩) | (go_at_call 79; (with_reducible refine (strings_IndexByte.calls (⟨#[43, 45, 46]⟩ : ByteArray) (bt t270 x32_2) t277 _ ?side1 A19.out).mono ?_); (case side1 => first | exact HE.out | exact EnvOk.below HE.out Ze); rintro e w' ⟨rfl, ⟨nd, rfl⟩⟩))
      go_ret
      exact ⟨Zk, Zd, Ze, Zg⟩
     rw [if_neg c20] at H
     have c20b0 : decide (t277 < 0) = false := decide_eq_false c20
     clear c20
     have H' := Ya.mk H
     clear H
     have p14 : 0 ≤ (x32_2 : Int) := of_decide_eq_true Zc
     have q14 : x32_2 < (t270.size : Int) := of_decide_eq_true Zc
     have hx14 := Yya t270 x32_2
     replace p14 := eq_true p14
     replace q14 := eq_true q14
     go_wp2_with (first | ((with_reducible refine Yh (f := 77) rfl ?_); refine Yz (some 39) rfl rfl Tryz.func77 Zi rfl #[.int .u8 (bt t270 x32_2)] rfl Zb ?_; (with_reducible refine (Yva.calls (bt t270 x32_2) false _ ?side1 A15.out).mono ?_); (case side1 => first | exact HE.out | exact EnvOk.below HE.out Ze); rintro e w' ⟨rfl, ⟨nd, rfl⟩⟩; refine ⟨_, rfl, ?_⟩) | (go_at_call 78; (with_reducible refine (Yta.calls (bt t270 x32_2) false _ ?side1 A17.out).mono ?_); (case side1 => first | exact HE.out | exact EnvOk.below HE.out Ze); rintro e w' ⟨rfl, ⟨nd, rfl⟩⟩) | (go_at_call 79; (with_reducible refine (strings_IndexByte.calls (⟨#[43, 45, 46]⟩ : ByteArray) (bt t270 x32_2) t277 _ ?side1 A19.out).mono ?_); (case side1 => first | exact HE.out | exact EnvOk.below HE.out Ze); rintro e w' ⟨rfl, ⟨nd, rfl⟩⟩))
     go_roundg k2
     case measure => have := HJ2.out; have := HK2.out; omega
     case rel => exact ⟨(wrap64 (x32_2 + 1)), Zf, H', ⟨Zza⟩, ⟨Zd⟩, ⟨Zg⟩, ⟨Ze⟩⟩
def Yse.f (k : Nat) (a0 : ByteArray) : Option (ByteArray × Int) := (Yxd.f a0).bind fun t278 => ((Yhb.f t278).bind fun t279 => (if t279.toList = ([] : List UInt8) then (some ((⟨#[]⟩ : ByteArray), 4)) else ((Ymb.f k t279).bind fun t280 => (if t280 = true then (some (t279, 0)) else (some ((⟨#[]⟩ : ByteArray), 17))))))
set_option maxHeartbeats 8000000 in
set_option maxRecDepth 100000 in
theorem Yse.calls (k : Nat) (a0 : ByteArray) (r1 : ByteArray) (r2 : Int) (w : World) (hE : EnvOk w) (h : Yse.f k a0 = some (r1, r2)) :
  Calls Tryz.prog 19 #[.string a0] w fun e w' => e = .returned (.tuple #[.string r1, .int .i64 r2]) ∧ Below w.heap.size w w' := by
 have HE := Ya.mk hE
 clear hE
 have HB := Ya.mk (Below.refl w.heap.size w)
 have H : ((Yxd.f a0).bind fun t278 => ((Yhb.f t278).bind fun t279 => (if t279.toList = ([] : List UInt8) then (some ((⟨#[]⟩ : ByteArray), 4)) else ((Ymb.f k t279).bind fun t280 => (if t280 = true then (some (t279, 0)) else (some ((⟨#[]⟩ : ByteArray), 17))))))) = some (r1, r2) := h
 clear h
 replace H := Option.bind_eq_some_iff.mp H
 obtain ⟨t278, A20, H⟩ := H
 try dsimp -simprocs only at H
 have A2 := Ya.mk A20
 clear A20
 replace H := Option.bind_eq_some_iff.mp H
 obtain ⟨t279, A30, H⟩ := H
 try dsimp -simprocs only at H
 have A3 := Ya.mk A30
 clear A30
 by_cases c4 : t279.toList = ([] : List UInt8)
 ·rw [if_pos c4] at H
  have c4b0 : (t279.toList == ([] : List UInt8)) = true := beq_iff_eq.mpr c4
  have c4b1 : (t279.toList != ([] : List UInt8)) = false := bne_eq_false_iff_eq.mpr c4
  clear c4
  simp only [Option.some.injEq, Prod.mk.injEq] at H
  obtain ⟨rfl, rfl⟩ := H
  go_enter Tryz.func19, Tryz.ntmps19
  go_wp2_with (first | ((with_reducible refine Yh (f := 53) rfl ?_); refine Yz (some 5) rfl rfl Tryz.func53 Zi rfl #[.string a0] rfl Zb ?_; (with_reducible refine (Yxd.calls a0 t278 _ ?side1 A2.out).mono ?_); (case side1 => first | exact HE.out | exact EnvOk.below HE.out Za); rintro e w5 ⟨rfl, hb⟩; refine ⟨_, rfl, ?_⟩; have n0_ := Ya.mk (Yq Za hb); clear HB; have HB := n0_; clear n0_; (try clear hb); (try clear hb2); (try clear hk); (try clear hi)) | ((with_reducible refine Yh (f := 52) rfl ?_); refine Yz (some 6) rfl rfl Tryz.func52 Zi rfl #[.string t278] rfl Zb ?_; (with_reducible refine (Yhb.calls t278 t279 _ ?side1 A3.out).mono ?_); (case side1 => first | exact HE.out | exact EnvOk.below HE.out Za); rintro e w6 ⟨rfl, hb⟩; refine ⟨_, rfl, ?_⟩; have n0_ := Ya.mk (Yq Za hb); clear HB; have HB := n0_; clear n0_; (try clear hb); (try clear hb2); (try clear hk); (try clear hi)))
  go_ret2
  exact ⟨Zk, Za⟩
 rw [if_neg c4] at H
 have c4b0 : (t279.toList == ([] : List UInt8)) = false := beq_eq_false_iff_ne.mpr c4
 have c4b1 : (t279.toList != ([] : List UInt8)) = true := bne_iff_ne.mpr c4
 replace H := Option.bind_eq_some_iff.mp H
 obtain ⟨t280, A70, H⟩ := H
 try dsimp -simprocs only at H
 have A7 := Ya.mk A70
 clear A70
 by_cases c8 : t280 = true
 ·subst c8
  rw [if_pos rfl] at H
  simp only [Option.some.injEq, Prod.mk.injEq] at H
  obtain ⟨rfl, rfl⟩ := H
  go_enter Tryz.func19, Tryz.ntmps19
  go_wp2_with (first | ((with_reducible refine Yh (f := 53) rfl ?_); refine Yz (some 5) rfl rfl Tryz.func53 Zi rfl #[.string a0] rfl Zb ?_; (with_reducible refine (Yxd.calls a0 t278 _ ?side1 A2.out).mono ?_); (case side1 => first | exact HE.out | exact EnvOk.below HE.out Za); rintro e w9 ⟨rfl, hb⟩; refine ⟨_, rfl, ?_⟩; have n0_ := Ya.mk (Yq Za hb); clear HB; have HB := n0_; clear n0_; (try clear hb); (try clear hb2); (try clear hk); (try clear hi)) | ((with_reducible refine Yh (f := 52) rfl ?_); refine Yz (some 6) rfl rfl Tryz.func52 Zi rfl #[.string t278] rfl Zb ?_; (with_reducible refine (Yhb.calls t278 t279 _ ?side1 A3.out).mono ?_); (case side1 => first | exact HE.out | exact EnvOk.below HE.out Za); rintro e w10 ⟨rfl, hb⟩; refine ⟨_, rfl, ?_⟩; have n0_ := Ya.mk (Yq Za hb); clear HB; have HB := n0_; clear n0_; (try clear hb); (try clear hb2); (try clear hk); (try clear hi)) | ((with_reducible refine Yh (f := 54) rfl ?_); refine Yz (some 12) rfl rfl Tryz.func54 Zi rfl #[.string t279] rfl Zb ?_; (with_reducible refine (Ymb.calls k t279 true _ ?side1 A7.out).mono ?_); (case side1 => first | exact HE.out | exact EnvOk.below HE.out Za); rintro e w11 ⟨rfl, hb⟩; refine ⟨_, rfl, ?_⟩; have n0_ := Ya.mk (Yq Za hb); clear HB; have HB := n0_; clear n0_; (try clear hb); (try clear hb2); (try clear hk); (try clear hi)))
  go_ret2
  exact ⟨Zk, Za⟩
 replace c8 := Bool.eq_false_iff.mpr c8
 subst c8
 rw [if_neg (show ¬ (false = true) by decide)] at H
 simp only [Option.some.injEq, Prod.mk.injEq] at H
 obtain ⟨rfl, rfl⟩ := H
 go_enter Tryz.func19, Tryz.ntmps19
 go_wp2_with (first | ((with_reducible refine Yh (f := 53) rfl ?_); refine Yz (some 5) rfl rfl Tryz.func53 Zi rfl #[.string a0] rfl Zb ?_; (with_reducible refine (Yxd.calls a0 t278 _ ?side1 A2.out).mono ?_); (case side1 => first | exact HE.out | exact EnvOk.below HE.out Za); rintro e w12 ⟨rfl, hb⟩; refine ⟨_, rfl, ?_⟩; have n0_ := Ya.mk (Yq Za hb); clear HB; have HB := n0_; clear n0_; (try clear hb); (try clear hb2); (try clear hk); (try clear hi)) | ((with_reducible refine Yh (f := 52) rfl ?_); refine Yz (some 6) rfl rfl Tryz.func52 Zi rfl #[.string t278] rfl Zb ?_; (with_reducible refine (Yhb.calls t278 t279 _ ?side1 A3.out).mono ?_); (case side1 => first | exact HE.out | exact EnvOk.below HE.out Za); rintro e w13 ⟨rfl, hb⟩; refine ⟨_, rfl, ?_⟩; have n0_ := Ya.mk (Yq Za hb); clear HB; have HB := n0_; clear n0_; (try clear hb); (try clear hb2); (try clear hk); (try clear hi)) | ((with_reducible refine Yh (f := 54) rfl ?_); refine Yz (some 12) rfl rfl Tryz.func54 Zi rfl #[.string t279] rfl Zb ?_; (with_reducible refine (Ymb.calls k t279 false _ ?side1 A7.out).mono ?_); (case side1 => first | exact HE.out | exact EnvOk.below HE.out Za); rintro e w14 ⟨rfl, hb⟩; refine ⟨_, rfl, ?_⟩; have n0_ := Ya.mk (Yq Za hb); clear HB; have HB := n0_; clear n0_; (try clear hb); (try clear hb2); (try clear hk); (try clear hi)))
 go_ret2
 exact ⟨Zk, Za⟩
def Yhf.f (k : Nat) (s0_0 : ByteArray) (s0_1 : ByteArray) (s0_2 : ByteArray) (s0_3 : Int) (s0_4 : ByteArray) (s0_5 : ByteArray) (s0_6 : ByteArray) (s0_7 : Bool) (s0_8 : Bool) : Option (Int × ByteArray × ByteArray × ByteArray × Int × ByteArray × ByteArray × ByteArray × Bool × Bool) := (strings_IndexAny.f s0_0 (⟨#[47, 92]⟩ : ByteArray)).bind fun t281 => (if t281 = 0 then ((Ymc.f s0_0 (⟨#[47, 92]⟩ : ByteArray)).bind fun t282 => ((Ybc.f t282 s0_1 s0_2 s0_3 s0_4 s0_5 s0_6 s0_7 s0_8 (⟨#[47, 92, 63, 35]⟩ : ByteArray)).bind fun bt283 => ((strings_IndexByte.f bt283.1 64).bind fun t293 => (if t293 ≥ 0 then (some (3, bt283.2.1, bt283.2.2.1, bt283.2.2.2.1, bt283.2.2.2.2.1, bt283.2.2.2.2.2.1, bt283.2.2.2.2.2.2.1, bt283.2.2.2.2.2.2.2.1, bt283.2.2.2.2.2.2.2.2.1, bt283.2.2.2.2.2.2.2.2.2)) else ((strings_Cut.f bt283.1 (⟨#[58]⟩ : ByteArray)).bind fun bt294 => ((Yse.f k bt294.1).bind fun bt297 => (if bt297.2 = 0 then (if bt294.2.1.toList = ([] : List UInt8) then (some (0, bt283.2.1, bt283.2.2.1, bt297.1, bt283.2.2.2.2.1, bt283.2.2.2.2.2.1, bt283.2.2.2.2.2.2.1, bt283.2.2.2.2.2.2.2.1, bt283.2.2.2.2.2.2.2.2.1, bt283.2.2.2.2.2.2.2.2.2)) else ((Yha.f k bt294.2.1 65535).bind fun bt299 => (if bt299.2 = 0 then ((Yag.f bt283.2.2.1).bind fun t301 => (if bt299.1 = t301 then (some (0, bt283.2.1, bt283.2.2.1, bt297.1, bt283.2.2.2.2.1, bt283.2.2.2.2.2.1, bt283.2.2.2.2.2.2.1, bt283.2.2.2.2.2.2.2.1, bt283.2.2.2.2.2.2.2.2.1, bt283.2.2.2.2.2.2.2.2.2)) else (some (0, bt283.2.1, bt283.2.2.1, bt297.1, bt299.1, bt283.2.2.2.2.2.1, bt283.2.2.2.2.2.2.1, bt283.2.2.2.2.2.2.2.1, bt283.2.2.2.2.2.2.2.2.1, bt283.2.2.2.2.2.2.2.2.2)))) else (some (3, bt283.2.1, bt283.2.2.1, bt297.1, bt283.2.2.2.2.1, bt283.2.2.2.2.2.1, bt283.2.2.2.2.2.2.1, bt283.2.2.2.2.2.2.2.1, bt283.2.2.2.2.2.2.2.2.1, bt283.2.2.2.2.2.2.2.2.2))))) else (some (bt297.2, bt283.2.1, bt283.2.2.1, bt283.2.2.2.1, bt283.2.2.2.2.1, bt283.2.2.2.2.2.1, bt283.2.2.2.2.2.2.1, bt283.2.2.2.2.2.2.2.1, bt283.2.2.2.2.2.2.2.2.1, bt283.2.2.2.2.2.2.2.2.2))))))))) else (some (3, s0_0, s0_1, s0_2, s0_3, s0_4, s0_5, s0_6, s0_7, s0_8)))
set_option maxHeartbeats 8000000 in
set_option maxRecDepth 100000 in
theorem Yhf.calls (k : Nat) (g : Nat) (s0_0 : ByteArray) (s0_1 : ByteArray) (s0_2 : ByteArray) (s0_3 : Int) (s0_4 : ByteArray) (s0_5 : ByteArray) (s0_6 : ByteArray) (s0_7 : Bool) (s0_8 : Bool) (r1 : Int) (r2 : ByteArray) (r3 : ByteArray) (r4 : ByteArray) (r5 : Int) (r6 : ByteArray) (r7 : ByteArray) (r8 : ByteArray) (r9 : Bool) (r10 : Bool) (w0 w : World) (hE : EnvOk w0) (hI : IsS53 w0 w g s0_0 s0_1 s0_2 s0_3 s0_4 s0_5 s0_6 s0_7 s0_8) (hB : Below w0.heap.size w0 w) (h : Yhf.f k s0_0 s0_1 s0_2 s0_3 s0_4 s0_5 s0_6 s0_7 s0_8 = some (r1, r2, r3, r4, r5, r6, r7, r8, r9, r10)) :
  Calls Tryz.prog 44 #[.pointer (some ⟨g, 0, none⟩)] w fun e w' => e = .returned (.int .i64 r1) ∧ IsS53 w0 w' g r2 r3 r4 r5 r6 r7 r8 r9 r10 ∧ Below w0.heap.size w0 w' ∧ KeepBut w w' g none := by
 have HI0 := Ya.mk hI
 have HK := Ya.mk (KeepBut.refl w g none)
 have HL := Ya.mk hB.size
 clear hI
 have HE := Ya.mk hE
 clear hE
 have HW0 := Ya.mk hB.size
 have HB := Ya.mk hB
 clear hB
 have H : ((strings_IndexAny.f s0_0 (⟨#[47, 92]⟩ : ByteArray)).bind fun t281 => (if t281 = 0 then ((Ymc.f s0_0 (⟨#[47, 92]⟩ : ByteArray)).bind fun t282 => ((Ybc.f t282 s0_1 s0_2 s0_3 s0_4 s0_5 s0_6 s0_7 s0_8 (⟨#[47, 92, 63, 35]⟩ : ByteArray)).bind fun bt283 => ((strings_IndexByte.f bt283.1 64).bind fun t293 => (if t293 ≥ 0 then (some (3, bt283.2.1, bt283.2.2.1, bt283.2.2.2.1, bt283.2.2.2.2.1, bt283.2.2.2.2.2.1, bt283.2.2.2.2.2.2.1, bt283.2.2.2.2.2.2.2.1, bt283.2.2.2.2.2.2.2.2.1, bt283.2.2.2.2.2.2.2.2.2)) else ((strings_Cut.f bt283.1 (⟨#[58]⟩ : ByteArray)).bind fun bt294 => ((Yse.f k bt294.1).bind fun bt297 => (if bt297.2 = 0 then (if bt294.2.1.toList = ([] : List UInt8) then (some (0, bt283.2.1, bt283.2.2.1, bt297.1, bt283.2.2.2.2.1, bt283.2.2.2.2.2.1, bt283.2.2.2.2.2.2.1, bt283.2.2.2.2.2.2.2.1, bt283.2.2.2.2.2.2.2.2.1, bt283.2.2.2.2.2.2.2.2.2)) else ((Yha.f k bt294.2.1 65535).bind fun bt299 => (if bt299.2 = 0 then ((Yag.f bt283.2.2.1).bind fun t301 => (if bt299.1 = t301 then (some (0, bt283.2.1, bt283.2.2.1, bt297.1, bt283.2.2.2.2.1, bt283.2.2.2.2.2.1, bt283.2.2.2.2.2.2.1, bt283.2.2.2.2.2.2.2.1, bt283.2.2.2.2.2.2.2.2.1, bt283.2.2.2.2.2.2.2.2.2)) else (some (0, bt283.2.1, bt283.2.2.1, bt297.1, bt299.1, bt283.2.2.2.2.2.1, bt283.2.2.2.2.2.2.1, bt283.2.2.2.2.2.2.2.1, bt283.2.2.2.2.2.2.2.2.1, bt283.2.2.2.2.2.2.2.2.2)))) else (some (3, bt283.2.1, bt283.2.2.1, bt297.1, bt283.2.2.2.2.1, bt283.2.2.2.2.2.1, bt283.2.2.2.2.2.2.1, bt283.2.2.2.2.2.2.2.1, bt283.2.2.2.2.2.2.2.2.1, bt283.2.2.2.2.2.2.2.2.2))))) else (some (bt297.2, bt283.2.1, bt283.2.2.1, bt283.2.2.2.1, bt283.2.2.2.2.1, bt283.2.2.2.2.2.1, bt283.2.2.2.2.2.2.1, bt283.2.2.2.2.2.2.2.1, bt283.2.2.2.2.2.2.2.2.1, bt283.2.2.2.2.2.2.2.2.2))))))))) else (some (3, s0_0, s0_1, s0_2, s0_3, s0_4, s0_5, s0_6, s0_7, s0_8)))) = some (r1, r2, r3, r4, r5, r6, r7, r8, r9, r10) := h
 clear h
 replace H := Option.bind_eq_some_iff.mp H
 obtain ⟨t281, A20, H⟩ := H
 try dsimp -simprocs only at H
 have A2 := Ya.mk A20
 clear A20
 by_cases c3 : t281 = 0
 rotate_left
 ·rw [if_neg c3] at H
  have c3b0 : (t281 == 0) = false := beq_eq_false_iff_ne.mpr c3
  have c3b1 : (t281 != 0) = true := bne_iff_ne.mpr c3
  simp only [Option.some.injEq, Prod.mk.injEq] at H
  obtain ⟨rfl, rfl, rfl, rfl, rfl, rfl, rfl, rfl, rfl, rfl⟩ := H
  obtain ⟨HGz61, hgz61⟩ := HI0.out
  have hcz61_0 := Yzb HGz61
  have hcz61_1 := Ykc HGz61
  have hcz61_2 := Yjc HGz61
  have hcz61_3 := Yic HGz61
  have hcz61_4 := Yfc HGz61
  have hcz61_5 := Yec HGz61
  have hcz61_6 := Yyb HGz61
  have hcz61_7 := Ygc HGz61
  have hcz61_8 := Ycc HGz61
  have hfz61_0 := Ye HGz61 0
  have hfz61_1 := Ye HGz61 1
  have hfz61_2 := Ye HGz61 2
  have hfz61_3 := Ye HGz61 3
  have hfz61_4 := Ye HGz61 4
  have hfz61_5 := Ye HGz61 5
  have hfz61_6 := Ye HGz61 6
  have hfz61_7 := Ye HGz61 7
  have hfz61_8 := Ye HGz61 8
  clear HGz61 hgz61
  go_enter Tryz.func44, Tryz.ntmps44
  go_wp2_with (first | ((with_reducible refine Yh (f := 80) rfl ?_); refine Yz (some 15) rfl rfl Tryz.func80 Zi rfl #[.string s0_0, .string (⟨#[47, 92]⟩ : ByteArray)] rfl Zb ?_; (with_reducible refine (strings_IndexAny.calls s0_0 (⟨#[47, 92]⟩ : ByteArray) t281 _ ?side1 A2.out).mono ?_); (case side1 => first | exact HE.out | exact EnvOk.below HE.out Ze); rintro e w62 ⟨rfl, hb⟩; refine ⟨_, rfl, ?_⟩; have n0_ := Ya.mk (IsS53.below Zd hb); have n1_ := Ya.mk (KeepBut.trans Zg (KeepBut.of_below hb g none) (.inl rfl)); have n2_ := Ya.mk (Yq Ze hb); clear HI0; clear HK; clear HB; have HI0 := n0_; have HK := n1_; have HB := n2_; clear n0_ n1_ n2_; (try clear hb); (try clear hb2); (try clear hk); (try clear hi)))
  go_ret
  exact ⟨Zk, Zd, Ze, Zg⟩
 rw [if_pos c3] at H
 have c3b0 : (t281 == 0) = true := beq_iff_eq.mpr c3
 have c3b1 : (t281 != 0) = false := bne_eq_false_iff_eq.mpr c3
 clear c3
 replace H := Option.bind_eq_some_iff.mp H
 obtain ⟨t282, A40, H⟩ := H
 try dsimp -simprocs only at H
 have A4 := Ya.mk A40
 clear A40
 replace H := Option.bind_eq_some_iff.mp H
 obtain ⟨⟨t283, t284, t285, t286, t287, t288, t289, t290, t291, t292⟩, A50, H⟩ := H
 try dsimp -simprocs only at H
 have A5 := Ya.mk A50
 clear A50
 replace H := Option.bind_eq_some_iff.mp H
 obtain ⟨t293, A60, H⟩ := H
 try dsimp -simprocs only at H
 have A6 := Ya.mk A60
 clear A60
 by_cases c7 : t293 ≥ 0
 ·rw [if_pos c7] at H
  have c7b0 : decide (0 ≤ t293) = true := decide_eq_true c7
  clear c7
  simp only [Option.some.injEq, Prod.mk.injEq] at H
  obtain ⟨rfl, rfl, rfl, rfl, rfl, rfl, rfl, rfl, rfl, rfl⟩ := H
  obtain ⟨HGz8, hgz8⟩ := HI0.out
  have hcz8_0 := Yzb HGz8
  have hcz8_1 := Ykc HGz8
  have hcz8_2 := Yjc HGz8
  have hcz8_3 := Yic HGz8
  have hcz8_4 := Yfc HGz8
  have hcz8_5 := Yec HGz8
  have hcz8_6 := Yyb HGz8
  have hcz8_7 := Ygc HGz8
  have hcz8_8 := Ycc HGz8
  have hfz8_0 := Ye HGz8 0
  have hfz8_1 := Ye HGz8 1
  have hfz8_2 := Ye HGz8 2
  have hfz8_3 := Ye HGz8 3
  have hfz8_4 := Ye HGz8 4
  have hfz8_5 := Ye HGz8 5
  have hfz8_6 := Ye HGz8 6
  have hfz8_7 := Ye HGz8 7
  have hfz8_8 := Ye HGz8 8
  clear HGz8 hgz8
  go_enter Tryz.func44, Tryz.ntmps44
  go_wp2_with (first | ((with_reducible refine Yh (f := 80) rfl ?_); refine Yz (some 15) rfl rfl Tryz.func80 Zi rfl #[.string s0_0, .string (⟨#[47, 92]⟩ : ByteArray)] rfl Zb ?_; (with_reducible refine (strings_IndexAny.calls s0_0 (⟨#[47, 92]⟩ : ByteArray) t281 _ ?side1 A2.out).mono ?_); (case side1 => first | exact HE.out | exact EnvOk.below HE.out Ze); rintro e w9 ⟨rfl, hb⟩; refine ⟨_, rfl, ?_⟩; have n0_ := Ya.mk (IsS53.below Zd hb); have n1_ := Ya.mk (KeepBut.trans Zg (KeepBut.of_below hb g none) (.inl rfl)); have n2_ := Ya.mk (Yq Ze hb); clear HI0; clear HK; clear HB; have HI0 := n0_; have HK := n1_; have HB := n2_; clear n0_ n1_ n2_; (try clear hb); (try clear hb2); (try clear hk); (try clear hi); obtain ⟨HGz10, hgz10⟩ := HI0.out; have hcz10_0 := Yzb HGz10; have hcz10_1 := Ykc HGz10; have hcz10_2 := Yjc HGz10; have hcz10_3 := Yic HGz10; have hcz10_4 := Yfc HGz10; have hcz10_5 := Yec HGz10; have hcz10_6 := Yyb HGz10; have hcz10_7 := Ygc HGz10; have hcz10_8 := Ycc HGz10; have hfz10_0 := Ye HGz10 0; have hfz10_1 := Ye HGz10 1; have hfz10_2 := Ye HGz10 2; have hfz10_3 := Ye HGz10 3; have hfz10_4 := Ye HGz10 4; have hfz10_5 := Ye HGz10 5; have hfz10_6 := Ye HGz10 6; have hfz10_7 := Ye HGz10 7; have hfz10_8 := Ye HGz10 8; clear HGz10 hgz10) | ((with_reducible refine Yh (f := 81) rfl ?_); refine Yz (some 23) rfl rfl Tryz.func81 Zi rfl #[.string s0_0, .string (⟨#[47, 92]⟩ : ByteArray)] rfl Zb ?_; (with_reducible refine (Ymc.calls s0_0 (⟨#[47, 92]⟩ : ByteArray) t282 _ ?side1 A4.out).mono ?_); (case side1 => first | exact HE.out | exact EnvOk.below HE.out Ze); rintro e w11 ⟨rfl, hb⟩; refine ⟨_, rfl, ?_⟩; have n0_ := Ya.mk (IsS53.below Zd hb); have n1_ := Ya.mk (KeepBut.trans Zg (KeepBut.of_below hb g none) (.inl rfl)); have n2_ := Ya.mk (Yq Ze hb); clear HI0; clear HK; clear HB; have HI0 := n0_; have HK := n1_; have HB := n2_; clear n0_ n1_ n2_; (try clear hb); (try clear hb2); (try clear hk); (try clear hi); obtain ⟨HGz12, hgz12⟩ := HI0.out; have hcz12_0 := Yzb HGz12; have hcz12_1 := Ykc HGz12; have hcz12_2 := Yjc HGz12; have hcz12_3 := Yic HGz12; have hcz12_4 := Yfc HGz12; have hcz12_5 := Yec HGz12; have hcz12_6 := Yyb HGz12; have hcz12_7 := Ygc HGz12; have hcz12_8 := Ycc HGz12; have hfz12_0 := Ye HGz12 0; have hfz12_1 := Ye HGz12 1; have hfz12_2 := Ye HGz12 2; have hfz12_3 := Ye HGz12 3; have hfz12_4 := Ye HGz12 4; have hfz12_5 := Ye HGz12 5; have hfz12_6 := Ye HGz12 6; have hfz12_7 := Ye HGz12 7; have hfz12_8 := Ye HGz12 8; clear HGz12 hgz12) | ((with_reducible refine Yh (f := 82) rfl ?_); refine Yz (some 30) rfl rfl Tryz.func82 Zi rfl #[.pointer (some ⟨g, 0, none⟩), .string (⟨#[47, 92, 63, 35]⟩ : ByteArray)] rfl Zb ?_; (with_reducible refine (Ybc.calls g t282 s0_1 s0_2 s0_3 s0_4 s0_5 s0_6 s0_7 s0_8 (⟨#[47, 92, 63, 35]⟩ : ByteArray) t283 t284 t285 t286 t287 t288 t289 t290 t291 t292 w0 _ ?side1 ?side2 ?side3 A5.out).mono ?_); (case side1 => exact HE.out); (case side2 => repeat (first | (with_reducible first | exact HI0.out | apply IsS53.alloc | apply IsS53.drewN | apply IsS53.drew | apply IsS53.set_0 | apply IsS53.set_1 | apply IsS53.set_2 | apply IsS53.set_3 | apply IsS53.set_4 | apply IsS53.set_5 | apply IsS53.set_6 | apply IsS53.set_7 | apply IsS53.set_8) | exact HI0.out)); (case side3 => repeat (first | (with_reducible first | exact HB.out | apply Yd | apply Yb | apply Yc | refine Yg ?_ (IsS53.ge HI0.out)) | exact HB.out)); rintro e w13 ⟨rfl, hi, hb, hk⟩; refine ⟨_, rfl, ?_⟩; have n0_ := Ya.mk (KeepBut.trans Zg hk (.inl rfl)); have n1_ := Ya.mk (hb); have n2_ := Ya.mk (hi); clear HK; clear HB; clear HI0; have HK := n0_; have HB := n1_; have HI0 := n2_; clear n0_ n1_ n2_; (try clear hb); (try clear hb2); (try clear hk); (try clear hi)) | ((with_reducible refine Yh (f := 79) rfl ?_); refine Yz (some 32) rfl rfl Tryz.func79 Zi rfl #[.string t283, .int .u8 64] rfl Zb ?_; (with_reducible refine (strings_IndexByte.calls t283 64 t293 _ ?side1 A6.out).mono ?_); (case side1 => first | exact HE.out | exact EnvOk.below HE.out Ze); rintro e w' ⟨rfl, ⟨nd, rfl⟩⟩; refine ⟨_, rfl, ?_⟩))
  go_ret
  exact ⟨Zk, Zd, Ze, Zg⟩
 rw [if_neg c7] at H
 have c7b0 : decide (0 ≤ t293) = false := decide_eq_false c7
 clear c7
 replace H := Option.bind_eq_some_iff.mp H
 obtain ⟨⟨t294, t295, t296⟩, A140, H⟩ := H
 try dsimp -simprocs only at H
 have A14 := Ya.mk A140
 clear A140
 replace H := Option.bind_eq_some_iff.mp H
 obtain ⟨⟨t297, t298⟩, A150, H⟩ := H
 try dsimp -simprocs only at H
 have A15 := Ya.mk A150
 clear A150
 by_cases c16 : t298 = 0
 rotate_left
 ·rw [if_neg c16] at H
  have c16b0 : (t298 == 0) = false := beq_eq_false_iff_ne.mpr c16
  have c16b1 : (t298 != 0) = true := bne_iff_ne.mpr c16
  simp only [Option.some.injEq, Prod.mk.injEq] at H
  obtain ⟨rfl, rfl, rfl, rfl, rfl, rfl, rfl, rfl, rfl, rfl⟩ := H
  obtain ⟨HGz54, hgz54⟩ := HI0.out
  have hcz54_0 := Yzb HGz54
  have hcz54_1 := Ykc HGz54
  have hcz54_2 := Yjc HGz54
  have hcz54_3 := Yic HGz54
  have hcz54_4 := Yfc HGz54
  have hcz54_5 := Yec HGz54
  have hcz54_6 := Yyb HGz54
  have hcz54_7 := Ygc HGz54
  have hcz54_8 := Ycc HGz54
  have hfz54_0 := Ye HGz54 0
  have hfz54_1 := Ye HGz54 1
  have hfz54_2 := Ye HGz54 2
  have hfz54_3 := Ye HGz54 3
  have hfz54_4 := Ye HGz54 4
  have hfz54_5 := Ye HGz54 5
  have hfz54_6 := Ye HGz54 6
  have hfz54_7 := Ye HGz54 7
  have hfz54_8 := Ye HGz54 8
  clear HGz54 hgz54
  go_enter Tryz.func44, Tryz.ntmps44
  go_wp2_with (first | ((with_reducible refine Yh (f := 80) rfl ?_); refine Yz (some 15) rfl rfl Tryz.func80 Zi rfl #[.string s0_0, .string (⟨#[47, 92]⟩ : ByteArray)] rfl Zb ?_; (with_reducible refine (strings_IndexAny.calls s0_0 (⟨#[47, 92]⟩ : ByteArray) t281 _ ?side1 A2.out).mono ?_); (case side1 => first | exact HE.out | exact EnvOk.below HE.out Ze); rintro e w55 ⟨rfl, hb⟩; refine ⟨_, rfl, ?_⟩; have n0_ := Ya.mk (IsS53.below Zd hb); have n1_ := Ya.mk (KeepBut.trans Zg (KeepBut.of_below hb g none) (.inl rfl)); have n2_ := Ya.mk (Yq Ze hb); clear HI0; clear HK; clear HB; have HI0 := n0_; have HK := n1_; have HB := n2_; clear n0_ n1_ n2_; (try clear hb); (try clear hb2); (try clear hk); (try clear hi); obtain ⟨HGz56, hgz56⟩ := HI0.out; have hcz56_0 := Yzb HGz56; have hcz56_1 := Ykc HGz56; have hcz56_2 := Yjc HGz56; have hcz56_3 := Yic HGz56; have hcz56_4 := Yfc HGz56; have hcz56_5 := Yec HGz56; have hcz56_6 := Yyb HGz56; have hcz56_7 := Ygc HGz56; have hcz56_8 := Ycc HGz56; have hfz56_0 := Ye HGz56 0; have hfz56_1 := Ye HGz56 1; have hfz56_2 := Ye HGz56 2; have hfz56_3 := Ye HGz56 3; have hfz56_4 := Ye HGz56 4; have hfz56_5 := Ye HGz56 5; have hfz56_6 := Ye HGz56 6; have hfz56_7 := Ye HGz56 7; have hfz56_8 := Ye HGz56 8; clear HGz56 hgz56) | ((with_reducible refine Yh (f := 81) rfl ?_); refine Yz (some 23) rfl rfl Tryz.func81 Zi rfl #[.string s0_0, .string (⟨#[47, 92]⟩ : ByteArray)] rfl Zb ?_; (with_reducible refine (Ymc.calls s0_0 (⟨#[47, 92]⟩ : ByteArray) t282 _ ?side1 A4.out).mono ?_); (case side1 => first | exact HE.out | exact EnvOk.below HE.out Ze); rintro e w57 ⟨rfl, hb⟩; refine ⟨_, rfl, ?_⟩; have n0_ := Ya.mk (IsS53.below Zd hb); have n1_ := Ya.mk (KeepBut.trans Zg (KeepBut.of_below hb g none) (.inl rfl)); have n2_ := Ya.mk (Yq Ze hb); clear HI0; clear HK; clear HB; have HI0 := n0_; have HK := n1_; have HB := n2_; clear n0_ n1_ n2_; (try clear hb); (try clear hb2); (try clear hk); (try clear hi); obtain ⟨HGz58, hgz58⟩ := HI0.out; have hcz58_0 := Yzb HGz58; have hcz58_1 := Ykc HGz58; have hcz58_2 := Yjc HGz58; have hcz58_3 := Yic HGz58; have hcz58_4 := Yfc HGz58; have hcz58_5 := Yec HGz58; have hcz58_6 := Yyb HGz58; have hcz58_7 := Ygc HGz58; have hcz58_8 := Ycc HGz58; have hfz58_0 := Ye HGz58 0; have hfz58_1 := Ye HGz58 1; have hfz58_2 := Ye HGz58 2; have hfz58_3 := Ye HGz58 3; have hfz58_4 := Ye HGz58 4; have hfz58_5 := Ye HGz58 5; have hfz58_6 := Ye HGz58 6; have hfz58_7 := Ye HGz58 7; have hfz58_8 := Ye HGz58 8; clear HGz58 hgz58) | ((with_reducible refine Yh (f := 82) rfl ?_); refine Yz (some 30) rfl rfl Tryz.func82 Zi rfl #[.pointer (some ⟨g, 0, none⟩), .string (⟨#[47, 92, 63, 35]⟩ : ByteArray)] rfl Zb ?_; (with_reducible refine (Ybc.calls g t282 s0_1 s0_2 s0_3 s0_4 s0_5 s0_6 s0_7 s0_8 (⟨#[47, 92, 63, 35]⟩ : ByteArray) t283 t284 t285 t286 t287 t288 t289 t290 t291 t292 w0 _ ?side1 ?side2 ?side3 A5.out).mono ?_); (case side1 => exact HE.out); (case side2 => repeat (first | (with_reducible first | exact HI0.out | apply IsS53.alloc | apply IsS53.drewN | apply IsS53.drew | apply IsS53.set_0 | apply IsS53.set_1 | apply IsS53.set_2 | apply IsS53.set_3 | apply IsS53.set_4 | apply IsS53.set_5 | apply IsS53.set_6 | apply IsS53.set_7 | apply IsS53.set_8) | exact HI0.out)); (case side3 => repeat (first | (with_reducible first | exact HB.out | apply Yd | apply Yb | apply Yc | refine Yg ?_ (IsS53.ge HI0.out)) | exact HB.out)); rintro e w59 ⟨rfl, hi, hb, hk⟩; refine ⟨_, rfl, ?_⟩; have n0_ := Ya.mk (KeepBut.trans Zg hk (.inl rfl)); have n1_ := Ya.mk (hb); have n2_ := Ya.mk (hi); clear HK; clear HB; clear HI0; have HK := n0_; have HB := n1_; have HI0 := n2_; clear n0_ n1_ n2_; (try clear hb); (try clear hb2); (try clear hk); (try clear hi)) | ((with_reducible refine Yh (f := 79) rfl ?_); refine Yz (some 32) rfl rfl Tryz.func79 Zi rfl #[.string t283, .int .u8 64] rfl Zb ?_; (with_reducible refine (strings_IndexByte.calls t283 64 t293 _ ?side1 A6.out).mono ?_); (case side1 => first | exact HE.out | exact EnvOk.below HE.out Ze); rintro e w' ⟨rfl, ⟨nd, rfl⟩⟩; refine ⟨_, rfl, ?_⟩) | ((with_reducible refine Yh (f := 76) rfl ?_); refine Yz (some 36) rfl rfl Tryz.func76 Zi rfl #[.string t283, .string (⟨#[58]⟩ : ByteArray)] rfl Zb ?_; (with_reducible refine (strings_Cut.calls t283 (⟨#[58]⟩ : ByteArray) t294 t295 t296 _ ?side1 A14.out).mono ?_); (case side1 => first | exact HE.out | exact EnvOk.below HE.out Ze); rintro e w' ⟨rfl, ⟨nd, rfl⟩⟩; refine ⟨_, rfl, ?_⟩) | ((with_reducible refine Yh (f := 19) rfl ?_); refine Yz (some 42) rfl rfl Tryz.func19 Zi rfl #[.string t294] rfl Zb ?_; (with_reducible refine (Yse.calls k t294 t297 t298 _ ?side1 A15.out).mono ?_); (case side1 => first | exact HE.out | exact EnvOk.below HE.out Ze); rintro e w60 ⟨rfl, hb⟩; refine ⟨_, rfl, ?_⟩; have n0_ := Ya.mk (IsS53.below Zd hb); have n1_ := Ya.mk (KeepBut.trans Zg (KeepBut.of_below hb g none) (.inl rfl)); have n2_ := Ya.mk (Yq Ze hb); clear HI0; clear HK; clear HB; have HI0 := n0_; have HK := n1_; have HB := n2_; clear n0_ n1_ n2_; (try clear hb); (try clear hb2); (try clear hk); (try clear hi)))
  go_ret
  exact ⟨Zk, Zd, Ze, Zg⟩
 rw [if_pos c16] at H
 have c16b0 : (t298 == 0) = true := beq_iff_eq.mpr c16
 have c16b1 : (t298 != 0) = false := bne_eq_false_iff_eq.mpr c16
 clear c16
 by_cases c17 : t295.toList = ([] : List UInt8)
 ·rw [if_pos c17] at H
  have c17b0 : (t295.toList == ([] : List UInt8)) = true := beq_iff_eq.mpr c17
  have c17b1 : (t295.toList != ([] : List UInt8)) = false := bne_eq_false_iff_eq.mpr c17
  clear c17
  simp only [Option.some.injEq, Prod.mk.injEq] at H
  obtain ⟨rfl, rfl, rfl, rfl, rfl, rfl, rfl, rfl, rfl, rfl⟩ := H
  obtain ⟨HGz18, hgz18⟩ := HI0.out
  have hcz18_0 := Yzb HGz18
  have hcz18_1 := Ykc HGz18
  have hcz18_2 := Yjc HGz18
  have hcz18_3 := Yic HGz18
  have hcz18_4 := Yfc HGz18
  have hcz18_5 := Yec HGz18
  have hcz18_6 := Yyb HGz18
  have hcz18_7 := Ygc HGz18
  have hcz18_8 := Ycc HGz18
  have hfz18_0 := Ye HGz18 0
  have hfz18_1 := Ye HGz18 1
  have hfz18_2 := Ye HGz18 2
  have hfz18_3 := Ye HGz18 3
  have hfz18_4 := Ye HGz18 4
  have hfz18_5 := Ye HGz18 5
  have hfz18_6 := Ye HGz18 6
  have hfz18_7 := Ye HGz18 7
  have hfz18_8 := Ye HGz18 8
  clear HGz18 hgz18
  go_enter Tryz.func44, Tryz.ntmps44
  go_wp2_with (first | ((with_reducible refine Yh (f := 80) rfl ?_); refine Yz (some 15) rfl rfl Tryz.func80 Zi rfl #[.string s0_0, .string (⟨#[47, 92]⟩ : ByteArray)] rfl Zb ?_; (with_reducible refine (strings_IndexAny.calls s0_0 (⟨#[47, 92]⟩ : ByteArray) t281 _ ?side1 A2.out).mono ?_); (case side1 => first | exact HE.out | exact EnvOk.below HE.out Ze); rintro e w19 ⟨rfl, hb⟩; refine ⟨_, rfl, ?_⟩; have n0_ := Ya.mk (IsS53.below Zd hb); have n1_ := Ya.mk (KeepBut.trans Zg (KeepBut.of_below hb g none) (.inl rfl)); have n2_ := Ya.mk (Yq Ze hb); clear HI0; clear HK; clear HB; have HI0 := n0_; have HK := n1_; have HB := n2_; clear n0_ n1_ n2_; (try clear hb); (try clear hb2); (try clear hk); (try clear hi); obtain ⟨HGz20, hgz20⟩ := HI0.out; have hcz20_0 := Yzb HGz20; have hcz20_1 := Ykc HGz20; have hcz20_2 := Yjc HGz20; have hcz20_3 := Yic HGz20; have hcz20_4 := Yfc HGz20; have hcz20_5 := Yec HGz20; have hcz20_6 := Yyb HGz20; have hcz20_7 := Ygc HGz20; have hcz20_8 := Ycc HGz20; have hfz20_0 := Ye HGz20 0; have hfz20_1 := Ye HGz20 1; have hfz20_2 := Ye HGz20 2; have hfz20_3 := Ye HGz20 3; have hfz20_4 := Ye HGz20 4; have hfz20_5 := Ye HGz20 5; have hfz20_6 := Ye HGz20 6; have hfz20_7 := Ye HGz20 7; have hfz20_8 := Ye HGz20 8; clear HGz20 hgz20) | ((with_reducible refine Yh (f := 81) rfl ?_); refine Yz (some 23) rfl rfl Tryz.func81 Zi rfl #[.string s0_0, .string (⟨#[47, 92]⟩ : ByteArray)] rfl Zb ?_; (with_reducible refine (Ymc.calls s0_0 (⟨#[47, 92]⟩ : ByteArray) t282 _ ?side1 A4.out).mono ?_); (case side1 => first | exact HE.out | exact EnvOk.below HE.out Ze); rintro e w21 ⟨rfl, hb⟩; refine ⟨_, rfl, ?_⟩; have n0_ := Ya.mk (IsS53.below Zd hb); have n1_ := Ya.mk (KeepBut.trans Zg (KeepBut.of_below hb g none) (.inl rfl)); have n2_ := Ya.mk (Yq Ze hb); clear HI0; clear HK; clear HB; have HI0 := n0_; have HK := n1_; have HB := n2_; clear n0_ n1_ n2_; (try clear hb); (try clear hb2); (try clear hk); (try clear hi); obtain ⟨HGz22, hgz22⟩ := HI0.out; have hcz22_0 := Yzb HGz22; have hcz22_1 := Ykc HGz22; have hcz22_2 := Yjc HGz22; have hcz22_3 := Yic HGz22; have hcz22_4 := Yfc HGz22; have hcz22_5 := Yec HGz22; have hcz22_6 := Yyb HGz22; have hcz22_7 := Ygc HGz22; have hcz22_8 := Ycc HGz22; have hfz22_0 := Ye HGz22 0; have hfz22_1 := Ye HGz22 1; have hfz22_2 := Ye HGz22 2; have hfz22_3 := Ye HGz22 3; have hfz22_4 := Ye HGz22 4; have hfz22_5 := Ye HGz22 5; have hfz22_6 := Ye HGz22 6; have hfz22_7 := Ye HGz22 7; have hfz22_8 := Ye HGz22 8; clear HGz22 hgz22) | ((with_reducible refine Yh (f := 82) rfl ?_); refine Yz (some 30) rfl rfl Tryz.func82 Zi rfl #[.pointer (some ⟨g, 0, none⟩), .string (⟨#[47, 92, 63, 35]⟩ : ByteArray)] rfl Zb ?_; (with_reducible refine (Ybc.calls g t282 s0_1 s0_2 s0_3 s0_4 s0_5 s0_6 s0_7 s0_8 (⟨#[47, 92, 63, 35]⟩ : ByteArray) t283 t284 t285 t286 t287 t288 t289 t290 t291 t292 w0 _ ?side1 ?side2 ?side3 A5.out).mono ?_); (case side1 => exact HE.out); (case side2 => repeat (first | (with_reducible first | exact HI0.out | apply IsS53.alloc | apply IsS53.drewN | apply IsS53.drew | apply IsS53.set_0 | apply IsS53.set_1 | apply IsS53.set_2 | apply IsS53.set_3 | apply IsS53.set_4 | apply IsS53.set_5 | apply IsS53.set_6 | apply IsS53.set_7 | apply IsS53.set_8) | exact HI0.out)); (case side3 => repeat (first | (with_reducible first | exact HB.out | apply Yd | apply Yb | apply Yc | refine Yg ?_ (IsS53.ge HI0.out)) | exact HB.out)); rintro e w23 ⟨rfl, hi, hb, hk⟩; refine ⟨_, rfl, ?_⟩; have n0_ := Ya.mk (KeepBut.trans Zg hk (.inl rfl)); have n1_ := Ya.mk (hb); have n2_ := Ya.mk (hi); clear HK; clear HB; clear HI0; have HK := n0_; have HB := n1_; have HI0 := n2_; clear n0_ n1_ n2_; (try clear hb); (try clear hb2); (try clear hk); (try clear hi)) | ((with_reducible refine Yh (f := 79) rfl ?_); refine Yz (some 32) rfl rfl Tryz.func79 Zi rfl #[.string t283, .int .u8 64] rfl Zb ?_; (with_reducible refine (strings_IndexByte.calls t283 64 t293 _ ?side1 A6.out).mono ?_); (case side1 => first | exact HE.out | exact EnvOk.below HE.out Ze); rintro e w' ⟨rfl, ⟨nd, rfl⟩⟩; refine ⟨_, rfl, ?_⟩; (try (rw [Ydg w23]; generalize hq_ : World.drewN w23 _ = w23; have n0_ : Ya (IsS53 w0 w23 g t284 t285 t286 t287 t288 t289 t290 t291 t292) := ⟨Zn⟩; have n1_ : Ya (KeepBut w w23 g none) := ⟨Zt⟩; have n2_ : Ya (Below w0.heap.size w0 w23) := ⟨Zu⟩; clear HI0 HK HB hq_; have HI0 := n0_; have HK := n1_; have HB := n2_; clear n0_ n1_ n2_))) | ((with_reducible refine Yh (f := 76) rfl ?_); refine Yz (some 36) rfl rfl Tryz.func76 Zi rfl #[.string t283, .string (⟨#[58]⟩ : ByteArray)] rfl Zb ?_; (with_reducible refine (strings_Cut.calls t283 (⟨#[58]⟩ : ByteArray) t294 t295 t296 _ ?side1 A14.out).mono ?_); (case side1 => first | exact HE.out | exact EnvOk.below HE.out Ze); rintro e w' ⟨rfl, ⟨nd, rfl⟩⟩; refine ⟨_, rfl, ?_⟩; (try (rw [Ydg w23]; generalize hq_ : World.drewN w23 _ = w23; have n0_ : Ya (IsS53 w0 w23 g t284 t285 t286 t287 t288 t289 t290 t291 t292) := ⟨Zn⟩; have n1_ : Ya (KeepBut w w23 g none) := ⟨Zt⟩; have n2_ : Ya (Below w0.heap.size w0 w23) := ⟨Zu⟩; clear HI0 HK HB hq_; have HI0 := n0_; have HK := n1_; have HB := n2_; clear n0_ n1_ n2_))) | ((with_reducible refine Yh (f := 19) rfl ?_); refine Yz (some 42) rfl rfl Tryz.func19 Zi rfl #[.string t294] rfl Zb ?_; (with_reducible refine (Yse.calls k t294 t297 t298 _ ?side1 A15.out).mono ?_); (case side1 => first | exact HE.out | exact EnvOk.below HE.out Ze); rintro e w24 ⟨rfl, hb⟩; refine ⟨_, rfl, ?_⟩; have n0_ := Ya.mk (IsS53.below Zd hb); have n1_ := Ya.mk (KeepBut.trans Zg (KeepBut.of_below hb g none) (.inl rfl)); have n2_ := Ya.mk (Yq Ze hb); clear HI0; clear HK; clear HB; have HI0 := n0_; have HK := n1_; have HB := n2_; clear n0_ n1_ n2_; (try clear hb); (try clear hb2); (try clear hk); (try clear hi); obtain ⟨HGz25, hgz25⟩ := HI0.out; have hcz25_0 := Yzb HGz25; have hcz25_1 := Ykc HGz25; have hcz25_2 := Yjc HGz25; have hcz25_3 := Yic HGz25; have hcz25_4 := Yfc HGz25; have hcz25_5 := Yec HGz25; have hcz25_6 := Yyb HGz25; have hcz25_7 := Ygc HGz25; have hcz25_8 := Ycc HGz25; have hfz25_0 := Ye HGz25 0; have hfz25_1 := Ye HGz25 1; have hfz25_2 := Ye HGz25 2; have hfz25_3 := Ye HGz25 3; have hfz25_4 := Ye HGz25 4; have hfz25_5 := Ye HGz25 5; have hfz25_6 := Ye HGz25 6; have hfz25_7 := Ye HGz25 7; have hfz25_8 := Ye HGz25 8; clear HGz25 hgz25))
  go_ret
  exact ⟨Zk, Zd, Ze, Zg⟩
 rw [if_neg c17] at H
 have c17b0 : (t295.toList == ([] : List UInt8)) = false := beq_eq_false_iff_ne.mpr c17
 have c17b1 : (t295.toList != ([] : List UInt8)) = true := bne_iff_ne.mpr c17
 replace H := Option.bind_eq_some_iff.mp H
 obtain ⟨⟨t299, t300⟩, A260, H⟩ := H
 try dsimp -simprocs only at H
 have A26 := Ya.mk A260
 clear A260
 by_cases c27 : t300 = 0
 rotate_left
 ·rw [if_neg c27] at H
  have c27b0 : (t300 == 0) = false := beq_eq_false_iff_ne.mpr c27
  have c27b1 : (t300 != 0) = true := bne_iff_ne.mpr c27
  simp only [Option.some.injEq, Prod.mk.injEq] at H
  obtain ⟨rfl, rfl, rfl, rfl, rfl, rfl, rfl, rfl, rfl, rfl⟩ := H
  obtain ⟨HGz46, hgz46⟩ := HI0.out
  have hcz46_0 := Yzb HGz46
  have hcz46_1 := Ykc HGz46
  have hcz46_2 := Yjc HGz46
  have hcz46_3 := Yic HGz46
  have hcz46_4 := Yfc HGz46
  have hcz46_5 := Yec HGz46
  have hcz46_6 := Yyb HGz46
  have hcz46_7 := Ygc HGz46
  have hcz46_8 := Ycc HGz46
  have hfz46_0 := Ye HGz46 0
  have hfz46_1 := Ye HGz46 1
  have hfz46_2 := Ye HGz46 2
  have hfz46_3 := Ye HGz46 3
  have hfz46_4 := Ye HGz46 4
  have hfz46_5 := Ye HGz46 5
  have hfz46_6 := Ye HGz46 6
  have hfz46_7 := Ye HGz46 7
  have hfz46_8 := Ye HGz46 8
  clear HGz46 hgz46
  go_enter Tryz.func44, Tryz.ntmps44
  go_wp2_with (first | ((with_reducible refine Yh (f := 80) rfl ?_); refine Yz (some 15) rfl rfl Tryz.func80 Zi rfl #[.string s0_0, .string (⟨#[47, 92]⟩ : ByteArray)] rfl Zb ?_; (with_reducible refine (strings_IndexAny.calls s0_0 (⟨#[47, 92]⟩ : ByteArray) t281 _ ?side1 A2.out).mono ?_); (case side1 => first | exact HE.out | exact EnvOk.below HE.out Ze); rintro e w47 ⟨rfl, hb⟩; refine ⟨_, rfl, ?_⟩; have n0_ := Ya.mk (IsS53.below Zd hb); have n1_ := Ya.mk (KeepBut.trans Zg (KeepBut.of_below hb g none) (.inl rfl)); have n2_ := Ya.mk (Yq Ze hb); clear HI0; clear HK; clear HB; have HI0 := n0_; have HK := n1_; have HB := n2_; clear n0_ n1_ n2_; (try clear hb); (try clear hb2); (try clear hk); (try clear hi); obtain ⟨HGz48, hgz48⟩ := HI0.out; have hcz48_0 := Yzb HGz48; have hcz48_1 := Ykc HGz48; have hcz48_2 := Yjc HGz48; have hcz48_3 := Yic HGz48; have hcz48_4 := Yfc HGz48; have hcz48_5 := Yec HGz48; have hcz48_6 := Yyb HGz48; have hcz48_7 := Ygc HGz48; have hcz48_8 := Ycc HGz48; have hfz48_0 := Ye HGz48 0; have hfz48_1 := Ye HGz48 1; have hfz48_2 := Ye HGz48 2; have hfz48_3 := Ye HGz48 3; have hfz48_4 := Ye HGz48 4; have hfz48_5 := Ye HGz48 5; have hfz48_6 := Ye HGz48 6; have hfz48_7 := Ye HGz48 7; have hfz48_8 := Ye HGz48 8; clear HGz48 hgz48) | ((with_reducible refine Yh (f := 81) rfl ?_); refine Yz (some 23) rfl rfl Tryz.func81 Zi rfl #[.string s0_0, .string (⟨#[47, 92]⟩ : ByteArray)] rfl Zb ?_; (with_reducible refine (Ymc.calls s0_0 (⟨#[47, 92]⟩ : ByteArray) t282 _ ?side1 A4.out).mono ?_); (case side1 => first | exact HE.out | exact EnvOk.below HE.out Ze); rintro e w49 ⟨rfl, hb⟩; refine ⟨_, rfl, ?_⟩; have n0_ := Ya.mk (IsS53.below Zd hb); have n1_ := Ya.mk (KeepBut.trans Zg (KeepBut.of_below hb g none) (.inl rfl)); have n2_ := Ya.mk (Yq Ze hb); clear HI0; clear HK; clear HB; have HI0 := n0_; have HK := n1_; have HB := n2_; clear n0_ n1_ n2_; (try clear hb); (try clear hb2); (try clear hk); (try clear hi); obtain ⟨HGz50, hgz50⟩ := HI0.out; have hcz50_0 := Yzb HGz50; have hcz50_1 := Ykc HGz50; have hcz50_2 := Yjc HGz50; have hcz50_3 := Yic HGz50; have hcz50_4 := Yfc HGz50; have hcz50_5 := Yec HGz50; have hcz50_6 := Yyb HGz50; have hcz50_7 := Ygc HGz50; have hcz50_8 := Ycc HGz50; have hfz50_0 := Ye HGz50 0; have hfz50_1 := Ye HGz50 1; have hfz50_2 := Ye HGz50 2; have hfz50_3 := Ye HGz50 3; have hfz50_4 := Ye HGz50 4; have hfz50_5 := Ye HGz50 5; have hfz50_6 := Ye HGz50 6; have hfz50_7 := Ye HGz50 7; have hfz50_8 := Ye HGz50 8; clear HGz50 hgz50) | ((with_reducible refine Yh (f := 82) rfl ?_); refine Yz (some 30) rfl rfl Tryz.func82 Zi rfl #[.pointer (some ⟨g, 0, none⟩), .string (⟨#[47, 92, 63, 35]⟩ : ByteArray)] rfl Zb ?_; (with_reducible refine (Ybc.calls g t282 s0_1 s0_2 s0_3 s0_4 s0_5 s0_6 s0_7 s0_8 (⟨#[47, 92, 63, 35]⟩ : ByteArray) t283 t284 t285 t286 t287 t288 t289 t290 t291 t292 w0 _ ?side1 ?side2 ?side3 A5.out).mono ?_); (case side1 => exact HE.out); (case side2 => repeat (first | (with_reducible first | exact HI0.out | apply IsS53.alloc | apply IsS53.drewN | apply IsS53.drew | apply IsS53.set_0 | apply IsS53.set_1 | apply IsS53.set_2 | apply IsS53.set_3 | apply IsS53.set_4 | apply IsS53.set_5 | apply IsS53.set_6 | apply IsS53.set_7 | apply IsS53.set_8) | exact HI0.out)); (case side3 => repeat (first | (with_reducible first | exact HB.out | apply Yd | apply Yb | apply Yc | refine Yg ?_ (IsS53.ge HI0.out)) | exact HB.out)); rintro e w51 ⟨rfl, hi, hb, hk⟩; refine ⟨_, rfl, ?_⟩; have n0_ := Ya.mk (KeepBut.trans Zg hk (.inl rfl)); have n1_ := Ya.mk (hb); have n2_ := Ya.mk (hi); clear HK; clear HB; clear HI0; have HK := n0_; have HB := n1_; have HI0 := n2_; clear n0_ n1_ n2_; (try clear hb); (try clear hb2); (try clear hk); (try clear hi)) | ((with_reducible refine Yh (f := 79) rfl ?_); refine Yz (some 32) rfl rfl Tryz.func79 Zi rfl #[.string t283, .int .u8 64] rfl Zb ?_; (with_reducible refine (strings_IndexByte.calls t283 64 t293 _ ?side1 A6.out).mono ?_); (case side1 => first | exact HE.out | exact EnvOk.below HE.out Ze); rintro e w' ⟨rfl, ⟨nd, rfl⟩⟩; refine ⟨_, rfl, ?_⟩; (try (rw [Ydg w51]; generalize hq_ : World.drewN w51 _ = w51; have n0_ : Ya (IsS53 w0 w51 g t284 t285 t286 t287 t288 t289 t290 t291 t292) := ⟨Zn⟩; have n1_ : Ya (KeepBut w w51 g none) := ⟨Zt⟩; have n2_ : Ya (Below w0.heap.size w0 w51) := ⟨Zu⟩; clear HI0 HK HB hq_; have HI0 := n0_; have HK := n1_; have HB := n2_; clear n0_ n1_ n2_))) | ((with_reducible refine Yh (f := 76) rfl ?_); refine Yz (some 36) rfl rfl Tryz.func76 Zi rfl #[.string t283, .string (⟨#[58]⟩ : ByteArray)] rfl Zb ?_; (with_reducible refine (strings_Cut.calls t283 (⟨#[58]⟩ : ByteArray) t294 t295 t296 _ ?side1 A14.out).mono ?_); (case side1 => first | exact HE.out | exact EnvOk.below HE.out Ze); rintro e w' ⟨rfl, ⟨nd, rfl⟩⟩; refine ⟨_, rfl, ?_⟩; (try (rw [Ydg w51]; generalize hq_ : World.drewN w51 _ = w51; have n0_ : Ya (IsS53 w0 w51 g t284 t285 t286 t287 t288 t289 t290 t291 t292) := ⟨Zn⟩; have n1_ : Ya (KeepBut w w51 g none) := ⟨Zt⟩; have n2_ : Ya (Below w0.heap.size w0 w51) := ⟨Zu⟩; clear HI0 HK HB hq_; have HI0 := n0_; have HK := n1_; have HB := n2_; clear n0_ n1_ n2_))) | ((with_reducible refine Yh (f := 19) rfl ?_); refine Yz (some 42) rfl rfl Tryz.func19 Zi rfl #[.string t294] rfl Zb ?_; (with_reducible refine (Yse.calls k t294 t297 t298 _ ?side1 A15.out).mono ?_); (case side1 => first | exact HE.out | exact EnvOk.below HE.out Ze); rintro e w52 ⟨rfl, hb⟩; refine ⟨_, rfl, ?_⟩; have n0_ := Ya.mk (IsS53.below Zd hb); have n1_ := Ya.mk (KeepBut.trans Zg (KeepBut.of_below hb g none) (.inl rfl)); have n2_ := Ya.mk (Yq Ze hb); clear HI0; clear HK; clear HB; have HI0 := n0_; have HK := n1_; have HB := n2_; clear n0_ n1_ n2_; (try clear hb); (try clear hb2); (try clear hk); (try clear hi); obtain ⟨HGz53, hgz53⟩ := HI0.out; have hcz53_0 := Yzb HGz53; have hcz53_1 := Ykc HGz53; have hcz53_2 := Yjc HGz53; have hcz53_3 := Yic HGz53; have hcz53_4 := Yfc HGz53; have hcz53_5 := Yec HGz53; have hcz53_6 := Yyb HGz53; have hcz53_7 := Ygc HGz53; have hcz53_8 := Ycc HGz53; have hfz53_0 := Ye HGz53 0; have hfz53_1 := Ye HGz53 1; have hfz53_2 := Ye HGz53 2; have hfz53_3 := Ye HGz53 3; have hfz53_4 := Ye HGz53 4; have hfz53_5 := Ye HGz53 5; have hfz53_6 := Ye HGz53 6; have hfz53_7 := Ye HGz53 7; have hfz53_8 := Ye HGz53 8; clear HGz53 hgz53) | ((with_reducible refine Yh (f := 83) rfl ?_); refine Yz (some 57) rfl rfl Tryz.func83 Zi rfl #[.string t295, .int .i64 65535] rfl Zb ?_; (with_reducible refine (Yha.calls k t295 65535 t299 t300 _ ?side1 A26.out).mono ?_); (case side1 => first | exact HE.out | exact EnvOk.below HE.out Ze); rintro e w' ⟨rfl, ⟨nd, rfl⟩⟩; refine ⟨_, rfl, ?_⟩))
  go_ret
  exact ⟨Zk, Zd, Ze, Zg⟩
 rw [if_pos c27] at H
 have c27b0 : (t300 == 0) = true := beq_iff_eq.mpr c27
 have c27b1 : (t300 != 0) = false := bne_eq_false_iff_eq.mpr c27
 clear c27
 replace H := Option.bind_eq_some_iff.mp H
 obtain ⟨t301, A280, H⟩ := H
 try dsimp -simprocs only at H
 have A28 := Ya.mk A280
 clear A280
 by_cases c29 : t299 = t301
 rotate_left
 ·rw [if_neg c29] at H
  have c29b0 : (t299 == t301) = false := beq_eq_false_iff_ne.mpr c29
  have c29b1 : (t299 != t301) = true := bne_iff_ne.mpr c29
  simp only [Option.some.injEq, Prod.mk.injEq] at H
  obtain ⟨rfl, rfl, rfl, rfl, rfl, rfl, rfl, rfl, rfl, rfl⟩ := H
  obtain ⟨HGz38, hgz38⟩ := HI0.out
  have hcz38_0 := Yzb HGz38
  have hcz38_1 := Ykc HGz38
  have hcz38_2 := Yjc HGz38
  have hcz38_3 := Yic HGz38
  have hcz38_4 := Yfc HGz38
  have hcz38_5 := Yec HGz38
  have hcz38_6 := Yyb HGz38
  have hcz38_7 := Ygc HGz38
  have hcz38_8 := Ycc HGz38
  have hfz38_0 := Ye HGz38 0
  have hfz38_1 := Ye HGz38 1
  have hfz38_2 := Ye HGz38 2
  have hfz38_3 := Ye HGz38 3
  have hfz38_4 := Ye HGz38 4
  have hfz38_5 := Ye HGz38 5
  have hfz38_6 := Ye HGz38 6
  have hfz38_7 := Ye HGz38 7
  have hfz38_8 := Ye HGz38 8
  clear HGz38 hgz38
  go_enter Tryz.func44, Tryz.ntmps44
  go_wp2_with (first | ((with_reducible refine Yh (f := 80) rfl ?_); refine Yz (some 15) rfl rfl Tryz.func80 Zi rfl #[.string s0_0, .string (⟨#[47, 92]⟩ : ByteArray)] rfl Zb ?_; (with_reducible refine (strings_IndexAny.calls s0_0 (⟨#[47, 92]⟩ : ByteArray) t281 _ ?side1 A2.out).mono ?_); (case side1 => first | exact HE.out | exact EnvOk.below HE.out Ze); rintro e w39 ⟨rfl, hb⟩; refine ⟨_, rfl, ?_⟩; have n0_ := Ya.mk (IsS53.below Zd hb); have n1_ := Ya.mk (KeepBut.trans Zg (KeepBut.of_below hb g none) (.inl rfl)); have n2_ := Ya.mk (Yq Ze hb); clear HI0; clear HK; clear HB; have HI0 := n0_; have HK := n1_; have HB := n2_; clear n0_ n1_ n2_; (try clear hb); (try clear hb2); (try clear hk); (try clear hi); obtain ⟨HGz40, hgz40⟩ := HI0.out; have hcz40_0 := Yzb HGz40; have hcz40_1 := Ykc HGz40; have hcz40_2 := Yjc HGz40; have hcz40_3 := Yic HGz40; have hcz40_4 := Yfc HGz40; have hcz40_5 := Yec HGz40; have hcz40_6 := Yyb HGz40; have hcz40_7 := Ygc HGz40; have hcz40_8 := Ycc HGz40; have hfz40_0 := Ye HGz40 0; have hfz40_1 := Ye HGz40 1; have hfz40_2 := Ye HGz40 2; have hfz40_3 := Ye HGz40 3; have hfz40_4 := Ye HGz40 4; have hfz40_5 := Ye HGz40 5; have hfz40_6 := Ye HGz40 6; have hfz40_7 := Ye HGz40 7; have hfz40_8 := Ye HGz40 8; clear HGz40 hgz40) | ((with_reducible refine Yh (f := 81) rfl ?_); refine Yz (some 23) rfl rfl Tryz.func81 Zi rfl #[.string s0_0, .string (⟨#[47, 92]⟩ : ByteArray)] rfl Zb ?_; (with_reducible refine (Ymc.calls s0_0 (⟨#[47, 92]⟩ : ByteArray) t282 _ ?side1 A4.out).mono ?_); (case side1 => first | exact HE.out | exact EnvOk.below HE.out Ze); rintro e w41 ⟨rfl, hb⟩; refine ⟨_, rfl, ?_⟩; have n0_ := Ya.mk (IsS53.below Zd hb); have n1_ := Ya.mk (KeepBut.trans Zg (KeepBut.of_below hb g none) (.inl rfl)); have n2_ := Ya.mk (Yq Ze hb); clear HI0; clear HK; clear HB; have HI0 := n0_; have HK := n1_; have HB := n2_; clear n0_ n1_ n2_; (try clear hb); (try clear hb2); (try clear hk); (try clear hi); obtain ⟨HGz42, hgz42⟩ := HI0.out; have hcz42_0 := Yzb HGz42; have hcz42_1 := Ykc HGz42; have hcz42_2 := Yjc HGz42; have hcz42_3 := Yic HGz42; have hcz42_4 := Yfc HGz42; have hcz42_5 := Yec HGz42; have hcz42_6 := Yyb HGz42; have hcz42_7 := Ygc HGz42; have hcz42_8 := Ycc HGz42; have hfz42_0 := Ye HGz42 0; have hfz42_1 := Ye HGz42 1; have hfz42_2 := Ye HGz42 2; have hfz42_3 := Ye HGz42 3; have hfz42_4 := Ye HGz42 4; have hfz42_5 := Ye HGz42 5; have hfz42_6 := Ye HGz42 6; have hfz42_7 := Ye HGz42 7; have hfz42_8 := Ye HGz42 8; clear HGz42 hgz42) | ((with_reducible refine Yh (f := 82) rfl ?_); refine Yz (some 30) rfl rfl Tryz.func82 Zi rfl #[.pointer (some ⟨g, 0, none⟩), .string (⟨#[47, 92, 63, 35]⟩ : ByteArray)] rfl Zb ?_; (with_reducible refine (Ybc.calls g t282 s0_1 s0_2 s0_3 s0_4 s0_5 s0_6 s0_7 s0_8 (⟨#[47, 92, 63, 35]⟩ : ByteArray) t283 t284 t285 t286 t287 t288 t289 t290 t291 t292 w0 _ ?side1 ?side2 ?side3 A5.out).mono ?_); (case side1 => exact HE.out); (case side2 => repeat (first | (with_reducible first | exact HI0.out | apply IsS53.alloc | apply IsS53.drewN | apply IsS53.drew | apply IsS53.set_0 | apply IsS53.set_1 | apply IsS53.set_2 | apply IsS53.set_3 | apply IsS53.set_4 | apply IsS53.set_5 | apply IsS53.set_6 | apply IsS53.set_7 | apply IsS53.set_8) | exact HI0.out)); (case side3 => repeat (first | (with_reducible first | exact HB.out | apply Yd | apply Yb | apply Yc | refine Yg ?_ (IsS53.ge HI0.out)) | exact HB.out)); rintro e w43 ⟨rfl, hi, hb, hk⟩; refine ⟨_, rfl, ?_⟩; have n0_ := Ya.mk (KeepBut.trans Zg hk (.inl rfl)); have n1_ := Ya.mk (hb); have n2_ := Ya.mk (hi); clear HK; clear HB; clear HI0; have HK := n0_; have HB := n1_; have HI0 := n2_; clear n0_ n1_ n2_; (try clear hb); (try clear hb2); (try clear hk); (try clear hi)) | ((with_reducible refine Yh (f := 79) rfl ?_); refine Yz (some 32) rfl rfl Tryz.func79 Zi rfl #[.string t283, .int .u8 64] rfl Zb ?_; (with_reducible refine (strings_IndexByte.calls t283 64 t293 _ ?side1 A6.out).mono ?_); (case side1 => first | exact HE.out | exact EnvOk.below HE.out Ze); rintro e w' ⟨rfl, ⟨nd, rfl⟩⟩; refine ⟨_, rfl, ?_⟩; (try (rw [Ydg w43]; generalize hq_ : World.drewN w43 _ = w43; have n0_ : Ya (IsS53 w0 w43 g t284 t285 t286 t287 t288 t289 t290 t291 t292) := ⟨Zn⟩; have n1_ : Ya (KeepBut w w43 g none) := ⟨Zt⟩; have n2_ : Ya (Below w0.heap.size w0 w43) := ⟨Zu⟩; clear HI0 HK HB hq_; have HI0 := n0_; have HK := n1_; have HB := n2_; clear n0_ n1_ n2_))) | ((with_reducible refine Yh (f := 76) rfl ?_); refine Yz (some 36) rfl rfl Tryz.func76 Zi rfl #[.string t283, .string (⟨#[58]⟩ : ByteArray)] rfl Zb ?_; (with_reducible refine (strings_Cut.calls t283 (⟨#[58]⟩ : ByteArray) t294 t295 t296 _ ?side1 A14.out).mono ?_); (case side1 => first | exact HE.out | exact EnvOk.below HE.out Ze); rintro e w' ⟨rfl, ⟨nd, rfl⟩⟩; refine ⟨_, rfl, ?_⟩; (try (rw [Ydg w43]; generalize hq_ : World.drewN w43 _ = w43; have n0_ : Ya (IsS53 w0 w43 g t284 t285 t286 t287 t288 t289 t290 t291 t292) := ⟨Zn⟩; have n1_ : Ya (KeepBut w w43 g none) := ⟨Zt⟩; have n2_ : Ya (Below w0.heap.size w0 w43) := ⟨Zu⟩; clear HI0 HK HB hq_; have HI0 := n0_; have HK := n1_; have HB := n2_; clear n0_ n1_ n2_))) | ((with_reducible refine Yh (f := 19) rfl ?_); refine Yz (some 42) rfl rfl Tryz.func19 Zi rfl #[.string t294] rfl Zb ?_; (with_reducible refine (Yse.calls k t294 t297 t298 _ ?side1 A15.out).mono ?_); (case side1 => first | exact HE.out | exact EnvOk.below HE.out Ze); rintro e w44 ⟨rfl, hb⟩; refine ⟨_, rfl, ?_⟩; have n0_ := Ya.mk (IsS53.below Zd hb); have n1_ := Ya.mk (KeepBut.trans Zg (KeepBut.of_below hb g none) (.inl rfl)); have n2_ := Ya.mk (Yq Ze hb); clear HI0; clear HK; clear HB; have HI0 := n0_; have HK := n1_; have HB := n2_; clear n0_ n1_ n2_; (try clear hb); (try clear hb2); (try clear hk); (try clear hi); obtain ⟨HGz45, hgz45⟩ := HI0.out; have hcz45_0 := Yzb HGz45; have hcz45_1 := Ykc HGz45; have hcz45_2 := Yjc HGz45; have hcz45_3 := Yic HGz45; have hcz45_4 := Yfc HGz45; have hcz45_5 := Yec HGz45; have hcz45_6 := Yyb HGz45; have hcz45_7 := Ygc HGz45; have hcz45_8 := Ycc HGz45; have hfz45_0 := Ye HGz45 0; have hfz45_1 := Ye HGz45 1; have hfz45_2 := Ye HGz45 2; have hfz45_3 := Ye HGz45 3; have hfz45_4 := Ye HGz45 4; have hfz45_5 := Ye HGz45 5; have hfz45_6 := Ye HGz45 6; have hfz45_7 := Ye HGz45 7; have hfz45_8 := Ye HGz45 8; clear HGz45 hgz45) | ((with_reducible refine Yh (f := 83) rfl ?_); refine Yz (some 57) rfl rfl Tryz.func83 Zi rfl #[.string t295, .int .i64 65535] rfl Zb ?_; (with_reducible refine (Yha.calls k t295 65535 t299 t300 _ ?side1 A26.out).mono ?_); (case side1 => first | exact HE.out | exact EnvOk.below HE.out Ze); rintro e w' ⟨rfl, ⟨nd, rfl⟩⟩; refine ⟨_, rfl, ?_⟩) | ((with_reducible refine Yh (f := 84) rfl ?_); refine Yz (some 68) rfl rfl Tryz.func84 Zi rfl #[.string t285] rfl Zb ?_; (with_reducible refine (Yag.calls t285 t301 _ ?side1 A28.out).mono ?_); (case side1 => first | exact HE.out | exact EnvOk.below HE.out Ze); rintro e w' ⟨rfl, ⟨nd, rfl⟩⟩; refine ⟨_, rfl, ?_⟩))
  go_ret
  exact ⟨Zk, Zd, Ze, Zg⟩
 rw [if_pos c29] at H
 have c29b0 : (t299 == t301) = true := beq_iff_eq.mpr c29
 have c29b1 : (t299 != t301) = false := bne_eq_false_iff_eq.mpr c29
 clear c29
 simp only [Option.some.injEq, Prod.mk.injEq] at H
 obtain ⟨rfl, rfl, rfl, rfl, rfl, rfl, rfl, rfl, rfl, rfl⟩ := H
 obtain ⟨HGz30, hgz30⟩ := HI0.out
 have hcz30_0 := Yzb HGz30
 have hcz30_1 := Ykc HGz30
 have hcz30_2 := Yjc HGz30
 have hcz30_3 := Yic HGz30
 have hcz30_4 := Yfc HGz30
 have hcz30_5 := Yec HGz30
 have hcz30_6 := Yyb HGz30
 have hcz30_7 := Ygc HGz30
 have hcz30_8 := Ycc HGz30
 have hfz30_0 := Ye HGz30 0
 have hfz30_1 := Ye HGz30 1
 have hfz30_2 := Ye HGz30 2
 have hfz30_3 := Ye HGz30 3
 have hfz30_4 := Ye HGz30 4
 have hfz30_5 := Ye HGz30 5
 have hfz30_6 := Ye HGz30 6
 have hfz30_7 := Ye HGz30 7
 have hfz30_8 := Ye HGz30 8
 clear HGz30 hgz30
 go_enter Tryz.func44, Tryz.ntmps44
 go_wp2_with (first | ((with_reducible refine Yh (f := 80) rfl ?_); refine Yz (some 15) rfl rfl Tryz.func80 Zi rfl #[.string s0_0, .string (⟨#[47, 92]⟩ : ByteArray)] rfl Zb ?_; (with_reducible refine (strings_IndexAny.calls s0_0 (⟨#[47, 92]⟩ : ByteArray) t281 _ ?side1 A2.out).mono ?_); (case side1 => first | exact HE.out | exact EnvOk.below HE.out Ze); rintro e w31 ⟨rfl, hb⟩; refine ⟨_, rfl, ?_⟩; have n0_ := Ya.mk (IsS53.below Zd hb); have n1_ := Ya.mk (KeepBut.trans Zg (KeepBut.of_below hb g none) (.inl rfl)); have n2_ := Ya.mk (Yq Ze hb); clear HI0; clear HK; clear HB; have HI0 := n0_; have HK := n1_; have HB := n2_; clear n0_ n1_ n2_; (try clear hb); (try clear hb2); (try clear hk); (try clear hi); obtain ⟨HGz32, hgz32⟩ := HI0.out; have hcz32_0 := Yzb HGz32; have hcz32_1 := Ykc HGz32; have hcz32_2 := Yjc HGz32; have hcz32_3 := Yic HGz32; have hcz32_4 := Yfc HGz32; have hcz32_5 := Yec HGz32; have hcz32_6 := Yyb HGz32; have hcz32_7 := Ygc HGz32; have hcz32_8 := Ycc HGz32; have hfz32_0 := Ye HGz32 0; have hfz32_1 := Ye HGz32 1; have hfz32_2 := Ye HGz32 2; have hfz32_3 := Ye HGz32 3; have hfz32_4 := Ye HGz32 4; have hfz32_5 := Ye HGz32 5; have hfz32_6 := Ye HGz32 6; have hfz32_7 := Ye HGz32 7; have hfz32_8 := Ye HGz32 8; clear HGz32 hgz32) | ((with_reducible refine Yh (f := 81) rfl ?_); refine Yz (some 23) rfl rfl Tryz.func81 Zi rfl #[.string s0_0, .string (⟨#[47, 92]⟩ : ByteArray)] rfl Zb ?_; (with_reducible refine (Ymc.calls s0_0 (⟨#[47, 92]⟩ : ByteArray) t282 _ ?side1 A4.out).mono ?_); (case side1 => first | exact HE.out | exact EnvOk.below HE.out Ze); rintro e w33 ⟨rfl, hb⟩; refine ⟨_, rfl, ?_⟩; have n0_ := Ya.mk (IsS53.below Zd hb); have n1_ := Ya.mk (KeepBut.trans Zg (KeepBut.of_below hb g none) (.inl rfl)); have n2_ := Ya.mk (Yq Ze hb); clear HI0; clear HK; clear HB; have HI0 := n0_; have HK := n1_; have HB := n2_; clear n0_ n1_ n2_; (try clear hb); (try clear hb2); (try clear hk); (try clear hi); obtain ⟨HGz34, hgz34⟩ := HI0.out; have hcz34_0 := Yzb HGz34; have hcz34_1 := Ykc HGz34; have hcz34_2 := Yjc HGz34; have hcz34_3 := Yic HGz34; have hcz34_4 := Yfc HGz34; have hcz34_5 := Yec HGz34; have hcz34_6 := Yyb HGz34; have hcz34_7 := Ygc HGz34; have hcz34_8 := Ycc HGz34; have hfz34_0 := Ye HGz34 0; have hfz34_1 := Ye HGz34 1; have hfz34_2 := Ye HGz34 2; have hfz34_3 := Ye HGz34 3; have hfz34_4 := Ye HGz34 4; have hfz34_5 := Ye HGz34 5; have hfz34_6 := Ye HGz34 6; have hfz34_7 := Ye HGz34 7; have hfz34_8 := Ye HGz34 8; clear HGz34 hgz34) | ((with_reducible refine Yh (f := 82) rfl ?_); refine Yz (some 30) rfl rfl Tryz.func82 Zi rfl #[.pointer (some ⟨g, 0, none⟩), .string (⟨#[47, 92, 63, 35]⟩ : ByteArray)] rfl Zb ?_; (with_reducible refine (Ybc.calls g t282 s0_1 s0_2 s0_3 s0_4 s0_5 s0_6 s0_7 s0_8 (⟨#[47, 92, 63, 35]⟩ : ByteArray) t283 t284 t285 t286 t287 t288 t289 t290 t291 t292 w0 _ ?side1 ?side2 ?side3 A5.out).mono ?_); (case side1 => exact HE.out); (case side2 => repeat (first | (with_reducible first | exact HI0.out | apply IsS53.alloc | apply IsS53.drewN | apply IsS53.drew | apply IsS53.set_0 | apply IsS53.set_1 | apply IsS53.set_2 | apply IsS53.set_3 | apply IsS53.set_4 | apply IsS53.set_5 | apply IsS53.set_6 | apply IsS53.set_7 | apply IsS53.set_8) | exact HI0.out)); (case side3 => repeat (first | (with_reducible first | exact HB.out | apply Yd | apply Yb | apply Yc | refine Yg ?_ (IsS53.ge HI0.out)) | exact HB.out)); rintro e w35 ⟨rfl, hi, hb, hk⟩; refine ⟨_, rfl, ?_⟩; have n0_ := Ya.mk (KeepBut.trans Zg hk (.inl rfl)); have n1_ := Ya.mk (hb); have n2_ := Ya.mk (hi); clear HK; clear HB; clear HI0; have HK := n0_; have HB := n1_; have HI0 := n2_; clear n0_ n1_ n2_; (try clear hb); (try clear hb2); (try clear hk); (try clear hi)) | ((with_reducible refine Yh (f := 79) rfl ?_); refine Yz (some 32) rfl rfl Tryz.func79 Zi rfl #[.string t283, .int .u8 64] rfl Zb ?_; (with_reducible refine (strings_IndexByte.calls t283 64 t293 _ ?side1 A6.out).mono ?_); (case side1 => first | exact HE.out | exact EnvOk.below HE.out Ze); rintro e w' ⟨rfl, ⟨nd, rfl⟩⟩; refine ⟨_, rfl, ?_⟩; (try (rw [Ydg w35]; generalize hq_ : World.drewN w35 _ = w35; have n0_ : Ya (IsS53 w0 w35 g t284 t285 t286 t287 t288 t289 t290 t291 t292) := ⟨Zn⟩; have n1_ : Ya (KeepBut w w35 g none) := ⟨Zt⟩; have n2_ : Ya (Below w0.heap.size w0 w35) := ⟨Zu⟩; clear HI0 HK HB hq_; have HI0 := n0_; have HK := n1_; have HB := n2_; clear n0_ n1_ n2_))) | ((with_reducible refine Yh (f := 76) rfl ?_); refine Yz (some 36) rfl rfl Tryz.func76 Zi rfl #[.string t283, .string (⟨#[58]⟩ : ByteArray)] rfl Zb ?_; (with_reducible refine (strings_Cut.calls t283 (⟨#[58]⟩ : ByteArray) t294 t295 t296 _ ?side1 A14.out).mono ?_); (case side1 => first | exact HE.out | exact EnvOk.below HE.out Ze); rintro e w' ⟨rfl, ⟨nd, rfl⟩⟩; refine ⟨_, rfl, ?_⟩; (try (rw [Ydg w35]; generalize hq_ : World.drewN w35 _ = w35; have n0_ : Ya (IsS53 w0 w35 g t284 t285 t286 t287 t288 t289 t290 t291 t292) := ⟨Zn⟩; have n1_ : Ya (KeepBut w w35 g none) := ⟨Zt⟩; have n2_ : Ya (Below w0.heap.size w0 w35) := ⟨Zu⟩; clear HI0 HK HB hq_; have HI0 := n0_; have HK := n1_; have HB := n2_; clear n0_ n1_ n2_))) | ((with_reducible refine Yh (f := 19) rfl ?_); refine Yz (some 42) rfl rfl Tryz.func19 Zi rfl #[.string t294] rfl Zb ?_; (with_reducible refine (Yse.calls k t294 t297 t298 _ ?side1 A15.out).mono ?_); (case side1 => first | exact HE.out | exact EnvOk.below HE.out Ze); rintro e w36 ⟨rfl, hb⟩; refine ⟨_, rfl, ?_⟩; have n0_ := Ya.mk (IsS53.below Zd hb); have n1_ := Ya.mk (KeepBut.trans Zg (KeepBut.of_below hb g none) (.inl rfl)); have n2_ := Ya.mk (Yq Ze hb); clear HI0; clear HK; clear HB; have HI0 := n0_; have HK := n1_; have HB := n2_; clear n0_ n1_ n2_; (try clear hb); (try clear hb2); (try clear hk); (try clear hi); obtain ⟨HGz37, hgz37⟩ := HI0.out; have hcz37_0 := Yzb HGz37; have hcz37_1 := Ykc HGz37; have hcz37_2 := Yjc HGz37; have hcz37_3 := Yic HGz37; have hcz37_4 := Yfc HGz37; have hcz37_5 := Yec HGz37; have hcz37_6 := Yyb HGz37; have hcz37_7 := Ygc HGz37; have hcz37_8 := Ycc HGz37; have hfz37_0 := Ye HGz37 0; have hfz37_1 := Ye HGz37 1; have hfz37_2 := Ye HGz37 2; have hfz37_3 := Ye HGz37 3; have hfz37_4 := Ye HGz37 4; have hfz37_5 := Ye HGz37 5; have hfz37_6 := Ye HGz37 6; have hfz37_7 := Ye HGz37 7; have hfz37_8 := Ye HGz37 8; clear HGz37 hgz37) | ((with_reducible refine Yh (f := 83) rfl ?_); refine Yz (some 57) rfl rfl Tryz.func83 Zi rfl #[.string t295, .int .i64 65535] rfl Zb ?_; (with_reducible refine (Yha.calls k t295 65535 t299 t300 _ ?side1 A26.out).mono ?_); (case side1 => first | exact HE.out | exact EnvOk.below HE.out Ze); rintro e w' ⟨rfl, ⟨nd, rfl⟩⟩; refine ⟨_, rfl, ?_⟩) | ((with_reducible refine Yh (f := 84) rfl ?_); refine Yz (some 68) rfl rfl Tryz.func84 Zi rfl #[.string t285] rfl Zb ?_; (with_reducible refine (Yag.calls t285 t301 _ ?side1 A28.out).mono ?_); (case side1 => first | exact HE.out | exact EnvOk.below HE.out Ze); rintro e w' ⟨rfl, ⟨nd, rfl⟩⟩; refine ⟨_, rfl, ?_⟩))
 go_ret
 exact ⟨Zk, Zd, Ze, Zg⟩
def Ybj.f (a0 : ByteArray) : Option (Int) := (Yhb.f a0).bind fun t302 => ((strings_ReplaceAll.f t302 (⟨#[37, 50, 101]⟩ : ByteArray) (⟨#[46]⟩ : ByteArray)).bind fun t303 => (if t303.toList = ([46] : List UInt8) then (some 1) else (if t303.toList = ([46, 46] : List UInt8) then (some 2) else (some 0))))
set_option maxHeartbeats 8000000 in
set_option maxRecDepth 100000 in
theorem Ybj.calls (a0 : ByteArray) (r : Int) (w : World) (hE : EnvOk w) (h : Ybj.f a0 = some r) :
  Calls Tryz.prog 62 #[.string a0] w fun e w' => e = .returned (.int .i64 r) ∧ Below w.heap.size w w' := by
 have HE := Ya.mk hE
 clear hE
 have HB := Ya.mk (Below.refl w.heap.size w)
 have H : ((Yhb.f a0).bind fun t302 => ((strings_ReplaceAll.f t302 (⟨#[37, 50, 101]⟩ : ByteArray) (⟨#[46]⟩ : ByteArray)).bind fun t303 => (if t303.toList = ([46] : List UInt8) then (some 1) else (if t303.toList = ([46, 46] : List UInt8) then (some 2) else (some 0))))) = some r := h
 clear h
 replace H := Option.bind_eq_some_iff.mp H
 obtain ⟨t302, A20, H⟩ := H
 try dsimp -simprocs only at H
 have A2 := Ya.mk A20
 clear A20
 replace H := Option.bind_eq_some_iff.mp H
 obtain ⟨t303, A30, H⟩ := H
 try dsimp -simprocs only at H
 have A3 := Ya.mk A30
 clear A30
 by_cases c4 : t303.toList = ([46] : List UInt8)
 ·rw [if_pos c4] at H
  have c4b0 : (t303.toList == ([46] : List UInt8)) = true := beq_iff_eq.mpr c4
  have c4b1 : (t303.toList != ([46] : List UInt8)) = false := bne_eq_false_iff_eq.mpr c4
  clear c4
  obtain rfl := Option.some.inj H
  go_enter Tryz.func62, Tryz.ntmps62
  go_wp2_with (first | ((with_reducible refine Yh (f := 52) rfl ?_); refine Yz (some 4) rfl rfl Tryz.func52 Zi rfl #[.string a0] rfl Zb ?_; (with_reducible refine (Yhb.calls a0 t302 _ ?side1 A2.out).mono ?_); (case side1 => first | exact HE.out | exact EnvOk.below HE.out Za); rintro e w5 ⟨rfl, hb⟩; refine ⟨_, rfl, ?_⟩; have n0_ := Ya.mk (Yq Za hb); clear HB; have HB := n0_; clear n0_; (try clear hb); (try clear hb2); (try clear hk); (try clear hi)) | ((with_reducible refine Yh (f := 59) rfl ?_); refine Yz (some 5) rfl rfl Tryz.func59 Zi rfl #[.string t302, .string (⟨#[37, 50, 101]⟩ : ByteArray), .string (⟨#[46]⟩ : ByteArray)] rfl Zb ?_; (with_reducible refine (strings_ReplaceAll.calls t302 (⟨#[37, 50, 101]⟩ : ByteArray) (⟨#[46]⟩ : ByteArray) t303 _ ?side1 A3.out).mono ?_); (case side1 => first | exact HE.out | exact EnvOk.below HE.out Za); rintro e w6 ⟨rfl, hb⟩; refine ⟨_, rfl, ?_⟩; have n0_ := Ya.mk (Yq Za hb); clear HB; have HB := n0_; clear n0_; (try clear hb); (try clear hb2); (try clear hk); (try clear hi)))
  go_ret
  exact ⟨Zk, Za⟩
 rw [if_neg c4] at H
 have c4b0 : (t303.toList == ([46] : List UInt8)) = false := beq_eq_false_iff_ne.mpr c4
 have c4b1 : (t303.toList != ([46] : List UInt8)) = true := bne_iff_ne.mpr c4
 by_cases c7 : t303.toList = ([46, 46] : List UInt8)
 rotate_left
 ·rw [if_neg c7] at H
  have c7b0 : (t303.toList == ([46, 46] : List UInt8)) = false := beq_eq_false_iff_ne.mpr c7
  have c7b1 : (t303.toList != ([46, 46] : List UInt8)) = true := bne_iff_ne.mpr c7
  obtain rfl := Option.some.inj H
  go_enter Tryz.func62, Tryz.ntmps62
  go_wp2_with (first | ((with_reducible refine Yh (f := 52) rfl ?_); refine Yz (some 4) rfl rfl Tryz.func52 Zi rfl #[.string a0] rfl Zb ?_; (with_reducible refine (Yhb.calls a0 t302 _ ?side1 A2.out).mono ?_); (case side1 => first | exact HE.out | exact EnvOk.below HE.out Za); rintro e w10 ⟨rfl, hb⟩; refine ⟨_, rfl, ?_⟩; have n0_ := Ya.mk (Yq Za hb); clear HB; have HB := n0_; clear n0_; (try clear hb); (try clear hb2); (try clear hk); (try clear hi)) | ((with_reducible refine Yh (f := 59) rfl ?_); refine Yz (some 5) rfl rfl Tryz.func59 Zi rfl #[.string t302, .string (⟨#[37, 50, 101]⟩ : ByteArray), .string (⟨#[46]⟩ : ByteArray)] rfl Zb ?_; (with_reducible refine (strings_ReplaceAll.calls t302 (⟨#[37, 50, 101]⟩ : ByteArray) (⟨#[46]⟩ : ByteArray) t303 _ ?side1 A3.out).mono ?_); (case side1 => first | exact HE.out | exact EnvOk.below HE.out Za); rintro e w11 ⟨rfl, hb⟩; refine ⟨_, rfl, ?_⟩; have n0_ := Ya.mk (Yq Za hb); clear HB; have HB := n0_; clear n0_; (try clear hb); (try clear hb2); (try clear hk); (try clear hi)))
  go_ret
  exact ⟨Zk, Za⟩
 rw [if_pos c7] at H
 have c7b0 : (t303.toList == ([46, 46] : List UInt8)) = true := beq_iff_eq.mpr c7
 have c7b1 : (t303.toList != ([46, 46] : List UInt8)) = false := bne_eq_false_iff_eq.mpr c7
 clear c7
 obtain rfl := Option.some.inj H
 go_enter Tryz.func62, Tryz.ntmps62
 go_wp2_with (first | ((with_reducible refine Yh (f := 52) rfl ?_); refine Yz (some 4) rfl rfl Tryz.func52 Zi rfl #[.string a0] rfl Zb ?_; (with_reducible refine (Yhb.calls a0 t302 _ ?side1 A2.out).mono ?_); (case side1 => first | exact HE.out | exact EnvOk.below HE.out Za); rintro e w8 ⟨rfl, hb⟩; refine ⟨_, rfl, ?_⟩; have n0_ := Ya.mk (Yq Za hb); clear HB; have HB := n0_; clear n0_; (try clear hb); (try clear hb2); (try clear hk); (try clear hi)) | ((with_reducible refine Yh (f := 59) rfl ?_); refine Yz (some 5) rfl rfl Tryz.func59 Zi rfl #[.string t302, .string (⟨#[37, 50, 101]⟩ : ByteArray), .string (⟨#[46]⟩ : ByteArray)] rfl Zb ?_; (with_reducible refine (strings_ReplaceAll.calls t302 (⟨#[37, 50, 101]⟩ : ByteArray) (⟨#[46]⟩ : ByteArray) t303 _ ?side1 A3.out).mono ?_); (case side1 => first | exact HE.out | exact EnvOk.below HE.out Za); rintro e w9 ⟨rfl, hb⟩; refine ⟨_, rfl, ?_⟩; have n0_ := Ya.mk (Yq Za hb); clear HB; have HB := n0_; clear n0_; (try clear hb); (try clear hb2); (try clear hk); (try clear hi)))
 go_ret
 exact ⟨Zk, Za⟩
def Ybg.f (a0 : ByteArray) (a1 : ByteArray) : Option (Bool) := if (a0.size : Int) = (a1.size : Int) then ((Yhb.f a0).bind fun t304 => ((Yhb.f a1).bind fun t305 => (some (t304.toList == t305.toList)))) else (some false)
set_option maxHeartbeats 8000000 in
set_option maxRecDepth 100000 in
theorem Ybg.calls (a0 : ByteArray) (a1 : ByteArray) (r : Bool) (w : World) (hE : EnvOk w) (h : Ybg.f a0 a1 = some r) :
  Calls Tryz.prog 73 #[.string a0, .string a1] w fun e w' => e = .returned (.bool r) ∧ Below w.heap.size w w' := by
 have HE := Ya.mk hE
 clear hE
 have HB := Ya.mk (Below.refl w.heap.size w)
 have H : (if (a0.size : Int) = (a1.size : Int) then ((Yhb.f a0).bind fun t304 => ((Yhb.f a1).bind fun t305 => (some (t304.toList == t305.toList)))) else (some false)) = some r := h
 clear h
 by_cases c3 : (a0.size : Int) = (a1.size : Int)
 rotate_left
 ·rw [if_neg c3] at H
  have c3b0 : ((a0.size : Int) == (a1.size : Int)) = false := beq_eq_false_iff_ne.mpr c3
  have c3b1 : ((a0.size : Int) != (a1.size : Int)) = true := bne_iff_ne.mpr c3
  have c3b2 : (a0.size == a1.size) = false := by first | simpa using c3 | (simp at c3 ⊢; omega)
  obtain rfl := Option.some.inj H
  go_enter Tryz.func73, Tryz.ntmps73
  go_wp2
  go_ret
  exact ⟨Zk, Za⟩
 rw [if_pos c3] at H
 have c3b0 : ((a0.size : Int) == (a1.size : Int)) = true := beq_iff_eq.mpr c3
 have c3b1 : ((a0.size : Int) != (a1.size : Int)) = false := bne_eq_false_iff_eq.mpr c3
 have c3b2 : (a0.size == a1.size) = true := by first | simpa using c3 | (simp at c3 ⊢; omega)
 clear c3
 replace H := Option.bind_eq_some_iff.mp H
 obtain ⟨t304, A40, H⟩ := H
 try dsimp -simprocs only at H
 have A4 := Ya.mk A40
 clear A40
 replace H := Option.bind_eq_some_iff.mp H
 obtain ⟨t305, A50, H⟩ := H
 try dsimp -simprocs only at H
 have A5 := Ya.mk A50
 clear A50
 obtain rfl := Option.some.inj H
 go_enter Tryz.func73, Tryz.ntmps73
 go_wp2_with (first | (go_at_call 52; (with_reducible refine (Yhb.calls a0 t304 _ ?side1 A4.out).mono ?_); (case side1 => first | exact HE.out | exact EnvOk.below HE.out Za); rintro e w6 ⟨rfl, hb⟩; have n0_ := Ya.mk (Yq Za hb); clear HB; have HB := n0_; clear n0_; (try clear hb); (try clear hb2); (try clear hk); (try clear hi)) | (go_at_call 52; (with_reducible refine (Yhb.calls a1 t305 _ ?side1 A5.out).mono ?_); (case side1 => first | exact HE.out | exact EnvOk.below HE.out Za); rintro e w7 ⟨rfl, hb⟩; have n0_ := Ya.mk (Yq Za hb); clear HB; have HB := n0_; clear n0_; (try clear hb); (try clear hb2); (try clear hk); (try clear hi)))
 go_ret
 exact ⟨Zk, Za⟩
end Go.Proofs.YtnmglnglbdpjjaaGreatDoor.X
