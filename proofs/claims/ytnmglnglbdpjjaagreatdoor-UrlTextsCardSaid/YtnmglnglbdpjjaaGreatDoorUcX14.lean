/- Printed by a program of ours: functions as plain Lean, and what a call of each does. -/
import Derived.Test.YtnmglnglbdpjjaaGreatDoorUcX0
import Derived.Test.YtnmglnglbdpjjaaGreatDoorUcX3
import Derived.Test.YtnmglnglbdpjjaaGreatDoorUcX4
import Derived.Test.YtnmglnglbdpjjaaGreatDoorUcH0
import Derived.Test.YtnmglnglbdpjjaaGreatDoorUcH1
namespace Go.Proofs.YtnmglnglbdpjjaaGreatDoor.X
open Go.RowKit Go.Yw.PrintWords Go.Yw.PrintLast Go.Yw.PrintMore
attribute [local go_sem] Yld Yjd Yje Yie Yuc Yvc Yid Yhd
set_option linter.unusedVariables false
set_option linter.unusedSimpArgs false
mutual
def Yp.j0 : Nat → ByteArray → ByteArray → Bool → ByteArray → ByteArray → ByteArray → Int → ByteArray → ByteArray → ByteArray → Bool → Bool → Option (Int × ByteArray × ByteArray × ByteArray × Int × ByteArray × ByteArray × ByteArray × Bool × Bool)
 | 0, _, _, _, _, _, _, _, _, _, _, _, _ => none
 | k + 1, x3, x4, x29, x1000, x1001, x1002, x1003, x1004, x1005, x1006, x1007, x1008 => if x29 = true then (some (3, x1000, x1001, x1002, x1003, x1004, x1005, x1006, x1007, x1008)) else (Yp.l0 k x3 x4 (x3.size : Int) 0 x1000 x1001 x1002 x1003 x1004 x1005 x1006 x1007 x1008)
def Yp.l0 : Nat → ByteArray → ByteArray → Int → Int → ByteArray → ByteArray → ByteArray → Int → ByteArray → ByteArray → ByteArray → Bool → Bool → Option (Int × ByteArray × ByteArray × ByteArray × Int × ByteArray × ByteArray × ByteArray × Bool × Bool)
 | 0, _, _, _, _, _, _, _, _, _, _, _, _, _ => none
 | k + 1, x3, x4, x31, x32, x1000, x1001, x1002, x1003, x1004, x1005, x1006, x1007, x1008 => if x32 < x31 then (if 0 ≤ x32 then (if x32 < (x3.size : Int) then ((Yfb.f (bt x3 x32)).bind fun t275 => (if t275 = true then (Yp.l0 k x3 x4 x31 (wrap64 (x32 + 1)) x1000 x1001 x1002 x1003 x1004 x1005 x1006 x1007 x1008) else ((Ypa.f (bt x3 x32)).bind fun t276 => (if t276 = true then (Yp.l0 k x3 x4 x31 (wrap64 (x32 + 1)) x1000 x1001 x1002 x1003 x1004 x1005 x1006 x1007 x1008) else ((strings_IndexByte.f (⟨#[43, 45, 46]⟩ : ByteArray) (bt x3 x32)).bind fun t277 => (if t277 < 0 then (some (3, x1000, x1001, x1002, x1003, x1004, x1005, x1006, x1007, x1008)) else (Yp.l0 k x3 x4 x31 (wrap64 (x32 + 1)) x1000 x1001 x1002 x1003 x1004 x1005 x1006 x1007 x1008))))))) else (none)) else (none)) else ((Ytb.f x3).bind fun t274 => (if t274.toList = ([104, 116, 116, 112] : List UInt8) then (some (0, x4, t274, x1002, x1003, x1004, x1005, x1006, x1007, x1008)) else (if t274.toList = ([104, 116, 116, 112, 115] : List UInt8) then (some (0, x4, t274, x1002, x1003, x1004, x1005, x1006, x1007, x1008)) else (some (16, x4, t274, x1002, x1003, x1004, x1005, x1006, x1007, x1008)))))
end
def Yp.f (k : Nat) (s0_0 : ByteArray) (s0_1 : ByteArray) (s0_2 : ByteArray) (s0_3 : Int) (s0_4 : ByteArray) (s0_5 : ByteArray) (s0_6 : ByteArray) (s0_7 : Bool) (s0_8 : Bool) : Option (Int × ByteArray × ByteArray × ByteArray × Int × ByteArray × ByteArray × ByteArray × Bool × Bool) := (strings_Cut.f s0_0 (⟨#[58]⟩ : ByteArray)).bind fun bt270 => (if bt270.2.2 = true then (if bt270.1.toList = ([] : List UInt8) then (Yp.j0 k bt270.1 bt270.2.1 true s0_0 s0_1 s0_2 s0_3 s0_4 s0_5 s0_6 s0_7 s0_8) else (if 0 < (bt270.1.size : Int) then ((Yfb.f (bt bt270.1 0)).bind fun t273 => (Yp.j0 k bt270.1 bt270.2.1 (!t273) s0_0 s0_1 s0_2 s0_3 s0_4 s0_5 s0_6 s0_7 s0_8)) else (none))) else (Yp.j0 k bt270.1 bt270.2.1 true s0_0 s0_1 s0_2 s0_3 s0_4 s0_5 s0_6 s0_7 s0_8))
set_option maxHeartbeats 8000000 in
set_option maxRecDepth 100000 in
theorem Yp.calls (k : Nat) (g : Nat) (s0_0 : ByteArray) (s0_1 : ByteArray) (s0_2 : ByteArray) (s0_3 : Int) (s0_4 : ByteArray) (s0_5 : ByteArray) (s0_6 : ByteArray) (s0_7 : Bool) (s0_8 : Bool) (r1 : Int) (r2 : ByteArray) (r3 : ByteArray) (r4 : ByteArray) (r5 : Int) (r6 : ByteArray) (r7 : ByteArray) (r8 : ByteArray) (r9 : Bool) (r10 : Bool) (w0 w : World) (hE : EnvOk w0) (hI : IsS53 w0 w g s0_0 s0_1 s0_2 s0_3 s0_4 s0_5 s0_6 s0_7 s0_8) (hB : Below w0.heap.size w0 w) (h : Yp.f k s0_0 s0_1 s0_2 s0_3 s0_4 s0_5 s0_6 s0_7 s0_8 = some (r1, r2, r3, r4, r5, r6, r7, r8, r9, r10)) :
  Calls Tryz.prog 43 #[.pointer (some ⟨g, 0, none⟩)] w fun e w' => e = .returned (.int .i64 r1) ∧ IsS53 w0 w' g r2 r3 r4 r5 r6 r7 r8 r9 r10 ∧ Below w0.heap.size w0 w' ∧ KeepBut w w' g none := by
 have HI0 := Ya.mk hI
 have HK := Ya.mk (KeepBut.refl w g none)
 have HL := Ya.mk hB.size
 clear hI
 have HE := Ya.mk hE
 clear hE
 have HW0 := Ya.mk hB.size
 have HB := Ya.mk hB
 clear hB
 have H : ((strings_Cut.f s0_0 (⟨#[58]⟩ : ByteArray)).bind fun bt270 => (if bt270.2.2 = true then (if bt270.1.toList = ([] : List UInt8) then (Yp.j0 k bt270.1 bt270.2.1 true s0_0 s0_1 s0_2 s0_3 s0_4 s0_5 s0_6 s0_7 s0_8) else (if 0 < (bt270.1.size : Int) then ((Yfb.f (bt bt270.1 0)).bind fun t273 => (Yp.j0 k bt270.1 bt270.2.1 (!t273) s0_0 s0_1 s0_2 s0_3 s0_4 s0_5 s0_6 s0_7 s0_8)) else (none))) else (Yp.j0 k bt270.1 bt270.2.1 true s0_0 s0_1 s0_2 s0_3 s0_4 s0_5 s0_6 s0_7 s0_8))) = some (r1, r2, r3, r4, r5, r6, r7, r8, r9, r10) := h
 clear h
 replace H := Option.bind_eq_some_iff.mp H
 obtain ⟨⟨t270, t271, t272⟩, A20, H⟩ := H
 replace H : (if t272 = true then (if t270.toList = ([] : List UInt8) then (Yp.j0 k t270 t271 true s0_0 s0_1 s0_2 s0_3 s0_4 s0_5 s0_6 s0_7 s0_8) else (if 0 < (t270.size : Int) then ((Yfb.f (bt t270 0)).bind fun t273 => (Yp.j0 k t270 t271 (!t273) s0_0 s0_1 s0_2 s0_3 s0_4 s0_5 s0_6 s0_7 s0_8)) else (none))) else (Yp.j0 k t270 t271 true s0_0 s0_1 s0_2 s0_3 s0_4 s0_5 s0_6 s0_7 s0_8)) = some (r1, r2, r3, r4, r5, r6, r7, r8, r9, r10) := H
 have A2 := Ya.mk A20
 clear A20
 have HC3 := Ya.mk H
 clear H
 obtain ⟨HGz4, hgz4⟩ := HI0.out
 have hcz4_0 := Yjb HGz4
 have hcz4_1 := Yxb HGz4
 have hcz4_2 := Ywb HGz4
 have hcz4_3 := Yvb HGz4
 have hcz4_4 := Yqb HGz4
 have hcz4_5 := Ypb HGz4
 have hcz4_6 := Ymb HGz4
 have hcz4_7 := Yob HGz4
 have hcz4_8 := Ynb HGz4
 have hfz4_0 := Ye HGz4 0
 have hfz4_1 := Ye HGz4 1
 have hfz4_2 := Ye HGz4 2
 have hfz4_3 := Ye HGz4 3
 have hfz4_4 := Ye HGz4 4
 have hfz4_5 := Ye HGz4 5
 have hfz4_6 := Ye HGz4 6
 have hfz4_7 := Ye HGz4 7
 have hfz4_8 := Ye HGz4 8
 clear HGz4 hgz4
 go_enter Tryz.func43, Tryz.ntmps43
 go_upto_region 2 with (first | ((with_reducible refine Yi (f := 76) rfl ?_); refine Yy (some 14) rfl rfl Tryz.func76 (by kernel_rfl) rfl #[.string s0_0, .string (⟨#[58]⟩ : ByteArray)] rfl (by (try simp only [List.map_toArray, List.map_cons, List.map_nil]); first | done | rfl | (simp only [List.length_drop, List.length_take]; rfl)) ?_; (with_reducible refine (strings_Cut.calls s0_0 (⟨#[58]⟩ : ByteArray) t270 t271 t272 _ ?side1 A2.out).mono ?_); (case side1 => first | exact HE.out | exact EnvOk.below HE.out (by repeat (first | (with_reducible first | exact HB.out | apply Yd | apply Yb | apply Yc | refine Yg ?_ (IsS53.ge HI0.out)) | exact HB.out))); rintro e w' ⟨rfl, ⟨nd, rfl⟩⟩; refine ⟨_, rfl, ?_⟩))
 (try simp only [Act.put, List.setIfInBounds_toArray, List.set_cons_zero, List.set_cons_succ])
 go_cut [29] (fun v29 wc => ∃ (kq : Nat) (x29_2 : Bool), v29 = .bool x29_2 ∧ Ya (Yp.j0 kq t270 t271 x29_2 s0_0 s0_1 s0_2 s0_3 s0_4 s0_5 s0_6 s0_7 s0_8 = some (r1, r2, r3, r4, r5, r6, r7, r8, r9, r10)) ∧ Ya (kq ≤ k) ∧ Ya (IsS53 w0 wc g s0_0 s0_1 s0_2 s0_3 s0_4 s0_5 s0_6 s0_7 s0_8) ∧ Ya (KeepBut w wc g none) ∧ Ya (Below w0.heap.size w0 wc))
 case first =>
  have H := HC3.out
  clear HC3
  by_cases c5 : t272 = true
  ·subst c5
   have H1 : (if t270.toList = ([] : List UInt8) then (Yp.j0 k t270 t271 true s0_0 s0_1 s0_2 s0_3 s0_4 s0_5 s0_6 s0_7 s0_8) else (if 0 < (t270.size : Int) then ((Yfb.f (bt t270 0)).bind fun t273 => (Yp.j0 k t270 t271 (!t273) s0_0 s0_1 s0_2 s0_3 s0_4 s0_5 s0_6 s0_7 s0_8)) else (none))) = some (r1, r2, r3, r4, r5, r6, r7, r8, r9, r10) := by rw [if_pos rfl] at H; exact H
   clear H
   have H := H1
   clear H1
   by_cases c6 : t270.toList = ([] : List UInt8)
   ·rw [if_pos c6] at H
    have c6b0 : (t270.toList == ([] : List UInt8)) = true := beq_iff_eq.mpr c6
    have c6b1 : (t270.toList != ([] : List UInt8)) = false := bne_eq_false_iff_eq.mpr c6
    clear c6
    (first | rw [c6b0] | (simp only [Yaa, Yba]; rw [c6b0]) | skip)
    have H' := Ya.mk H
    clear H
    go_wp2
    go_meet
    case rel => exact ⟨_, (true), (by first | rfl | (simp; done) | (simp [*]; done)), H', ⟨by first | omega | exact Nat.le_refl _⟩, ⟨by repeat (first | (with_reducible first | exact HI0.out | apply IsS53.alloc | apply IsS53.drewN | apply IsS53.drew | apply IsS53.set_0 | apply IsS53.set_1 | apply IsS53.set_2 | apply IsS53.set_3 | apply IsS53.set_4 | apply IsS53.set_5 | apply IsS53.set_6 | apply IsS53.set_7 | apply IsS53.set_8) | exact HI0.out)⟩, ⟨by repeat (first | (with_reducible first | exact HK.out | apply KeepBut.set_ | apply Yla | apply keep_drew | apply keep_alloc) | exact HK.out)⟩, ⟨by repeat (first | (with_reducible first | exact HB.out | apply Yd | apply Yb | apply Yc | refine Yg ?_ (IsS53.ge HI0.out)) | exact HB.out)⟩⟩
   ·rw [if_neg c6] at H
    have c6b0 : (t270.toList == ([] : List UInt8)) = false := beq_eq_false_iff_ne.mpr c6
    have c6b1 : (t270.toList != ([] : List UInt8)) = true := bne_iff_ne.mpr c6
    (first | rw [c6b0] | (simp only [Yaa, Yba]; rw [c6b0]) | skip)
    by_cases c7 : 0 < (t270.size : Int)
    ·rw [if_pos c7] at H
     have c7b0 : decide (0 < (t270.size : Int)) = true := decide_eq_true c7
     have c7b1 : decide (0 < t270.size) = true := decide_eq_true (by omega)
     clear c7
     replace H := Option.bind_eq_some_iff.mp H
     obtain ⟨t273, A90, H⟩ := H
     replace H : (Yp.j0 k t270 t271 (!t273) s0_0 s0_1 s0_2 s0_3 s0_4 s0_5 s0_6 s0_7 s0_8) = some (r1, r2, r3, r4, r5, r6, r7, r8, r9, r10) := H
     have A9 := Ya.mk A90
     clear A90
     have H' := Ya.mk H
     clear H
     have p8 : 0 ≤ (0 : Int) := (by omega)
     have q8 : 0 < t270.size := (by have : (0 : Int) < (t270.size : Int) := of_decide_eq_true (by first | (with_reducible assumption) | assumption); omega)
     have hx8 : ∀ h : 0 < t270.size, ((t270[0]'h).toNat : Int) = bt t270 0 := Yta t270 0
     clear p8
     have qi8 : (0 < (t270.size : Int)) = True := eq_true (of_decide_eq_true (by first | (with_reducible assumption) | assumption))
     replace q8 := eq_true q8
     go_wp2_with (first | (go_at_call 77; (with_reducible refine (Yfb.calls (bt t270 0) t273 _ ?side1 A9.out).mono ?_); (case side1 => first | exact HE.out | exact EnvOk.below HE.out (by repeat (first | (with_reducible first | exact HB.out | apply Yd | apply Yb | apply Yc | refine Yg ?_ (IsS53.ge HI0.out)) | exact HB.out))); rintro e w' ⟨rfl, ⟨nd, rfl⟩⟩))
     go_meet
     case rel => exact ⟨_, (!t273), (by first | rfl | (simp; done) | (simp [*]; done)), H', ⟨by first | omega | exact Nat.le_refl _⟩, ⟨by repeat (first | (with_reducible first | exact HI0.out | apply IsS53.alloc | apply IsS53.drewN | apply IsS53.drew | apply IsS53.set_0 | apply IsS53.set_1 | apply IsS53.set_2 | apply IsS53.set_3 | apply IsS53.set_4 | apply IsS53.set_5 | apply IsS53.set_6 | apply IsS53.set_7 | apply IsS53.set_8) | exact HI0.out)⟩, ⟨by repeat (first | (with_reducible first | exact HK.out | apply KeepBut.set_ | apply Yla | apply keep_drew | apply keep_alloc) | exact HK.out)⟩, ⟨by repeat (first | (with_reducible first | exact HB.out | apply Yd | apply Yb | apply Yc | refine Yg ?_ (IsS53.ge HI0.out)) | exact HB.out)⟩⟩
    ·rw [if_neg c7] at H
     exact absurd H (by simp)
  ·replace c5 := Bool.eq_false_iff.mpr c5
   subst c5
   have H1 : (Yp.j0 k t270 t271 true s0_0 s0_1 s0_2 s0_3 s0_4 s0_5 s0_6 s0_7 s0_8) = some (r1, r2, r3, r4, r5, r6, r7, r8, r9, r10) := by rw [if_neg (show ¬ (false = true) by decide)] at H; exact H
   clear H
   have H := H1
   clear H1
   have H' := Ya.mk H
   clear H
   go_wp2
   go_meet
   case rel => exact ⟨_, (true), (by first | rfl | (simp; done) | (simp [*]; done)), H', ⟨by first | omega | exact Nat.le_refl _⟩, ⟨by repeat (first | (with_reducible first | exact HI0.out | apply IsS53.alloc | apply IsS53.drewN | apply IsS53.drew | apply IsS53.set_0 | apply IsS53.set_1 | apply IsS53.set_2 | apply IsS53.set_3 | apply IsS53.set_4 | apply IsS53.set_5 | apply IsS53.set_6 | apply IsS53.set_7 | apply IsS53.set_8) | exact HI0.out)⟩, ⟨by repeat (first | (with_reducible first | exact HK.out | apply KeepBut.set_ | apply Yla | apply keep_drew | apply keep_alloc) | exact HK.out)⟩, ⟨by repeat (first | (with_reducible first | exact HB.out | apply Yd | apply Yb | apply Yc | refine Yg ?_ (IsS53.ge HI0.out)) | exact HB.out)⟩⟩
 case rest =>
  clear HC3
  try clear p2
  try clear c4
  try clear c5
  try clear c6
  try clear c6b0
  try clear c6b1
  try clear c7
  try clear c7b0
  try clear c7b1
  try clear p8
  try clear q8
  try clear hx8
  try clear qi8
  try clear hcz4_0
  try clear hcz4_1
  try clear hcz4_2
  try clear hcz4_3
  try clear hcz4_4
  try clear hcz4_5
  try clear hcz4_6
  try clear hcz4_7
  try clear hcz4_8
  try clear hfz4_0
  try clear hfz4_1
  try clear hfz4_2
  try clear hfz4_3
  try clear hfz4_4
  try clear hfz4_5
  try clear hfz4_6
  try clear hfz4_7
  try clear hfz4_8
  try clear p8
  try clear q8
  obtain ⟨kq, x29_2, rfl, HA, HJ2, HI0, HK, HB⟩ := hcut
  cases kq with
  | zero => exact absurd HA.out (by simp [Yp.j0])
  | succ kj2 =>
   have H := HA.out
   clear HA
   simp only [Yp.j0] at H
   by_cases c10 : x29_2 = true
   ·subst c10
    have H1 : (some (3, s0_0, s0_1, s0_2, s0_3, s0_4, s0_5, s0_6, s0_7, s0_8)) = some (r1, r2, r3, r4, r5, r6, r7, r8, r9, r10) := by rw [if_pos rfl] at H; exact H
    clear H
    have H := H1
    clear H1
    simp only [Option.some.injEq, Prod.mk.injEq] at H
    obtain ⟨rfl, rfl, rfl, rfl, rfl, rfl, rfl, rfl, rfl, rfl⟩ := H
    go_wp2
    go_ret
    exact ⟨by first | rfl | (simp [Yl, Ym] <;> rfl) | (simp [*, Yl, Ym] <;> rfl), by repeat (first | (with_reducible first | exact HI0.out | apply IsS53.alloc | apply IsS53.drewN | apply IsS53.drew | apply IsS53.set_0 | apply IsS53.set_1 | apply IsS53.set_2 | apply IsS53.set_3 | apply IsS53.set_4 | apply IsS53.set_5 | apply IsS53.set_6 | apply IsS53.set_7 | apply IsS53.set_8) | exact HI0.out), by repeat (first | (with_reducible first | exact HB.out | apply Yd | apply Yb | apply Yc | refine Yg ?_ (IsS53.ge HI0.out)) | exact HB.out), by repeat (first | (with_reducible first | exact HK.out | apply KeepBut.set_ | apply Yla | apply keep_drew | apply keep_alloc) | exact HK.out)⟩
   ·replace c10 := Bool.eq_false_iff.mpr c10
    subst c10
    have H1 : (Yp.l0 kj2 t270 t271 (t270.size : Int) 0 s0_0 s0_1 s0_2 s0_3 s0_4 s0_5 s0_6 s0_7 s0_8) = some (r1, r2, r3, r4, r5, r6, r7, r8, r9, r10) := by rw [if_neg (show ¬ (false = true) by decide)] at H; exact H
    clear H
    have H := H1
    clear H1
    have H' := Ya.mk H
    clear H
    go_wp2
    go_loopg [32] kj2 (fun kq v32 w' => ∃ (x32_2 : Int), v32 = .int .i64 x32_2 ∧ Ya (Yp.l0 kq t270 t271 (t270.size : Int) x32_2 s0_0 s0_1 s0_2 s0_3 s0_4 s0_5 s0_6 s0_7 s0_8 = some (r1, r2, r3, r4, r5, r6, r7, r8, r9, r10)) ∧ Ya (kq ≤ kj2) ∧ Ya (IsS53 w0 w' g s0_0 s0_1 s0_2 s0_3 s0_4 s0_5 s0_6 s0_7 s0_8) ∧ Ya (KeepBut w w' g none) ∧ Ya (Below w0.heap.size w0 w'))
    case atStart => exact ⟨(0), (by first | rfl | (simp; done) | (simp [*]; done)), H', ⟨Nat.le_refl _⟩, ⟨by repeat (first | (with_reducible first | exact HI0.out | apply IsS53.alloc | apply IsS53.drewN | apply IsS53.drew | apply IsS53.set_0 | apply IsS53.set_1 | apply IsS53.set_2 | apply IsS53.set_3 | apply IsS53.set_4 | apply IsS53.set_5 | apply IsS53.set_6 | apply IsS53.set_7 | apply IsS53.set_8) | exact HI0.out)⟩, ⟨by repeat (first | (with_reducible first | exact HK.out | apply KeepBut.set_ | apply Yla | apply keep_drew | apply keep_alloc) | exact HK.out)⟩, ⟨by repeat (first | (with_reducible first | exact HB.out | apply Yd | apply Yb | apply Yc | refine Yg ?_ (IsS53.ge HI0.out)) | exact HB.out)⟩⟩
    case round =>
     clear H'
     try clear c1
     try clear p2
     try clear c4
     try clear c5
     try clear c6
     try clear c6b0
     try clear c6b1
     try clear c7
     try clear c7b0
     try clear c7b1
     try clear p8
     try clear q8
     try clear hx8
     try clear qi8
     try clear c10
     try clear hcz4_0
     try clear hcz4_1
     try clear hcz4_2
     try clear hcz4_3
     try clear hcz4_4
     try clear hcz4_5
     try clear hcz4_6
     try clear hcz4_7
     try clear hcz4_8
     try clear hfz4_0
     try clear hfz4_1
     try clear hfz4_2
     try clear hfz4_3
     try clear hfz4_4
     try clear hfz4_5
     try clear hfz4_6
     try clear hfz4_7
     try clear hfz4_8
     try clear p2
     try clear p8
     try clear q8
     obtain ⟨x32_2, rfl, HA, HK2, HI0, HK, HB⟩ := hrel
     cases gk with
     | zero => exact absurd HA.out (by simp [Yp.l0])
     | succ k2 =>
      have H := HA.out
      clear HA
      simp only [Yp.l0] at H
      by_cases c11 : x32_2 < (t270.size : Int)
      ·rw [if_pos c11] at H
       have c11b0 : decide (x32_2 < (t270.size : Int)) = true := decide_eq_true c11
       clear c11
       by_cases c12 : 0 ≤ x32_2
       ·rw [if_pos c12] at H
        have c12b0 : decide (0 ≤ x32_2) = true := decide_eq_true c12
        clear c12
        by_cases c13 : x32_2 < (t270.size : Int)
        ·rw [if_pos c13] at H
         have c13b0 : decide (x32_2 < (t270.size : Int)) = true := decide_eq_true c13
         clear c13
         replace H := Option.bind_eq_some_iff.mp H
         obtain ⟨t275, A150, H⟩ := H
         replace H : (if t275 = true then (Yp.l0 k2 t270 t271 (t270.size : Int) (wrap64 (x32_2 + 1)) s0_0 s0_1 s0_2 s0_3 s0_4 s0_5 s0_6 s0_7 s0_8) else ((Ypa.f (bt t270 x32_2)).bind fun t276 => (if t276 = true then (Yp.l0 k2 t270 t271 (t270.size : Int) (wrap64 (x32_2 + 1)) s0_0 s0_1 s0_2 s0_3 s0_4 s0_5 s0_6 s0_7 s0_8) else ((strings_IndexByte.f (⟨#[43, 45, 46]⟩ : ByteArray) (bt t270 x32_2)).bind fun t277 => (if t277 < 0 then (some (3, s0_0, s0_1, s0_2, s0_3, s0_4, s0_5, s0_6, s0_7, s0_8)) else (Yp.l0 k2 t270 t271 (t270.size : Int) (wrap64 (x32_2 + 1)) s0_0 s0_1 s0_2 s0_3 s0_4 s0_5 s0_6 s0_7 s0_8)))))) = some (r1, r2, r3, r4, r5, r6, r7, r8, r9, r10) := H
         have A15 := Ya.mk A150
         clear A150
         by_cases c16 : t275 = true
         ·subst c16
          have H1 : (Yp.l0 k2 t270 t271 (t270.size : Int) (wrap64 (x32_2 + 1)) s0_0 s0_1 s0_2 s0_3 s0_4 s0_5 s0_6 s0_7 s0_8) = some (r1, r2, r3, r4, r5, r6, r7, r8, r9, r10) := by rw [if_pos rfl] at H; exact H
          clear H
          have H := H1
          clear H1
          have H' := Ya.mk H
          clear H
          have p14 : 0 ≤ (x32_2 : Int) := of_decide_eq_true (by first | (with_reducible assumption) | assumption)
          have q14 : x32_2 < (t270.size : Int) := of_decide_eq_true (by first | (with_reducible assumption) | assumption)
          have hx14 := Yta t270 x32_2
          replace p14 := eq_true p14
          replace q14 := eq_true q14
          go_wp2_with (first | ((with_reducible refine Yi (f := 77) rfl ?_); refine Yy (some 39) rfl rfl Tryz.func77 (by kernel_rfl) rfl #[.int .u8 (bt t270 x32_2)] rfl (by (try simp only [List.map_toArray, List.map_cons, List.map_nil]); first | done | rfl | (simp only [List.length_drop, List.length_take]; rfl)) ?_; (with_reducible refine (Yfb.calls (bt t270 x32_2) true _ ?side1 A15.out).mono ?_); (case side1 => first | exact HE.out | exact EnvOk.below HE.out (by repeat (first | (with_reducible first | exact HB.out | apply Yd | apply Yb | apply Yc | refine Yg ?_ (IsS53.ge HI0.out)) | exact HB.out))); rintro e w' ⟨rfl, ⟨nd, rfl⟩⟩; refine ⟨_, rfl, ?_⟩))
          go_roundg k2
          case measure => have := HJ2.out; have := HK2.out; omega
          case rel => exact ⟨(wrap64 (x32_2 + 1)), (by first | rfl | (simp; done) | (simp [*]; done)), H', ⟨by have := HJ2.out; have := HK2.out; omega⟩, ⟨by repeat (first | (with_reducible first | exact HI0.out | apply IsS53.alloc | apply IsS53.drewN | apply IsS53.drew | apply IsS53.set_0 | apply IsS53.set_1 | apply IsS53.set_2 | apply IsS53.set_3 | apply IsS53.set_4 | apply IsS53.set_5 | apply IsS53.set_6 | apply IsS53.set_7 | apply IsS53.set_8) | exact HI0.out)⟩, ⟨by repeat (first | (with_reducible first | exact HK.out | apply KeepBut.set_ | apply Yla | apply keep_drew | apply keep_alloc) | exact HK.out)⟩, ⟨by repeat (first | (with_reducible first | exact HB.out | apply Yd | apply Yb | apply Yc | refine Yg ?_ (IsS53.ge HI0.out)) | exact HB.out)⟩⟩
         ·replace c16 := Bool.eq_false_iff.mpr c16
          subst c16
          have H1 : ((Ypa.f (bt t270 x32_2)).bind fun t276 => (if t276 = true then (Yp.l0 k2 t270 t271 (t270.size : Int) (wrap64 (x32_2 + 1)) s0_0 s0_1 s0_2 s0_3 s0_4 s0_5 s0_6 s0_7 s0_8) else ((strings_IndexByte.f (⟨#[43, 45, 46]⟩ : ByteArray) (bt t270 x32_2)).bind fun t277 => (if t277 < 0 then (some (3, s0_0, s0_1, s0_2, s0_3, s0_4, s0_5, s0_6, s0_7, s0_8)) else (Yp.l0 k2 t270 t271 (t270.size : Int) (wrap64 (x32_2 + 1)) s0_0 s0_1 s0_2 s0_3 s0_4 s0_5 s0_6 s0_7 s0_8))))) = some (r1, r2, r3, r4, r5, r6, r7, r8, r9, r10) := by rw [if_neg (show ¬ (false = true) by decide)] at H; exact H
          clear H
          have H := H1
          clear H1
          replace H := Option.bind_eq_some_iff.mp H
          obtain ⟨t276, A170, H⟩ := H
          replace H : (if t276 = true then (Yp.l0 k2 t270 t271 (t270.size : Int) (wrap64 (x32_2 + 1)) s0_0 s0_1 s0_2 s0_3 s0_4 s0_5 s0_6 s0_7 s0_8) else ((strings_IndexByte.f (⟨#[43, 45, 46]⟩ : ByteArray) (bt t270 x32_2)).bind fun t277 => (if t277 < 0 then (some (3, s0_0, s0_1, s0_2, s0_3, s0_4, s0_5, s0_6, s0_7, s0_8)) else (Yp.l0 k2 t270 t271 (t270.size : Int) (wrap64 (x32_2 + 1)) s0_0 s0_1 s0_2 s0_3 s0_4 s0_5 s0_6 s0_7 s0_8)))) = some (r1, r2, r3, r4, r5, r6, r7, r8, r9, r10) := H
          have A17 := Ya.mk A170
          clear A170
          by_cases c18 : t276 = true
          ·subst c18
           have H1 : (Yp.l0 k2 t270 t271 (t270.size : Int) (wrap64 (x32_2 + 1)) s0_0 s0_1 s0_2 s0_3 s0_4 s0_5 s0_6 s0_7 s0_8) = some (r1, r2, r3, r4, r5, r6, r7, r8, r9, r10) := by rw [if_pos rfl] at H; exact H
           clear H
           have H := H1
           clear H1
           have H' := Ya.mk H
           clear H
           have p14 : 0 ≤ (x32_2 : Int) := of_decide_eq_true (by first | (with_reducible assumption) | assumption)
           have q14 : x32_2 < (t270.size : Int) := of_decide_eq_true (by first | (with_reducible assumption) | assumption)
           have hx14 := Yta t270 x32_2
           replace p14 := eq_true p14
           replace q14 := eq_true q14
           go_wp2_with (first | ((with_reducible refine Yi (f := 77) rfl ?_); refine Yy (some 39) rfl rfl Tryz.func77 (by kernel_rfl) rfl #[.int .u8 (bt t270 x32_2)] rfl (by (try simp only [List.map_toArray, List.map_cons, List.map_nil]); first | done | rfl | (simp only [List.length_drop, List.length_take]; rfl)) ?_; (with_reducible refine (Yfb.calls (bt t270 x32_2) false _ ?side1 A15.out).mono ?_); (case side1 => first | exact HE.out | exact EnvOk.below HE.out (by repeat (first | (with_reducible first | exact HB.out | apply Yd | apply Yb | apply Yc | refine Yg ?_ (IsS53.ge HI0.out)) | exact HB.out))); rintro e w' ⟨rfl, ⟨nd, rfl⟩⟩; refine ⟨_, rfl, ?_⟩) | (go_at_call 78; (with_reducible refine (Ypa.calls (bt t270 x32_2) true _ ?side1 A17.out).mono ?_); (case side1 => first | exact HE.out | exact EnvOk.below HE.out (by repeat (first | (with_reducible first | exact HB.out | apply Yd | apply Yb | apply Yc | refine Yg ?_ (IsS53.ge HI0.out)) | exact HB.out))); rintro e w' ⟨rfl, ⟨nd, rfl⟩⟩))
           go_roundg k2
           case measure => have := HJ2.out; have := HK2.out; omega
           case rel => exact ⟨(wrap64 (x32_2 + 1)), (by first | rfl | (simp; done) | (simp [*]; done)), H', ⟨by have := HJ2.out; have := HK2.out; omega⟩, ⟨by repeat (first | (with_reducible first | exact HI0.out | apply IsS53.alloc | apply IsS53.drewN | apply IsS53.drew | apply IsS53.set_0 | apply IsS53.set_1 | apply IsS53.set_2 | apply IsS53.set_3 | apply IsS53.set_4 | apply IsS53.set_5 | apply IsS53.set_6 | apply IsS53.set_7 | apply IsS53.set_8) | exact HI0.out)⟩, ⟨by repeat (first | (with_reducible first | exact HK.out | apply KeepBut.set_ | apply Yla | apply keep_drew | apply keep_alloc) | exact HK.out)⟩, ⟨by repeat (first | (with_reducible first | exact HB.out | apply Yd | apply Yb | apply Yc | refine Yg ?_ (IsS53.ge HI0.out)) | exact HB.out)⟩⟩
          ·replace c18 := Bool.eq_false_iff.mpr c18
           subst c18
           have H1 : ((strings_IndexByte.f (⟨#[43, 45, 46]⟩ : ByteArray) (bt t270 x32_2)).bind fun t277 => (if t277 < 0 then (some (3, s0_0, s0_1, s0_2, s0_3, s0_4, s0_5, s0_6, s0_7, s0_8)) else (Yp.l0 k2 t270 t271 (t270.size : Int) (wrap64 (x32_2 + 1)) s0_0 s0_1 s0_2 s0_3 s0_4 s0_5 s0_6 s0_7 s0_8))) = some (r1, r2, r3, r4, r5, r6, r7, r8, r9, r10) := by rw [if_neg (show ¬ (false = true) by decide)] at H; exact H
           clear H
           have H := H1
           clear H1
           replace H := Option.bind_eq_some_iff.mp H
           obtain ⟨t277, A190, H⟩ := H
           replace H : (if t277 < 0 then (some (3, s0_0, s0_1, s0_2, s0_3, s0_4, s0_5, s0_6, s0_7, s0_8)) else (Yp.l0 k2 t270 t271 (t270.size : Int) (wrap64 (x32_2 + 1)) s0_0 s0_1 s0_2 s0_3 s0_4 s0_5 s0_6 s0_7 s0_8)) = some (r1, r2, r3, r4, r5, r6, r7, r8, r9, r10) := H
           have A19 := Ya.mk A190
           clear A190
           by_cases c20 : t277 < 0
           ·rw [if_pos c20] at H
            have c20b0 : decide (t277 < 0) = true := decide_eq_true c20
            clear c20
            simp only [Option.some.injEq, Prod.mk.injEq] at H
            obtain ⟨rfl, rfl, rfl, rfl, rfl, rfl, rfl, rfl, rfl, rfl⟩ := H
            have p14 : 0 ≤ (x32_2 : Int) := of_decide_eq_true (by first | (with_reducible assumption) | assumption)
            have q14 : x32_2 < (t270.size : Int) := of_decide_eq_true (by first | (with_reducible assumption) | assumption)
            have hx14 := Yta t270 x32_2
            replace p14 := eq_true p14
            replace q14 := eq_true q14
            go_wp2_with (first | ((with_reducible refine Yi (f := 77) rfl ?_); refine Yy (some 39) rfl rfl Tryz.func77 (by kernel_rfl) rfl #[.int .u8 (bt t270 x32_2)] rfl (by (try simp only [List.map_toArray, List.map_cons, List.map_nil]); first | done | rfl | (simp only [List.length_drop, List.length_take]; rfl)) ?_; (with_reducible refine (Yfb.calls (bt t270 x32_2) false _ ?side1 A15.out).mono ?_); (case side1 => first | exact HE.out | exact EnvOk.below HE.out (by repeat (first | (with_reducible first | exact HB.out | apply Yd | apply Yb | apply Yc | refine Yg ?_ (IsS53.ge HI0.out)) | exact HB.out))); rintro e w' ⟨rfl, ⟨nd, rfl⟩⟩; refine ⟨_, rfl, ?_⟩) | (go_at_call 78; (with_reducible refine (Ypa.calls (bt t270 x32_2) false _ ?side1 A17.out).mono ?_); (case side1 => first | exact HE.out | exact EnvOk.below HE.out (by repeat (first | (with_reducible first | exact HB.out | apply Yd | apply Yb | apply Yc | refine Yg ?_ (IsS53.ge HI0.out)) | exact HB.out))); rintro e w' ⟨rfl, ⟨nd, rfl⟩⟩) | (go_at_call 79; (with_reducible refine (strings_IndexByte.calls (⟨#[43, 45, 46]⟩ : ByteArray) (bt t270 x32_2) t277 _ ?side1 A19.out).mono ?_); (case side1 => first | exact HE.out | exact EnvOk.below HE.out (by repeat (first | (with_reducible first | exact HB.out | apply Yd | apply Yb | apply Yc | refine Yg ?_ (IsS53.ge HI0.out)) | exact HB.out))); rintro e w' ⟨rfl, ⟨nd, rfl⟩⟩))
            go_ret
            exact ⟨by first | rfl | (simp [Yl, Ym] <;> rfl) | (simp [*, Yl, Ym] <;> rfl), by repeat (first | (with_reducible first | exact HI0.out | apply IsS53.alloc | apply IsS53.drewN | apply IsS53.drew | apply IsS53.set_0 | apply IsS53.set_1 | apply IsS53.set_2 | apply IsS53.set_3 | apply IsS53.set_4 | apply IsS53.set_5 | apply IsS53.set_6 | apply IsS53.set_7 | apply IsS53.set_8) | exact HI0.out), by repeat (first | (with_reducible first | exact HB.out | apply Yd | apply Yb | apply Yc | refine Yg ?_ (IsS53.ge HI0.out)) | exact HB.out), by repeat (first | (with_reducible first | exact HK.out | apply KeepBut.set_ | apply Yla | apply keep_drew | apply keep_alloc) | exact HK.out)⟩
           ·rw [if_neg c20] at H
            have c20b0 : decide (t277 < 0) = false := decide_eq_false c20
            clear c20
            have H' := Ya.mk H
            clear H
            have p14 : 0 ≤ (x32_2 : Int) := of_decide_eq_true (by first | (with_reducible assumption) | assumption)
            have q14 : x32_2 < (t270.size : Int) := of_decide_eq_true (by first | (with_reducible assumption) | assumption)
            have hx14 := Yta t270 x32_2
            replace p14 := eq_true p14
            replace q14 := eq_true q14
            go_wp2_with (first | ((with_reducible refine Yi (f := 77) rfl ?_); refine Yy (some 39) rfl rfl Tryz.func77 (by kernel_rfl) rfl #[.int .u8 (bt t270 x32_2)] rfl (by (try simp only [List.map_toArray, List.map_cons, List.map_nil]); first | done | rfl | (simp only [List.length_drop, List.length_take]; rfl)) ?_; (with_reducible refine (Yfb.calls (bt t270 x32_2) false _ ?side1 A15.out).mono ?_); (case side1 => first | exact HE.out | exact EnvOk.below HE.out (by repeat (first | (with_reducible first | exact HB.out | apply Yd | apply Yb | apply Yc | refine Yg ?_ (IsS53.ge HI0.out)) | exact HB.out))); rintro e w' ⟨rfl, ⟨nd, rfl⟩⟩; refine ⟨_, rfl, ?_⟩) | (go_at_call 78; (with_reducible refine (Ypa.calls (bt t270 x32_2) false _ ?side1 A17.out).mono ?_); (case side1 => first | exact HE.out | exact EnvOk.below HE.out (by repeat (first | (with_reducible first | exact HB.out | apply Yd | apply Yb | apply Yc | refine Yg ?_ (IsS53.ge HI0.out)) | exact HB.out))); rintro e w' ⟨rfl, ⟨nd, rfl⟩⟩) | (go_at_call 79; (with_reducible refine (strings_IndexByte.calls (⟨#[43, 45, 46]⟩ : ByteArray) (bt t270 x32_2) t277 _ ?side1 A19.out).mono ?_); (case side1 => first | exact HE.out | exact EnvOk.below HE.out (by repeat (first | (with_reducible first | exact HB.out | apply Yd | apply Yb | apply Yc | refine Yg ?_ (IsS53.ge HI0.out)) | exact HB.out))); rintro e w' ⟨rfl, ⟨nd, rfl⟩⟩))
            go_roundg k2
            case measure => have := HJ2.out; have := HK2.out; omega
            case rel => exact ⟨(wrap64 (x32_2 + 1)), (by first | rfl | (simp; done) | (simp [*]; done)), H', ⟨by have := HJ2.out; have := HK2.out; omega⟩, ⟨by repeat (first | (with_reducible first | exact HI0.out | apply IsS53.alloc | apply IsS53.drewN | apply IsS53.drew | apply IsS53.set_0 | apply IsS53.set_1 | apply IsS53.set_2 | apply IsS53.set_3 | apply IsS53.set_4 | apply IsS53.set_5 | apply IsS53.set_6 | apply IsS53.set_7 | apply IsS53.set_8) | exact HI0.out)⟩, ⟨by repeat (first | (with_reducible first | exact HK.out | apply KeepBut.set_ | apply Yla | apply keep_drew | apply keep_alloc) | exact HK.out)⟩, ⟨by repeat (first | (with_reducible first | exact HB.out | apply Yd | apply Yb | apply Yc | refine Yg ?_ (IsS53.ge HI0.out)) | exact HB.out)⟩⟩
        ·rw [if_neg c13] at H
         exact absurd H (by simp)
       ·rw [if_neg c12] at H
        exact absurd H (by simp)
      ·rw [if_neg c11] at H
       have c11b0 : decide (x32_2 < (t270.size : Int)) = false := decide_eq_false c11
       clear c11
       replace H := Option.bind_eq_some_iff.mp H
       obtain ⟨t274, A210, H⟩ := H
       replace H : (if t274.toList = ([104, 116, 116, 112] : List UInt8) then (some (0, t271, t274, s0_2, s0_3, s0_4, s0_5, s0_6, s0_7, s0_8)) else (if t274.toList = ([104, 116, 116, 112, 115] : List UInt8) then (some (0, t271, t274, s0_2, s0_3, s0_4, s0_5, s0_6, s0_7, s0_8)) else (some (16, t271, t274, s0_2, s0_3, s0_4, s0_5, s0_6, s0_7, s0_8)))) = some (r1, r2, r3, r4, r5, r6, r7, r8, r9, r10) := H
       have A21 := Ya.mk A210
       clear A210
       by_cases c22 : t274.toList = ([104, 116, 116, 112] : List UInt8)
       ·rw [if_pos c22] at H
        have c22b0 : (t274.toList == ([104, 116, 116, 112] : List UInt8)) = true := beq_iff_eq.mpr c22
        have c22b1 : (t274.toList != ([104, 116, 116, 112] : List UInt8)) = false := bne_eq_false_iff_eq.mpr c22
        clear c22
        simp only [Option.some.injEq, Prod.mk.injEq] at H
        obtain ⟨rfl, rfl, rfl, rfl, rfl, rfl, rfl, rfl, rfl, rfl⟩ := H
        go_wp2_with (first | ((with_reducible refine Yi (f := 52) rfl ?_); refine Yy (some 55) rfl rfl Tryz.func52 (by kernel_rfl) rfl #[.string t270] rfl (by (try simp only [List.map_toArray, List.map_cons, List.map_nil]); first | done | rfl | (simp only [List.length_drop, List.length_take]; rfl)) ?_; (with_reducible refine (Ytb.calls t270 t274 _ ?side1 A21.out).mono ?_); (case side1 => first | exact HE.out | exact EnvOk.below HE.out (by repeat (first | (with_reducible first | exact HB.out | apply Yd | apply Yb | apply Yc | refine Yg ?_ (IsS53.ge HI0.out)) | exact HB.out))); rintro e w23 ⟨rfl, hb⟩; refine ⟨_, rfl, ?_⟩; have n0_ := Ya.mk (IsS53.below (by repeat (first | (with_reducible first | exact HI0.out | apply IsS53.alloc | apply IsS53.drewN | apply IsS53.drew | apply IsS53.set_0 | apply IsS53.set_1 | apply IsS53.set_2 | apply IsS53.set_3 | apply IsS53.set_4 | apply IsS53.set_5 | apply IsS53.set_6 | apply IsS53.set_7 | apply IsS53.set_8) | exact HI0.out)) hb); have n1_ := Ya.mk (KeepBut.trans (by repeat (first | (with_reducible first | exact HK.out | apply KeepBut.set_ | apply Yla | apply keep_drew | apply keep_alloc) | exact HK.out)) (KeepBut.of_below hb g none) (.inl rfl)); have n2_ := Ya.mk (Ys (by repeat (first | (with_reducible first | exact HB.out | apply Yd | apply Yb | apply Yc | refine Yg ?_ (IsS53.ge HI0.out)) | exact HB.out)) hb); clear HI0; clear HK; clear HB; have HI0 := n0_; have HK := n1_; have HB := n2_; clear n0_ n1_ n2_; (try clear hb); (try clear hb2); (try clear hk); (try clear hi); obtain ⟨HGz24, hgz24⟩ := HI0.out; have hcz24_0 := Yjb HGz24; have hcz24_1 := Yxb HGz24; have hcz24_2 := Ywb HGz24; have hcz24_3 := Yvb HGz24; have hcz24_4 := Yqb HGz24; have hcz24_5 := Ypb HGz24; have hcz24_6 := Ymb HGz24; have hcz24_7 := Yob HGz24; have hcz24_8 := Ynb HGz24; have hfz24_0 := Ye HGz24 0; have hfz24_1 := Ye HGz24 1; have hfz24_2 := Ye HGz24 2; have hfz24_3 := Ye HGz24 3; have hfz24_4 := Ye HGz24 4; have hfz24_5 := Ye HGz24 5; have hfz24_6 := Ye HGz24 6; have hfz24_7 := Ye HGz24 7; have hfz24_8 := Ye HGz24 8; clear HGz24 hgz24))
        go_ret
        exact ⟨by first | rfl | (simp [Yl, Ym] <;> rfl) | (simp [*, Yl, Ym] <;> rfl), by repeat (first | (with_reducible first | exact HI0.out | apply IsS53.alloc | apply IsS53.drewN | apply IsS53.drew | apply IsS53.set_0 | apply IsS53.set_1 | apply IsS53.set_2 | apply IsS53.set_3 | apply IsS53.set_4 | apply IsS53.set_5 | apply IsS53.set_6 | apply IsS53.set_7 | apply IsS53.set_8) | exact HI0.out), by repeat (first | (with_reducible first | exact HB.out | apply Yd | apply Yb | apply Yc | refine Yg ?_ (IsS53.ge HI0.out)) | exact HB.out), by repeat (first | (with_reducible first | exact HK.out | apply KeepBut.set_ | apply Yla | apply keep_drew | apply keep_alloc) | exact HK.out)⟩
       ·rw [if_neg c22] at H
        have c22b0 : (t274.toList == ([104, 116, 116, 112] : List UInt8)) = false := beq_eq_false_iff_ne.mpr c22
        have c22b1 : (t274.toList != ([104, 116, 116, 112] : List UInt8)) = true := bne_iff_ne.mpr c22
        by_cases c25 : t274.toList = ([104, 116, 116, 112, 115] : List UInt8)
        ·rw [if_pos c25] at H
         have c25b0 : (t274.toList == ([104, 116, 116, 112, 115] : List UInt8)) = true := beq_iff_eq.mpr c25
         have c25b1 : (t274.toList != ([104, 116, 116, 112, 115] : List UInt8)) = false := bne_eq_false_iff_eq.mpr c25
         clear c25
         simp only [Option.some.injEq, Prod.mk.injEq] at H
         obtain ⟨rfl, rfl, rfl, rfl, rfl, rfl, rfl, rfl, rfl, rfl⟩ := H
         go_wp2_with (first | ((with_reducible refine Yi (f := 52) rfl ?_); refine Yy (some 55) rfl rfl Tryz.func52 (by kernel_rfl) rfl #[.string t270] rfl (by (try simp only [List.map_toArray, List.map_cons, List.map_nil]); first | done | rfl | (simp only [List.length_drop, List.length_take]; rfl)) ?_; (with_reducible refine (Ytb.calls t270 t274 _ ?side1 A21.out).mono ?_); (case side1 => first | exact HE.out | exact EnvOk.below HE.out (by repeat (first | (with_reducible first | exact HB.out | apply Yd | apply Yb | apply Yc | refine Yg ?_ (IsS53.ge HI0.out)) | exact HB.out))); rintro e w26 ⟨rfl, hb⟩; refine ⟨_, rfl, ?_⟩; have n0_ := Ya.mk (IsS53.below (by repeat (first | (with_reducible first | exact HI0.out | apply IsS53.alloc | apply IsS53.drewN | apply IsS53.drew | apply IsS53.set_0 | apply IsS53.set_1 | apply IsS53.set_2 | apply IsS53.set_3 | apply IsS53.set_4 | apply IsS53.set_5 | apply IsS53.set_6 | apply IsS53.set_7 | apply IsS53.set_8) | exact HI0.out)) hb); have n1_ := Ya.mk (KeepBut.trans (by repeat (first | (with_reducible first | exact HK.out | apply KeepBut.set_ | apply Yla | apply keep_drew | apply keep_alloc) | exact HK.out)) (KeepBut.of_below hb g none) (.inl rfl)); have n2_ := Ya.mk (Ys (by repeat (first | (with_reducible first | exact HB.out | apply Yd | apply Yb | apply Yc | refine Yg ?_ (IsS53.ge HI0.out)) | exact HB.out)) hb); clear HI0; clear HK; clear HB; have HI0 := n0_; have HK := n1_; have HB := n2_; clear n0_ n1_ n2_; (try clear hb); (try clear hb2); (try clear hk); (try clear hi); obtain ⟨HGz27, hgz27⟩ := HI0.out; have hcz27_0 := Yjb HGz27; have hcz27_1 := Yxb HGz27; have hcz27_2 := Ywb HGz27; have hcz27_3 := Yvb HGz27; have hcz27_4 := Yqb HGz27; have hcz27_5 := Ypb HGz27; have hcz27_6 := Ymb HGz27; have hcz27_7 := Yob HGz27; have hcz27_8 := Ynb HGz27; have hfz27_0 := Ye HGz27 0; have hfz27_1 := Ye HGz27 1; have hfz27_2 := Ye HGz27 2; have hfz27_3 := Ye HGz27 3; have hfz27_4 := Ye HGz27 4; have hfz27_5 := Ye HGz27 5; have hfz27_6 := Ye HGz27 6; have hfz27_7 := Ye HGz27 7; have hfz27_8 := Ye HGz27 8; clear HGz27 hgz27))
         go_ret
         exact ⟨by first | rfl | (simp [Yl, Ym] <;> rfl) | (simp [*, Yl, Ym] <;> rfl), by repeat (first | (with_reducible first | exact HI0.out | apply IsS53.alloc | apply IsS53.drewN | apply IsS53.drew | apply IsS53.set_0 | apply IsS53.set_1 | apply IsS53.set_2 | apply IsS53.set_3 | apply IsS53.set_4 | apply IsS53.set_5 | apply IsS53.set_6 | apply IsS53.set_7 | apply IsS53.set_8) | exact HI0.out), by repeat (first | (with_reducible first | exact HB.out | apply Yd | apply Yb | apply Yc | refine Yg ?_ (IsS53.ge HI0.out)) | exact HB.out), by repeat (first | (with_reducible first | exact HK.out | apply KeepBut.set_ | apply Yla | apply keep_drew | apply keep_alloc) | exact HK.out)⟩
        ·rw [if_neg c25] at H
         have c25b0 : (t274.toList == ([104, 116, 116, 112, 115] : List UInt8)) = false := beq_eq_false_iff_ne.mpr c25
         have c25b1 : (t274.toList != ([104, 116, 116, 112, 115] : List UInt8)) = true := bne_iff_ne.mpr c25
         simp only [Option.some.injEq, Prod.mk.injEq] at H
         obtain ⟨rfl, rfl, rfl, rfl, rfl, rfl, rfl, rfl, rfl, rfl⟩ := H
         go_wp2_with (first | ((with_reducible refine Yi (f := 52) rfl ?_); refine Yy (some 55) rfl rfl Tryz.func52 (by kernel_rfl) rfl #[.string t270] rfl (by (try simp only [List.map_toArray, List.map_cons, List.map_nil]); first | done | rfl | (simp only [List.length_drop, List.length_take]; rfl)) ?_; (with_reducible refine (Ytb.calls t270 t274 _ ?side1 A21.out).mono ?_); (case side1 => first | exact HE.out | exact EnvOk.below HE.out (by repeat (first | (with_reducible first | exact HB.out | apply Yd | apply Yb | apply Yc | refine Yg ?_ (IsS53.ge HI0.out)) | exact HB.out))); rintro e w28 ⟨rfl, hb⟩; refine ⟨_, rfl, ?_⟩; have n0_ := Ya.mk (IsS53.below (by repeat (first | (with_reducible first | exact HI0.out | apply IsS53.alloc | apply IsS53.drewN | apply IsS53.drew | apply IsS53.set_0 | apply IsS53.set_1 | apply IsS53.set_2 | apply IsS53.set_3 | apply IsS53.set_4 | apply IsS53.set_5 | apply IsS53.set_6 | apply IsS53.set_7 | apply IsS53.set_8) | exact HI0.out)) hb); have n1_ := Ya.mk (KeepBut.trans (by repeat (first | (with_reducible first | exact HK.out | apply KeepBut.set_ | apply Yla | apply keep_drew | apply keep_alloc) | exact HK.out)) (KeepBut.of_below hb g none) (.inl rfl)); have n2_ := Ya.mk (Ys (by repeat (first | (with_reducible first | exact HB.out | apply Yd | apply Yb | apply Yc | refine Yg ?_ (IsS53.ge HI0.out)) | exact HB.out)) hb); clear HI0; clear HK; clear HB; have HI0 := n0_; have HK := n1_; have HB := n2_; clear n0_ n1_ n2_; (try clear hb); (try clear hb2); (try clear hk); (try clear hi); obtain ⟨HGz29, hgz29⟩ := HI0.out; have hcz29_0 := Yjb HGz29; have hcz29_1 := Yxb HGz29; have hcz29_2 := Ywb HGz29; have hcz29_3 := Yvb HGz29; have hcz29_4 := Yqb HGz29; have hcz29_5 := Ypb HGz29; have hcz29_6 := Ymb HGz29; have hcz29_7 := Yob HGz29; have hcz29_8 := Ynb HGz29; have hfz29_0 := Ye HGz29 0; have hfz29_1 := Ye HGz29 1; have hfz29_2 := Ye HGz29 2; have hfz29_3 := Ye HGz29 3; have hfz29_4 := Ye HGz29 4; have hfz29_5 := Ye HGz29 5; have hfz29_6 := Ye HGz29 6; have hfz29_7 := Ye HGz29 7; have hfz29_8 := Ye HGz29 8; clear HGz29 hgz29))
         go_ret
         exact ⟨by first | rfl | (simp [Yl, Ym] <;> rfl) | (simp [*, Yl, Ym] <;> rfl), by repeat (first | (with_reducible first | exact HI0.out | apply IsS53.alloc | apply IsS53.drewN | apply IsS53.drew | apply IsS53.set_0 | apply IsS53.set_1 | apply IsS53.set_2 | apply IsS53.set_3 | apply IsS53.set_4 | apply IsS53.set_5 | apply IsS53.set_6 | apply IsS53.set_7 | apply IsS53.set_8) | exact HI0.out), by repeat (first | (with_reducible first | exact HB.out | apply Yd | apply Yb | apply Yc | refine Yg ?_ (IsS53.ge HI0.out)) | exact HB.out), by repeat (first | (with_reducible first | exact HK.out | apply KeepBut.set_ | apply Yla | apply keep_drew | apply keep_alloc) | exact HK.out)⟩
def Yqd.f (k : Nat) (a0 : ByteArray) : Option (ByteArray × Int) := (Ywc.f a0).bind fun t278 => ((Ytb.f t278).bind fun t279 => (if t279.toList = ([] : List UInt8) then (some ((⟨#[]⟩ : ByteArray), 4)) else ((Ydb.f k t279).bind fun t280 => (if t280 = true then (some (t279, 0)) else (some ((⟨#[]⟩ : ByteArray), 17))))))
set_option maxHeartbeats 8000000 in
set_option maxRecDepth 100000 in
theorem Yqd.calls (k : Nat) (a0 : ByteArray) (r1 : ByteArray) (r2 : Int) (w : World) (hE : EnvOk w) (h : Yqd.f k a0 = some (r1, r2)) :
  Calls Tryz.prog 19 #[.string a0] w fun e w' => e = .returned (.tuple #[.string r1, .int .i64 r2]) ∧ Below w.heap.size w w' := by
 have HE := Ya.mk hE
 clear hE
 have HB := Ya.mk (Below.refl w.heap.size w)
 have H : ((Ywc.f a0).bind fun t278 => ((Ytb.f t278).bind fun t279 => (if t279.toList = ([] : List UInt8) then (some ((⟨#[]⟩ : ByteArray), 4)) else ((Ydb.f k t279).bind fun t280 => (if t280 = true then (some (t279, 0)) else (some ((⟨#[]⟩ : ByteArray), 17))))))) = some (r1, r2) := h
 clear h
 replace H := Option.bind_eq_some_iff.mp H
 obtain ⟨t278, A20, H⟩ := H
 replace H : ((Ytb.f t278).bind fun t279 => (if t279.toList = ([] : List UInt8) then (some ((⟨#[]⟩ : ByteArray), 4)) else ((Ydb.f k t279).bind fun t280 => (if t280 = true then (some (t279, 0)) else (some ((⟨#[]⟩ : ByteArray), 17)))))) = some (r1, r2) := H
 have A2 := Ya.mk A20
 clear A20
 replace H := Option.bind_eq_some_iff.mp H
 obtain ⟨t279, A30, H⟩ := H
 replace H : (if t279.toList = ([] : List UInt8) then (some ((⟨#[]⟩ : ByteArray), 4)) else ((Ydb.f k t279).bind fun t280 => (if t280 = true then (some (t279, 0)) else (some ((⟨#[]⟩ : ByteArray), 17))))) = some (r1, r2) := H
 have A3 := Ya.mk A30
 clear A30
 by_cases c4 : t279.toList = ([] : List UInt8)
 ·rw [if_pos c4] at H
  have c4b0 : (t279.toList == ([] : List UInt8)) = true := beq_iff_eq.mpr c4
  have c4b1 : (t279.toList != ([] : List UInt8)) = false := bne_eq_false_iff_eq.mpr c4
  clear c4
  simp only [Option.some.injEq, Prod.mk.injEq] at H
  obtain ⟨rfl, rfl⟩ := H
  go_enter Tryz.func19, Tryz.ntmps19
  go_wp2_with (first | ((with_reducible refine Yi (f := 53) rfl ?_); refine Yy (some 5) rfl rfl Tryz.func53 (by kernel_rfl) rfl #[.string a0] rfl (by (try simp only [List.map_toArray, List.map_cons, List.map_nil]); first | done | rfl | (simp only [List.length_drop, List.length_take]; rfl)) ?_; (with_reducible refine (Ywc.calls a0 t278 _ ?side1 A2.out).mono ?_); (case side1 => first | exact HE.out | exact EnvOk.below HE.out (by repeat (first | (with_reducible first | exact HB.out | apply Yd | apply Yb | apply Yc) | exact HB.out))); rintro e w5 ⟨rfl, hb⟩; refine ⟨_, rfl, ?_⟩; have n0_ := Ya.mk (Ys (by repeat (first | (with_reducible first | exact HB.out | apply Yd | apply Yb | apply Yc) | exact HB.out)) hb); clear HB; have HB := n0_; clear n0_; (try clear hb); (try clear hb2); (try clear hk); (try clear hi)) | ((with_reducible refine Yi (f := 52) rfl ?_); refine Yy (some 6) rfl rfl Tryz.func52 (by kernel_rfl) rfl #[.string t278] rfl (by (try simp only [List.map_toArray, List.map_cons, List.map_nil]); first | done | rfl | (simp only [List.length_drop, List.length_take]; rfl)) ?_; (with_reducible refine (Ytb.calls t278 t279 _ ?side1 A3.out).mono ?_); (case side1 => first | exact HE.out | exact EnvOk.below HE.out (by repeat (first | (with_reducible first | exact HB.out | apply Yd | apply Yb | apply Yc) | exact HB.out))); rintro e w6 ⟨rfl, hb⟩; refine ⟨_, rfl, ?_⟩; have n0_ := Ya.mk (Ys (by repeat (first | (with_reducible first | exact HB.out | apply Yd | apply Yb | apply Yc) | exact HB.out)) hb); clear HB; have HB := n0_; clear n0_; (try clear hb); (try clear hb2); (try clear hk); (try clear hi)))
  go_ret2
  exact ⟨by first | rfl | (simp [Yl, Ym] <;> rfl) | (simp [*, Yl, Ym] <;> rfl), by repeat (first | (with_reducible first | exact HB.out | apply Yd | apply Yb | apply Yc) | exact HB.out)⟩
 ·rw [if_neg c4] at H
  have c4b0 : (t279.toList == ([] : List UInt8)) = false := beq_eq_false_iff_ne.mpr c4
  have c4b1 : (t279.toList != ([] : List UInt8)) = true := bne_iff_ne.mpr c4
  replace H := Option.bind_eq_some_iff.mp H
  obtain ⟨t280, A70, H⟩ := H
  replace H : (if t280 = true then (some (t279, 0)) else (some ((⟨#[]⟩ : ByteArray), 17))) = some (r1, r2) := H
  have A7 := Ya.mk A70
  clear A70
  by_cases c8 : t280 = true
  ·subst c8
   have H1 : (some (t279, 0)) = some (r1, r2) := by rw [if_pos rfl] at H; exact H
   clear H
   have H := H1
   clear H1
   simp only [Option.some.injEq, Prod.mk.injEq] at H
   obtain ⟨rfl, rfl⟩ := H
   go_enter Tryz.func19, Tryz.ntmps19
   go_wp2_with (first | ((with_reducible refine Yi (f := 53) rfl ?_); refine Yy (some 5) rfl rfl Tryz.func53 (by kernel_rfl) rfl #[.string a0] rfl (by (try simp only [List.map_toArray, List.map_cons, List.map_nil]); first | done | rfl | (simp only [List.length_drop, List.length_take]; rfl)) ?_; (with_reducible refine (Ywc.calls a0 t278 _ ?side1 A2.out).mono ?_); (case side1 => first | exact HE.out | exact EnvOk.below HE.out (by repeat (first | (with_reducible first | exact HB.out | apply Yd | apply Yb | apply Yc) | exact HB.out))); rintro e w9 ⟨rfl, hb⟩; refine ⟨_, rfl, ?_⟩; have n0_ := Ya.mk (Ys (by repeat (first | (with_reducible first | exact HB.out | apply Yd | apply Yb | apply Yc) | exact HB.out)) hb); clear HB; have HB := n0_; clear n0_; (try clear hb); (try clear hb2); (try clear hk); (try clear hi)) | ((with_reducible refine Yi (f := 52) rfl ?_); refine Yy (some 6) rfl rfl Tryz.func52 (by kernel_rfl) rfl #[.string t278] rfl (by (try simp only [List.map_toArray, List.map_cons, List.map_nil]); first | done | rfl | (simp only [List.length_drop, List.length_take]; rfl)) ?_; (with_reducible refine (Ytb.calls t278 t279 _ ?side1 A3.out).mono ?_); (case side1 => first | exact HE.out | exact EnvOk.below HE.out (by repeat (first | (with_reducible first | exact HB.out | apply Yd | apply Yb | apply Yc) | exact HB.out))); rintro e w10 ⟨rfl, hb⟩; refine ⟨_, rfl, ?_⟩; have n0_ := Ya.mk (Ys (by repeat (first | (with_reducible first | exact HB.out | apply Yd | apply Yb | apply Yc) | exact HB.out)) hb); clear HB; have HB := n0_; clear n0_; (try clear hb); (try clear hb2); (try clear hk); (try clear hi)) | ((with_reducible refine Yi (f := 54) rfl ?_); refine Yy (some 12) rfl rfl Tryz.func54 (by kernel_rfl) rfl #[.string t279] rfl (by (try simp only [List.map_toArray, List.map_cons, List.map_nil]); first | done | rfl | (simp only [List.length_drop, List.length_take]; rfl)) ?_; (with_reducible refine (Ydb.calls k t279 true _ ?side1 A7.out).mono ?_); (case side1 => first | exact HE.out | exact EnvOk.below HE.out (by repeat (first | (with_reducible first | exact HB.out | apply Yd | apply Yb | apply Yc) | exact HB.out))); rintro e w11 ⟨rfl, hb⟩; refine ⟨_, rfl, ?_⟩; have n0_ := Ya.mk (Ys (by repeat (first | (with_reducible first | exact HB.out | apply Yd | apply Yb | apply Yc) | exact HB.out)) hb); clear HB; have HB := n0_; clear n0_; (try clear hb); (try clear hb2); (try clear hk); (try clear hi)))
   go_ret2
   exact ⟨by first | rfl | (simp [Yl, Ym] <;> rfl) | (simp [*, Yl, Ym] <;> rfl), by repeat (first | (with_reducible first | exact HB.out | apply Yd | apply Yb | apply Yc) | exact HB.out)⟩
  ·replace c8 := Bool.eq_false_iff.mpr c8
   subst c8
   have H1 : (some ((⟨#[]⟩ : ByteArray), 17)) = some (r1, r2) := by rw [if_neg (show ¬ (false = true) by decide)] at H; exact H
   clear H
   have H := H1
   clear H1
   simp only [Option.some.injEq, Prod.mk.injEq] at H
   obtain ⟨rfl, rfl⟩ := H
   go_enter Tryz.func19, Tryz.ntmps19
   go_wp2_with (first | ((with_reducible refine Yi (f := 53) rfl ?_); refine Yy (some 5) rfl rfl Tryz.func53 (by kernel_rfl) rfl #[.string a0] rfl (by (try simp only [List.map_toArray, List.map_cons, List.map_nil]); first | done | rfl | (simp only [List.length_drop, List.length_take]; rfl)) ?_; (with_reducible refine (Ywc.calls a0 t278 _ ?side1 A2.out).mono ?_); (case side1 => first | exact HE.out | exact EnvOk.below HE.out (by repeat (first | (with_reducible first | exact HB.out | apply Yd | apply Yb | apply Yc) | exact HB.out))); rintro e w12 ⟨rfl, hb⟩; refine ⟨_, rfl, ?_⟩; have n0_ := Ya.mk (Ys (by repeat (first | (with_reducible first | exact HB.out | apply Yd | apply Yb | apply Yc) | exact HB.out)) hb); clear HB; have HB := n0_; clear n0_; (try clear hb); (try clear hb2); (try clear hk); (try clear hi)) | ((with_reducible refine Yi (f := 52) rfl ?_); refine Yy (some 6) rfl rfl Tryz.func52 (by kernel_rfl) rfl #[.string t278] rfl (by (try simp only [List.map_toArray, List.map_cons, List.map_nil]); first | done | rfl | (simp only [List.length_drop, List.length_take]; rfl)) ?_; (with_reducible refine (Ytb.calls t278 t279 _ ?side1 A3.out).mono ?_); (case side1 => first | exact HE.out | exact EnvOk.below HE.out (by repeat (first | (with_reducible first | exact HB.out | apply Yd | apply Yb | apply Yc) | exact HB.out))); rintro e w13 ⟨rfl, hb⟩; refine ⟨_, rfl, ?_⟩; have n0_ := Ya.mk (Ys (by repeat (first | (with_reducible first | exact HB.out | apply Yd | apply Yb | apply Yc) | exact HB.out)) hb); clear HB; have HB := n0_; clear n0_; (try clear hb); (try clear hb2); (try clear hk); (try clear hi)) | ((with_reducible refine Yi (f := 54) rfl ?_); refine Yy (some 12) rfl rfl Tryz.func54 (by kernel_rfl) rfl #[.string t279] rfl (by (try simp only [List.map_toArray, List.map_cons, List.map_nil]); first | done | rfl | (simp only [List.length_drop, List.length_take]; rfl)) ?_; (with_reducible refine (Ydb.calls k t279 false _ ?side1 A7.out).mono ?_); (case side1 => first | exact HE.out | exact EnvOk.below HE.out (by repeat (first | (with_reducible first | exact HB.out | apply Yd | apply Yb | apply Yc) | exact HB.out))); rintro e w14 ⟨rfl, hb⟩; refine ⟨_, rfl, ?_⟩; have n0_ := Ya.mk (Ys (by repeat (first | (with_reducible first | exact HB.out | apply Yd | apply Yb | apply Yc) | exact HB.out)) hb); clear HB; have HB := n0_; clear n0_; (try clear hb); (try clear hb2); (try clear hk); (try clear hi)))
   go_ret2
   exact ⟨by first | rfl | (simp [Yl, Ym] <;> rfl) | (simp [*, Yl, Ym] <;> rfl), by repeat (first | (with_reducible first | exact HB.out | apply Yd | apply Yb | apply Yc) | exact HB.out)⟩
def Yee.f (k : Nat) (s0_0 : ByteArray) (s0_1 : ByteArray) (s0_2 : ByteArray) (s0_3 : Int) (s0_4 : ByteArray) (s0_5 : ByteArray) (s0_6 : ByteArray) (s0_7 : Bool) (s0_8 : Bool) : Option (Int × ByteArray × ByteArray × ByteArray × Int × ByteArray × ByteArray × ByteArray × Bool × Bool) := (strings_IndexAny.f s0_0 (⟨#[47, 92]⟩ : ByteArray)).bind fun t281 => (if t281 = 0 then ((Yub.f s0_0 (⟨#[47, 92]⟩ : ByteArray)).bind fun t282 => ((Ylb.f t282 s0_1 s0_2 s0_3 s0_4 s0_5 s0_6 s0_7 s0_8 (⟨#[47, 92, 63, 35]⟩ : ByteArray)).bind fun bt283 => ((strings_IndexByte.f bt283.1 64).bind fun t293 => (if t293 ≥ 0 then (some (3, bt283.2.1, bt283.2.2.1, bt283.2.2.2.1, bt283.2.2.2.2.1, bt283.2.2.2.2.2.1, bt283.2.2.2.2.2.2.1, bt283.2.2.2.2.2.2.2.1, bt283.2.2.2.2.2.2.2.2.1, bt283.2.2.2.2.2.2.2.2.2)) else ((strings_Cut.f bt283.1 (⟨#[58]⟩ : ByteArray)).bind fun bt294 => ((Yqd.f k bt294.1).bind fun bt297 => (if bt297.2 = 0 then (if bt294.2.1.toList = ([] : List UInt8) then (some (0, bt283.2.1, bt283.2.2.1, bt297.1, bt283.2.2.2.2.1, bt283.2.2.2.2.2.1, bt283.2.2.2.2.2.2.1, bt283.2.2.2.2.2.2.2.1, bt283.2.2.2.2.2.2.2.2.1, bt283.2.2.2.2.2.2.2.2.2)) else ((Yz.f k bt294.2.1 65535).bind fun bt299 => (if bt299.2 = 0 then ((Yye.f bt283.2.2.1).bind fun t301 => (if bt299.1 = t301 then (some (0, bt283.2.1, bt283.2.2.1, bt297.1, bt283.2.2.2.2.1, bt283.2.2.2.2.2.1, bt283.2.2.2.2.2.2.1, bt283.2.2.2.2.2.2.2.1, bt283.2.2.2.2.2.2.2.2.1, bt283.2.2.2.2.2.2.2.2.2)) else (some (0, bt283.2.1, bt283.2.2.1, bt297.1, bt299.1, bt283.2.2.2.2.2.1, bt283.2.2.2.2.2.2.1, bt283.2.2.2.2.2.2.2.1, bt283.2.2.2.2.2.2.2.2.1, bt283.2.2.2.2.2.2.2.2.2)))) else (some (3, bt283.2.1, bt283.2.2.1, bt297.1, bt283.2.2.2.2.1, bt283.2.2.2.2.2.1, bt283.2.2.2.2.2.2.1, bt283.2.2.2.2.2.2.2.1, bt283.2.2.2.2.2.2.2.2.1, bt283.2.2.2.2.2.2.2.2.2))))) else (some (bt297.2, bt283.2.1, bt283.2.2.1, bt283.2.2.2.1, bt283.2.2.2.2.1, bt283.2.2.2.2.2.1, bt283.2.2.2.2.2.2.1, bt283.2.2.2.2.2.2.2.1, bt283.2.2.2.2.2.2.2.2.1, bt283.2.2.2.2.2.2.2.2.2))))))))) else (some (3, s0_0, s0_1, s0_2, s0_3, s0_4, s0_5, s0_6, s0_7, s0_8)))
set_option maxHeartbeats 8000000 in
set_option maxRecDepth 100000 in
theorem Yee.calls (k : Nat) (g : Nat) (s0_0 : ByteArray) (s0_1 : ByteArray) (s0_2 : ByteArray) (s0_3 : Int) (s0_4 : ByteArray) (s0_5 : ByteArray) (s0_6 : ByteArray) (s0_7 : Bool) (s0_8 : Bool) (r1 : Int) (r2 : ByteArray) (r3 : ByteArray) (r4 : ByteArray) (r5 : Int) (r6 : ByteArray) (r7 : ByteArray) (r8 : ByteArray) (r9 : Bool) (r10 : Bool) (w0 w : World) (hE : EnvOk w0) (hI : IsS53 w0 w g s0_0 s0_1 s0_2 s0_3 s0_4 s0_5 s0_6 s0_7 s0_8) (hB : Below w0.heap.size w0 w) (h : Yee.f k s0_0 s0_1 s0_2 s0_3 s0_4 s0_5 s0_6 s0_7 s0_8 = some (r1, r2, r3, r4, r5, r6, r7, r8, r9, r10)) :
  Calls Tryz.prog 44 #[.pointer (some ⟨g, 0, none⟩)] w fun e w' => e = .returned (.int .i64 r1) ∧ IsS53 w0 w' g r2 r3 r4 r5 r6 r7 r8 r9 r10 ∧ Below w0.heap.size w0 w' ∧ KeepBut w w' g none := by
 have HI0 := Ya.mk hI
 have HK := Ya.mk (KeepBut.refl w g none)
 have HL := Ya.mk hB.size
 clear hI
 have HE := Ya.mk hE
 clear hE
 have HW0 := Ya.mk hB.size
 have HB := Ya.mk hB
 clear hB
 have H : ((strings_IndexAny.f s0_0 (⟨#[47, 92]⟩ : ByteArray)).bind fun t281 => (if t281 = 0 then ((Yub.f s0_0 (⟨#[47, 92]⟩ : ByteArray)).bind fun t282 => ((Ylb.f t282 s0_1 s0_2 s0_3 s0_4 s0_5 s0_6 s0_7 s0_8 (⟨#[47, 92, 63, 35]⟩ : ByteArray)).bind fun bt283 => ((strings_IndexByte.f bt283.1 64).bind fun t293 => (if t293 ≥ 0 then (some (3, bt283.2.1, bt283.2.2.1, bt283.2.2.2.1, bt283.2.2.2.2.1, bt283.2.2.2.2.2.1, bt283.2.2.2.2.2.2.1, bt283.2.2.2.2.2.2.2.1, bt283.2.2.2.2.2.2.2.2.1, bt283.2.2.2.2.2.2.2.2.2)) else ((strings_Cut.f bt283.1 (⟨#[58]⟩ : ByteArray)).bind fun bt294 => ((Yqd.f k bt294.1).bind fun bt297 => (if bt297.2 = 0 then (if bt294.2.1.toList = ([] : List UInt8) then (some (0, bt283.2.1, bt283.2.2.1, bt297.1, bt283.2.2.2.2.1, bt283.2.2.2.2.2.1, bt283.2.2.2.2.2.2.1, bt283.2.2.2.2.2.2.2.1, bt283.2.2.2.2.2.2.2.2.1, bt283.2.2.2.2.2.2.2.2.2)) else ((Yz.f k bt294.2.1 65535).bind fun bt299 => (if bt299.2 = 0 then ((Yye.f bt283.2.2.1).bind fun t301 => (if bt299.1 = t301 then (some (0, bt283.2.1, bt283.2.2.1, bt297.1, bt283.2.2.2.2.1, bt283.2.2.2.2.2.1, bt283.2.2.2.2.2.2.1, bt283.2.2.2.2.2.2.2.1, bt283.2.2.2.2.2.2.2.2.1, bt283.2.2.2.2.2.2.2.2.2)) else (some (0, bt283.2.1, bt283.2.2.1, bt297.1, bt299.1, bt283.2.2.2.2.2.1, bt283.2.2.2.2.2.2.1, bt283.2.2.2.2.2.2.2.1, bt283.2.2.2.2.2.2.2.2.1, bt283.2.2.2.2.2.2.2.2.2)))) else (some (3, bt283.2.1, bt283.2.2.1, bt297.1, bt283.2.2.2.2.1, bt283.2.2.2.2.2.1, bt283.2.2.2.2.2.2.1, bt283.2.2.2.2.2.2.2.1, bt283.2.2.2.2.2.2.2.2.1, bt283.2.2.2.2.2.2.2.2.2))))) else (some (bt297.2, bt283.2.1, bt283.2.2.1, bt283.2.2.2.1, bt283.2.2.2.2.1, bt283.2.2.2.2.2.1, bt283.2.2.2.2.2.2.1, bt283.2.2.2.2.2.2.2.1, bt283.2.2.2.2.2.2.2.2.1, bt283.2.2.2.2.2.2.2.2.2))))))))) else (some (3, s0_0, s0_1, s0_2, s0_3, s0_4, s0_5, s0_6, s0_7, s0_8)))) = some (r1, r2, r3, r4, r5, r6, r7, r8, r9, r10) := h
 clear h
 replace H := Option.bind_eq_some_iff.mp H
 obtain ⟨t281, A20, H⟩ := H
 replace H : (if t281 = 0 then ((Yub.f s0_0 (⟨#[47, 92]⟩ : ByteArray)).bind fun t282 => ((Ylb.f t282 s0_1 s0_2 s0_3 s0_4 s0_5 s0_6 s0_7 s0_8 (⟨#[47, 92, 63, 35]⟩ : ByteArray)).bind fun bt283 => ((strings_IndexByte.f bt283.1 64).bind fun t293 => (if t293 ≥ 0 then (some (3, bt283.2.1, bt283.2.2.1, bt283.2.2.2.1, bt283.2.2.2.2.1, bt283.2.2.2.2.2.1, bt283.2.2.2.2.2.2.1, bt283.2.2.2.2.2.2.2.1, bt283.2.2.2.2.2.2.2.2.1, bt283.2.2.2.2.2.2.2.2.2)) else ((strings_Cut.f bt283.1 (⟨#[58]⟩ : ByteArray)).bind fun bt294 => ((Yqd.f k bt294.1).bind fun bt297 => (if bt297.2 = 0 then (if bt294.2.1.toList = ([] : List UInt8) then (some (0, bt283.2.1, bt283.2.2.1, bt297.1, bt283.2.2.2.2.1, bt283.2.2.2.2.2.1, bt283.2.2.2.2.2.2.1, bt283.2.2.2.2.2.2.2.1, bt283.2.2.2.2.2.2.2.2.1, bt283.2.2.2.2.2.2.2.2.2)) else ((Yz.f k bt294.2.1 65535).bind fun bt299 => (if bt299.2 = 0 then ((Yye.f bt283.2.2.1).bind fun t301 => (if bt299.1 = t301 then (some (0, bt283.2.1, bt283.2.2.1, bt297.1, bt283.2.2.2.2.1, bt283.2.2.2.2.2.1, bt283.2.2.2.2.2.2.1, bt283.2.2.2.2.2.2.2.1, bt283.2.2.2.2.2.2.2.2.1, bt283.2.2.2.2.2.2.2.2.2)) else (some (0, bt283.2.1, bt283.2.2.1, bt297.1, bt299.1, bt283.2.2.2.2.2.1, bt283.2.2.2.2.2.2.1, bt283.2.2.2.2.2.2.2.1, bt283.2.2.2.2.2.2.2.2.1, bt283.2.2.2.2.2.2.2.2.2)))) else (some (3, bt283.2.1, bt283.2.2.1, bt297.1, bt283.2.2.2.2.1, bt283.2.2.2.2.2.1, bt283.2.2.2.2.2.2.1, bt283.2.2.2.2.2.2.2.1, bt283.2.2.2.2.2.2.2.2.1, bt283.2.2.2.2.2.2.2.2.2))))) else (some (bt297.2, bt283.2.1, bt283.2.2.1, bt283.2.2.2.1, bt283.2.2.2.2.1, bt283.2.2.2.2.2.1, bt283.2.2.2.2.2.2.1, bt283.2.2.2.2.2.2.2.1, bt283.2.2.2.2.2.2.2.2.1, bt283.2.2.2.2.2.2.2.2.2))))))))) else (some (3, s0_0, s0_1, s0_2, s0_3, s0_4, s0_5, s0_6, s0_7, s0_8))) = some (r1, r2, r3, r4, r5, r6, r7, r8, r9, r10) := H
 have A2 := Ya.mk A20
 clear A20
 by_cases c3 : t281 = 0
 ·rw [if_pos c3] at H
  have c3b0 : (t281 == 0) = true := beq_iff_eq.mpr c3
  have c3b1 : (t281 != 0) = false := bne_eq_false_iff_eq.mpr c3
  clear c3
  replace H := Option.bind_eq_some_iff.mp H
  obtain ⟨t282, A40, H⟩ := H
  replace H : ((Ylb.f t282 s0_1 s0_2 s0_3 s0_4 s0_5 s0_6 s0_7 s0_8 (⟨#[47, 92, 63, 35]⟩ : ByteArray)).bind fun bt283 => ((strings_IndexByte.f bt283.1 64).bind fun t293 => (if t293 ≥ 0 then (some (3, bt283.2.1, bt283.2.2.1, bt283.2.2.2.1, bt283.2.2.2.2.1, bt283.2.2.2.2.2.1, bt283.2.2.2.2.2.2.1, bt283.2.2.2.2.2.2.2.1, bt283.2.2.2.2.2.2.2.2.1, bt283.2.2.2.2.2.2.2.2.2)) else ((strings_Cut.f bt283.1 (⟨#[58]⟩ : ByteArray)).bind fun bt294 => ((Yqd.f k bt294.1).bind fun bt297 => (if bt297.2 = 0 then (if bt294.2.1.toList = ([] : List UInt8) then (some (0, bt283.2.1, bt283.2.2.1, bt297.1, bt283.2.2.2.2.1, bt283.2.2.2.2.2.1, bt283.2.2.2.2.2.2.1, bt283.2.2.2.2.2.2.2.1, bt283.2.2.2.2.2.2.2.2.1, bt283.2.2.2.2.2.2.2.2.2)) else ((Yz.f k bt294.2.1 65535).bind fun bt299 => (if bt299.2 = 0 then ((Yye.f bt283.2.2.1).bind fun t301 => (if bt299.1 = t301 then (some (0, bt283.2.1, bt283.2.2.1, bt297.1, bt283.2.2.2.2.1, bt283.2.2.2.2.2.1, bt283.2.2.2.2.2.2.1, bt283.2.2.2.2.2.2.2.1, bt283.2.2.2.2.2.2.2.2.1, bt283.2.2.2.2.2.2.2.2.2)) else (some (0, bt283.2.1, bt283.2.2.1, bt297.1, bt299.1, bt283.2.2.2.2.2.1, bt283.2.2.2.2.2.2.1, bt283.2.2.2.2.2.2.2.1, bt283.2.2.2.2.2.2.2.2.1, bt283.2.2.2.2.2.2.2.2.2)))) else (some (3, bt283.2.1, bt283.2.2.1, bt297.1, bt283.2.2.2.2.1, bt283.2.2.2.2.2.1, bt283.2.2.2.2.2.2.1, bt283.2.2.2.2.2.2.2.1, bt283.2.2.2.2.2.2.2.2.1, bt283.2.2.2.2.2.2.2.2.2))))) else (some (bt297.2, bt283.2.1, bt283.2.2.1, bt283.2.2.2.1, bt283.2.2.2.2.1, bt283.2.2.2.2.2.1, bt283.2.2.2.2.2.2.1, bt283.2.2.2.2.2.2.2.1, bt283.2.2.2.2.2.2.2.2.1, bt283.2.2.2.2.2.2.2.2.2)))))))) = some (r1, r2, r3, r4, r5, r6, r7, r8, r9, r10) := H
  have A4 := Ya.mk A40
  clear A40
  replace H := Option.bind_eq_some_iff.mp H
  obtain ⟨⟨t283, t284, t285, t286, t287, t288, t289, t290, t291, t292⟩, A50, H⟩ := H
  replace H : ((strings_IndexByte.f t283 64).bind fun t293 => (if t293 ≥ 0 then (some (3, t284, t285, t286, t287, t288, t289, t290, t291, t292)) else ((strings_Cut.f t283 (⟨#[58]⟩ : ByteArray)).bind fun bt294 => ((Yqd.f k bt294.1).bind fun bt297 => (if bt297.2 = 0 then (if bt294.2.1.toList = ([] : List UInt8) then (some (0, t284, t285, bt297.1, t287, t288, t289, t290, t291, t292)) else ((Yz.f k bt294.2.1 65535).bind fun bt299 => (if bt299.2 = 0 then ((Yye.f t285).bind fun t301 => (if bt299.1 = t301 then (some (0, t284, t285, bt297.1, t287, t288, t289, t290, t291, t292)) else (some (0, t284, t285, bt297.1, bt299.1, t288, t289, t290, t291, t292)))) else (some (3, t284, t285, bt297.1, t287, t288, t289, t290, t291, t292))))) else (some (bt297.2, t284, t285, t286, t287, t288, t289, t290, t291, t292))))))) = some (r1, r2, r3, r4, r5, r6, r7, r8, r9, r10) := H
  have A5 := Ya.mk A50
  clear A50
  replace H := Option.bind_eq_some_iff.mp H
  obtain ⟨t293, A60, H⟩ := H
  replace H : (if t293 ≥ 0 then (some (3, t284, t285, t286, t287, t288, t289, t290, t291, t292)) else ((strings_Cut.f t283 (⟨#[58]⟩ : ByteArray)).bind fun bt294 => ((Yqd.f k bt294.1).bind fun bt297 => (if bt297.2 = 0 then (if bt294.2.1.toList = ([] : List UInt8) then (some (0, t284, t285, bt297.1, t287, t288, t289, t290, t291, t292)) else ((Yz.f k bt294.2.1 65535).bind fun bt299 => (if bt299.2 = 0 then ((Yye.f t285).bind fun t301 => (if bt299.1 = t301 then (some (0, t284, t285, bt297.1, t287, t288, t289, t290, t291, t292)) else (some (0, t284, t285, bt297.1, bt299.1, t288, t289, t290, t291, t292)))) else (some (3, t284, t285, bt297.1, t287, t288, t289, t290, t291, t292))))) else (some (bt297.2, t284, t285, t286, t287, t288, t289, t290, t291, t292)))))) = some (r1, r2, r3, r4, r5, r6, r7, r8, r9, r10) := H
  have A6 := Ya.mk A60
  clear A60
  by_cases c7 : t293 ≥ 0
  ·rw [if_pos c7] at H
   have c7b0 : decide (0 ≤ t293) = true := decide_eq_true c7
   clear c7
   simp only [Option.some.injEq, Prod.mk.injEq] at H
   obtain ⟨rfl, rfl, rfl, rfl, rfl, rfl, rfl, rfl, rfl, rfl⟩ := H
   obtain ⟨HGz8, hgz8⟩ := HI0.out
   have hcz8_0 := Yjb HGz8
   have hcz8_1 := Yxb HGz8
   have hcz8_2 := Ywb HGz8
   have hcz8_3 := Yvb HGz8
   have hcz8_4 := Yqb HGz8
   have hcz8_5 := Ypb HGz8
   have hcz8_6 := Ymb HGz8
   have hcz8_7 := Yob HGz8
   have hcz8_8 := Ynb HGz8
   have hfz8_0 := Ye HGz8 0
   have hfz8_1 := Ye HGz8 1
   have hfz8_2 := Ye HGz8 2
   have hfz8_3 := Ye HGz8 3
   have hfz8_4 := Ye HGz8 4
   have hfz8_5 := Ye HGz8 5
   have hfz8_6 := Ye HGz8 6
   have hfz8_7 := Ye HGz8 7
   have hfz8_8 := Ye HGz8 8
   clear HGz8 hgz8
   go_enter Tryz.func44, Tryz.ntmps44
   go_wp2_with (first | ((with_reducible refine Yi (f := 80) rfl ?_); refine Yy (some 15) rfl rfl Tryz.func80 (by kernel_rfl) rfl #[.string s0_0, .string (⟨#[47, 92]⟩ : ByteArray)] rfl (by (try simp only [List.map_toArray, List.map_cons, List.map_nil]); first | done | rfl | (simp only [List.length_drop, List.length_take]; rfl)) ?_; (with_reducible refine (strings_IndexAny.calls s0_0 (⟨#[47, 92]⟩ : ByteArray) t281 _ ?side1 A2.out).mono ?_); (case side1 => first | exact HE.out | exact EnvOk.below HE.out (by repeat (first | (with_reducible first | exact HB.out | apply Yd | apply Yb | apply Yc | refine Yg ?_ (IsS53.ge HI0.out)) | exact HB.out))); rintro e w9 ⟨rfl, hb⟩; refine ⟨_, rfl, ?_⟩; have n0_ := Ya.mk (IsS53.below (by repeat (first | (with_reducible first | exact HI0.out | apply IsS53.alloc | apply IsS53.drewN | apply IsS53.drew | apply IsS53.set_0 | apply IsS53.set_1 | apply IsS53.set_2 | apply IsS53.set_3 | apply IsS53.set_4 | apply IsS53.set_5 | apply IsS53.set_6 | apply IsS53.set_7 | apply IsS53.set_8) | exact HI0.out)) hb); have n1_ := Ya.mk (KeepBut.trans (by repeat (first | (with_reducible first | exact HK.out | apply KeepBut.set_ | apply Yla | apply keep_drew | apply keep_alloc) | exact HK.out)) (KeepBut.of_below hb g none) (.inl rfl)); have n2_ := Ya.mk (Ys (by repeat (first | (with_reducible first | exact HB.out | apply Yd | apply Yb | apply Yc | refine Yg ?_ (IsS53.ge HI0.out)) | exact HB.out)) hb); clear HI0; clear HK; clear HB; have HI0 := n0_; have HK := n1_; have HB := n2_; clear n0_ n1_ n2_; (try clear hb); (try clear hb2); (try clear hk); (try clear hi); obtain ⟨HGz10, hgz10⟩ := HI0.out; have hcz10_0 := Yjb HGz10; have hcz10_1 := Yxb HGz10; have hcz10_2 := Ywb HGz10; have hcz10_3 := Yvb HGz10; have hcz10_4 := Yqb HGz10; have hcz10_5 := Ypb HGz10; have hcz10_6 := Ymb HGz10; have hcz10_7 := Yob HGz10; have hcz10_8 := Ynb HGz10; have hfz10_0 := Ye HGz10 0; have hfz10_1 := Ye HGz10 1; have hfz10_2 := Ye HGz10 2; have hfz10_3 := Ye HGz10 3; have hfz10_4 := Ye HGz10 4; have hfz10_5 := Ye HGz10 5; have hfz10_6 := Ye HGz10 6; have hfz10_7 := Ye HGz10 7; have hfz10_8 := Ye HGz10 8; clear HGz10 hgz10) | ((with_reducible refine Yi (f := 81) rfl ?_); refine Yy (some 23) rfl rfl Tryz.func81 (by kernel_rfl) rfl #[.string s0_0, .string (⟨#[47, 92]⟩ : ByteArray)] rfl (by (try simp only [List.map_toArray, List.map_cons, List.map_nil]); first | done | rfl | (simp only [List.length_drop, List.length_take]; rfl)) ?_; (with_reducible refine (Yub.calls s0_0 (⟨#[47, 92]⟩ : ByteArray) t282 _ ?side1 A4.out).mono ?_); (case side1 => first | exact HE.out | exact EnvOk.below HE.out (by repeat (first | (with_reducible first | exact HB.out | apply Yd | apply Yb | apply Yc | refine Yg ?_ (IsS53.ge HI0.out)) | exact HB.out))); rintro e w11 ⟨rfl, hb⟩; refine ⟨_, rfl, ?_⟩; have n0_ := Ya.mk (IsS53.below (by repeat (first | (with_reducible first | exact HI0.out | apply IsS53.alloc | apply IsS53.drewN | apply IsS53.drew | apply IsS53.set_0 | apply IsS53.set_1 | apply IsS53.set_2 | apply IsS53.set_3 | apply IsS53.set_4 | apply IsS53.set_5 | apply IsS53.set_6 | apply IsS53.set_7 | apply IsS53.set_8) | exact HI0.out)) hb); have n1_ := Ya.mk (KeepBut.trans (by repeat (first | (with_reducible first | exact HK.out | apply KeepBut.set_ | apply Yla | apply keep_drew | apply keep_alloc) | exact HK.out)) (KeepBut.of_below hb g none) (.inl rfl)); have n2_ := Ya.mk (Ys (by repeat (first | (with_reducible first | exact HB.out | apply Yd | apply Yb | apply Yc | refine Yg ?_ (IsS53.ge HI0.out)) | exact HB.out)) hb); clear HI0; clear HK; clear HB; have HI0 := n0_; have HK := n1_; have HB := n2_; clear n0_ n1_ n2_; (try clear hb); (try clear hb2); (try clear hk); (try clear hi); obtain ⟨HGz12, hgz12⟩ := HI0.out; have hcz12_0 := Yjb HGz12; have hcz12_1 := Yxb HGz12; have hcz12_2 := Ywb HGz12; have hcz12_3 := Yvb HGz12; have hcz12_4 := Yqb HGz12; have hcz12_5 := Ypb HGz12; have hcz12_6 := Ymb HGz12; have hcz12_7 := Yob HGz12; have hcz12_8 := Ynb HGz12; have hfz12_0 := Ye HGz12 0; have hfz12_1 := Ye HGz12 1; have hfz12_2 := Ye HGz12 2; have hfz12_3 := Ye HGz12 3; have hfz12_4 := Ye HGz12 4; have hfz12_5 := Ye HGz12 5; have hfz12_6 := Ye HGz12 6; have hfz12_7 := Ye HGz12 7; have hfz12_8 := Ye HGz12 8; clear HGz12 hgz12) | ((with_reducible refine Yi (f := 82) rfl ?_); refine Yy (some 30) rfl rfl Tryz.func82 (by kernel_rfl) rfl #[.pointer (some ⟨g, 0, none⟩), .string (⟨#[47, 92, 63, 35]⟩ : ByteArray)] rfl (by (try simp only [List.map_toArray, List.map_cons, List.map_nil]); first | done | rfl | (simp only [List.length_drop, List.length_take]; rfl)) ?_; (with_reducible refine (Ylb.calls g t282 s0_1 s0_2 s0_3 s0_4 s0_5 s0_6 s0_7 s0_8 (⟨#[47, 92, 63, 35]⟩ : ByteArray) t283 t284 t285 t286 t287 t288 t289 t290 t291 t292 w0 _ ?side1 ?side2 ?side3 A5.out).mono ?_); (case side1 => exact HE.out); (case side2 => repeat (first | (with_reducible first | exact HI0.out | apply IsS53.alloc | apply IsS53.drewN | apply IsS53.drew | apply IsS53.set_0 | apply IsS53.set_1 | apply IsS53.set_2 | apply IsS53.set_3 | apply IsS53.set_4 | apply IsS53.set_5 | apply IsS53.set_6 | apply IsS53.set_7 | apply IsS53.set_8) | exact HI0.out)); (case side3 => repeat (first | (with_reducible first | exact HB.out | apply Yd | apply Yb | apply Yc | refine Yg ?_ (IsS53.ge HI0.out)) | exact HB.out)); rintro e w13 ⟨rfl, hi, hb, hk⟩; refine ⟨_, rfl, ?_⟩; have n0_ := Ya.mk (KeepBut.trans (by repeat (first | (with_reducible first | exact HK.out | apply KeepBut.set_ | apply Yla | apply keep_drew | apply keep_alloc) | exact HK.out)) hk (.inl rfl)); have n1_ := Ya.mk (hb); have n2_ := Ya.mk (hi); clear HK; clear HB; clear HI0; have HK := n0_; have HB := n1_; have HI0 := n2_; clear n0_ n1_ n2_; (try clear hb); (try clear hb2); (try clear hk); (try clear hi)) | ((with_reducible refine Yi (f := 79) rfl ?_); refine Yy (some 32) rfl rfl Tryz.func79 (by kernel_rfl) rfl #[.string t283, .int .u8 64] rfl (by (try simp only [List.map_toArray, List.map_cons, List.map_nil]); first | done | rfl | (simp only [List.length_drop, List.length_take]; rfl)) ?_; (with_reducible refine (strings_IndexByte.calls t283 64 t293 _ ?side1 A6.out).mono ?_); (case side1 => first | exact HE.out | exact EnvOk.below HE.out (by repeat (first | (with_reducible first | exact HB.out | apply Yd | apply Yb | apply Yc | refine Yg ?_ (IsS53.ge HI0.out)) | exact HB.out))); rintro e w' ⟨rfl, ⟨nd, rfl⟩⟩; refine ⟨_, rfl, ?_⟩))
   go_ret
   exact ⟨by first | rfl | (simp [Yl, Ym] <;> rfl) | (simp [*, Yl, Ym] <;> rfl), by repeat (first | (with_reducible first | exact HI0.out | apply IsS53.alloc | apply IsS53.drewN | apply IsS53.drew | apply IsS53.set_0 | apply IsS53.set_1 | apply IsS53.set_2 | apply IsS53.set_3 | apply IsS53.set_4 | apply IsS53.set_5 | apply IsS53.set_6 | apply IsS53.set_7 | apply IsS53.set_8) | exact HI0.out), by repeat (first | (with_reducible first | exact HB.out | apply Yd | apply Yb | apply Yc | refine Yg ?_ (IsS53.ge HI0.out)) | exact HB.out), by repeat (first | (with_reducible first | exact HK.out | apply KeepBut.set_ | apply Yla | apply keep_drew | apply keep_alloc) | exact HK.out)⟩
  ·rw [if_neg c7] at H
   have c7b0 : decide (0 ≤ t293) = false := decide_eq_false c7
   clear c7
   replace H := Option.bind_eq_some_iff.mp H
   obtain ⟨⟨t294, t295, t296⟩, A140, H⟩ := H
   replace H : ((Yqd.f k t294).bind fun bt297 => (if bt297.2 = 0 then (if t295.toList = ([] : List UInt8) then (some (0, t284, t285, bt297.1, t287, t288, t289, t290, t291, t292)) else ((Yz.f k t295 65535).bind fun bt299 => (if bt299.2 = 0 then ((Yye.f t285).bind fun t301 => (if bt299.1 = t301 then (some (0, t284, t285, bt297.1, t287, t288, t289, t290, t291, t292)) else (some (0, t284, t285, bt297.1, bt299.1, t288, t289, t290, t291, t292)))) else (some (3, t284, t285, bt297.1, t287, t288, t289, t290, t291, t292))))) else (some (bt297.2, t284, t285, t286, t287, t288, t289, t290, t291, t292)))) = some (r1, r2, r3, r4, r5, r6, r7, r8, r9, r10) := H
   have A14 := Ya.mk A140
   clear A140
   replace H := Option.bind_eq_some_iff.mp H
   obtain ⟨⟨t297, t298⟩, A150, H⟩ := H
   replace H : (if t298 = 0 then (if t295.toList = ([] : List UInt8) then (some (0, t284, t285, t297, t287, t288, t289, t290, t291, t292)) else ((Yz.f k t295 65535).bind fun bt299 => (if bt299.2 = 0 then ((Yye.f t285).bind fun t301 => (if bt299.1 = t301 then (some (0, t284, t285, t297, t287, t288, t289, t290, t291, t292)) else (some (0, t284, t285, t297, bt299.1, t288, t289, t290, t291, t292)))) else (some (3, t284, t285, t297, t287, t288, t289, t290, t291, t292))))) else (some (t298, t284, t285, t286, t287, t288, t289, t290, t291, t292))) = some (r1, r2, r3, r4, r5, r6, r7, r8, r9, r10) := H
   have A15 := Ya.mk A150
   clear A150
   by_cases c16 : t298 = 0
   ·rw [if_pos c16] at H
    have c16b0 : (t298 == 0) = true := beq_iff_eq.mpr c16
    have c16b1 : (t298 != 0) = false := bne_eq_false_iff_eq.mpr c16
    clear c16
    by_cases c17 : t295.toList = ([] : List UInt8)
    ·rw [if_pos c17] at H
     have c17b0 : (t295.toList == ([] : List UInt8)) = true := beq_iff_eq.mpr c17
     have c17b1 : (t295.toList != ([] : List UInt8)) = false := bne_eq_false_iff_eq.mpr c17
     clear c17
     simp only [Option.some.injEq, Prod.mk.injEq] at H
     obtain ⟨rfl, rfl, rfl, rfl, rfl, rfl, rfl, rfl, rfl, rfl⟩ := H
     obtain ⟨HGz18, hgz18⟩ := HI0.out
     have hcz18_0 := Yjb HGz18
     have hcz18_1 := Yxb HGz18
     have hcz18_2 := Ywb HGz18
     have hcz18_3 := Yvb HGz18
     have hcz18_4 := Yqb HGz18
     have hcz18_5 := Ypb HGz18
     have hcz18_6 := Ymb HGz18
     have hcz18_7 := Yob HGz18
     have hcz18_8 := Ynb HGz18
     have hfz18_0 := Ye HGz18 0
     have hfz18_1 := Ye HGz18 1
     have hfz18_2 := Ye HGz18 2
     have hfz18_3 := Ye HGz18 3
     have hfz18_4 := Ye HGz18 4
     have hfz18_5 := Ye HGz18 5
     have hfz18_6 := Ye HGz18 6
     have hfz18_7 := Ye HGz18 7
     have hfz18_8 := Ye HGz18 8
     clear HGz18 hgz18
     go_enter Tryz.func44, Tryz.ntmps44
     go_wp2_with (first | ((with_reducible refine Yi (f := 80) rfl ?_); refine Yy (some 15) rfl rfl Tryz.func80 (by kernel_rfl) rfl #[.string s0_0, .string (⟨#[47, 92]⟩ : ByteArray)] rfl (by (try simp only [List.map_toArray, List.map_cons, List.map_nil]); first | done | rfl | (simp only [List.length_drop, List.length_take]; rfl)) ?_; (with_reducible refine (strings_IndexAny.calls s0_0 (⟨#[47, 92]⟩ : ByteArray) t281 _ ?side1 A2.out).mono ?_); (case side1 => first | exact HE.out | exact EnvOk.below HE.out (by repeat (first | (with_reducible first | exact HB.out | apply Yd | apply Yb | apply Yc | refine Yg ?_ (IsS53.ge HI0.out)) | exact HB.out))); rintro e w19 ⟨rfl, hb⟩; refine ⟨_, rfl, ?_⟩; have n0_ := Ya.mk (IsS53.below (by repeat (first | (with_reducible first | exact HI0.out | apply IsS53.alloc | apply IsS53.drewN | apply IsS53.drew | apply IsS53.set_0 | apply IsS53.set_1 | apply IsS53.set_2 | apply IsS53.set_3 | apply IsS53.set_4 | apply IsS53.set_5 | apply IsS53.set_6 | apply IsS53.set_7 | apply IsS53.set_8) | exact HI0.out)) hb); have n1_ := Ya.mk (KeepBut.trans (by repeat (first | (with_reducible first | exact HK.out | apply KeepBut.set_ | apply Yla | apply keep_drew | apply keep_alloc) | exact HK.out)) (KeepBut.of_below hb g none) (.inl rfl)); have n2_ := Ya.mk (Ys (by repeat (first | (with_reducible first | exact HB.out | apply Yd | apply Yb | apply Yc | refine Yg ?_ (IsS53.ge HI0.out)) | exact HB.out)) hb); clear HI0; clear HK; clear HB; have HI0 := n0_; have HK := n1_; have HB := n2_; clear n0_ n1_ n2_; (try clear hb); (try clear hb2); (try clear hk); (try clear hi); obtain ⟨HGz20, hgz20⟩ := HI0.out; have hcz20_0 := Yjb HGz20; have hcz20_1 := Yxb HGz20; have hcz20_2 := Ywb HGz20; have hcz20_3 := Yvb HGz20; have hcz20_4 := Yqb HGz20; have hcz20_5 := Ypb HGz20; have hcz20_6 := Ymb HGz20; have hcz20_7 := Yob HGz20; have hcz20_8 := Ynb HGz20; have hfz20_0 := Ye HGz20 0; have hfz20_1 := Ye HGz20 1; have hfz20_2 := Ye HGz20 2; have hfz20_3 := Ye HGz20 3; have hfz20_4 := Ye HGz20 4; have hfz20_5 := Ye HGz20 5; have hfz20_6 := Ye HGz20 6; have hfz20_7 := Ye HGz20 7; have hfz20_8 := Ye HGz20 8; clear HGz20 hgz20) | ((with_reducible refine Yi (f := 81) rfl ?_); refine Yy (some 23) rfl rfl Tryz.func81 (by kernel_rfl) rfl #[.string s0_0, .string (⟨#[47, 92]⟩ : ByteArray)] rfl (by (try simp only [List.map_toArray, List.map_cons, List.map_nil]); first | done | rfl | (simp only [List.length_drop, List.length_take]; rfl)) ?_; (with_reducible refine (Yub.calls s0_0 (⟨#[47, 92]⟩ : ByteArray) t282 _ ?side1 A4.out).mono ?_); (case side1 => first | exact HE.out | exact EnvOk.below HE.out (by repeat (first | (with_reducible first | exact HB.out | apply Yd | apply Yb | apply Yc | refine Yg ?_ (IsS53.ge HI0.out)) | exact HB.out))); rintro e w21 ⟨rfl, hb⟩; refine ⟨_, rfl, ?_⟩; have n0_ := Ya.mk (IsS53.below (by repeat (first | (with_reducible first | exact HI0.out | apply IsS53.alloc | apply IsS53.drewN | apply IsS53.drew | apply IsS53.set_0 | apply IsS53.set_1 | apply IsS53.set_2 | apply IsS53.set_3 | apply IsS53.set_4 | apply IsS53.set_5 | apply IsS53.set_6 | apply IsS53.set_7 | apply IsS53.set_8) | exact HI0.out)) hb); have n1_ := Ya.mk (KeepBut.trans (by repeat (first | (with_reducible first | exact HK.out | apply KeepBut.set_ | apply Yla | apply keep_drew | apply keep_alloc) | exact HK.out)) (KeepBut.of_below hb g none) (.inl rfl)); have n2_ := Ya.mk (Ys (by repeat (first | (with_reducible first | exact HB.out | apply Yd | apply Yb | apply Yc | refine Yg ?_ (IsS53.ge HI0.out)) | exact HB.out)) hb); clear HI0; clear HK; clear HB; have HI0 := n0_; have HK := n1_; have HB := n2_; clear n0_ n1_ n2_; (try clear hb); (try clear hb2); (try clear hk); (try clear hi); obtain ⟨HGz22, hgz22⟩ := HI0.out; have hcz22_0 := Yjb HGz22; have hcz22_1 := Yxb HGz22; have hcz22_2 := Ywb HGz22; have hcz22_3 := Yvb HGz22; have hcz22_4 := Yqb HGz22; have hcz22_5 := Ypb HGz22; have hcz22_6 := Ymb HGz22; have hcz22_7 := Yob HGz22; have hcz22_8 := Ynb HGz22; have hfz22_0 := Ye HGz22 0; have hfz22_1 := Ye HGz22 1; have hfz22_2 := Ye HGz22 2; have hfz22_3 := Ye HGz22 3; have hfz22_4 := Ye HGz22 4; have hfz22_5 := Ye HGz22 5; have hfz22_6 := Ye HGz22 6; have hfz22_7 := Ye HGz22 7; have hfz22_8 := Ye HGz22 8; clear HGz22 hgz22) | ((with_reducible refine Yi (f := 82) rfl ?_); refine Yy (some 30) rfl rfl Tryz.func82 (by kernel_rfl) rfl #[.pointer (some ⟨g, 0, none⟩), .string (⟨#[47, 92, 63, 35]⟩ : ByteArray)] rfl (by (try simp only [List.map_toArray, List.map_cons, List.map_nil]); first | done | rfl | (simp only [List.length_drop, List.length_take]; rfl)) ?_; (with_reducible refine (Ylb.calls g t282 s0_1 s0_2 s0_3 s0_4 s0_5 s0_6 s0_7 s0_8 (⟨#[47, 92, 63, 35]⟩ : ByteArray) t283 t284 t285 t286 t287 t288 t289 t290 t291 t292 w0 _ ?side1 ?side2 ?side3 A5.out).mono ?_); (case side1 => exact HE.out); (case side2 => repeat (first | (with_reducible first | exact HI0.out | apply IsS53.alloc | apply IsS53.drewN | apply IsS53.drew | apply IsS53.set_0 | apply IsS53.set_1 | apply IsS53.set_2 | apply IsS53.set_3 | apply IsS53.set_4 | apply IsS53.set_5 | apply IsS53.set_6 | apply IsS53.set_7 | apply IsS53.set_8) | exact HI0.out)); (case side3 => repeat (first | (with_reducible first | exact HB.out | apply Yd | apply Yb | apply Yc | refine Yg ?_ (IsS53.ge HI0.out)) | exact HB.out)); rintro e w23 ⟨rfl, hi, hb, hk⟩; refine ⟨_, rfl, ?_⟩; have n0_ := Ya.mk (KeepBut.trans (by repeat (first | (with_reducible first | exact HK.out | apply KeepBut.set_ | apply Yla | apply keep_drew | apply keep_alloc) | exact HK.out)) hk (.inl rfl)); have n1_ := Ya.mk (hb); have n2_ := Ya.mk (hi); clear HK; clear HB; clear HI0; have HK := n0_; have HB := n1_; have HI0 := n2_; clear n0_ n1_ n2_; (try clear hb); (try clear hb2); (try clear hk); (try clear hi)) | ((with_reducible refine Yi (f := 79) rfl ?_); refine Yy (some 32) rfl rfl Tryz.func79 (by kernel_rfl) rfl #[.string t283, .int .u8 64] rfl (by (try simp only [List.map_toArray, List.map_cons, List.map_nil]); first | done | rfl | (simp only [List.length_drop, List.length_take]; rfl)) ?_; (with_reducible refine (strings_IndexByte.calls t283 64 t293 _ ?side1 A6.out).mono ?_); (case side1 => first | exact HE.out | exact EnvOk.below HE.out (by repeat (first | (with_reducible first | exact HB.out | apply Yd | apply Yb | apply Yc | refine Yg ?_ (IsS53.ge HI0.out)) | exact HB.out))); rintro e w' ⟨rfl, ⟨nd, rfl⟩⟩; refine ⟨_, rfl, ?_⟩; (try (rw [Yaf w23]; generalize hq_ : World.drewN w23 _ = w23; have n0_ : Ya (IsS53 w0 w23 g t284 t285 t286 t287 t288 t289 t290 t291 t292) := ⟨by rw [← hq_]; exact (by repeat (first | (with_reducible first | exact HI0.out | apply IsS53.alloc | apply IsS53.drewN | apply IsS53.drew | apply IsS53.set_0 | apply IsS53.set_1 | apply IsS53.set_2 | apply IsS53.set_3 | apply IsS53.set_4 | apply IsS53.set_5 | apply IsS53.set_6 | apply IsS53.set_7 | apply IsS53.set_8) | exact HI0.out))⟩; have n1_ : Ya (KeepBut w w23 g none) := ⟨by rw [← hq_]; exact (by repeat (first | (with_reducible first | exact HK.out | apply KeepBut.set_ | apply Yla | apply keep_drew | apply keep_alloc) | exact HK.out))⟩; have n2_ : Ya (Below w0.heap.size w0 w23) := ⟨by rw [← hq_]; exact (by repeat (first | (with_reducible first | exact HB.out | apply Yd | apply Yb | apply Yc | refine Yg ?_ (IsS53.ge HI0.out)) | exact HB.out))⟩; clear HI0 HK HB hq_; have HI0 := n0_; have HK := n1_; have HB := n2_; clear n0_ n1_ n2_))) | ((with_reducible refine Yi (f := 76) rfl ?_); refine Yy (some 36) rfl rfl Tryz.func76 (by kernel_rfl) rfl #[.string t283, .string (⟨#[58]⟩ : ByteArray)] rfl (by (try simp only [List.map_toArray, List.map_cons, List.map_nil]); first | done | rfl | (simp only [List.length_drop, List.length_take]; rfl)) ?_; (with_reducible refine (strings_Cut.calls t283 (⟨#[58]⟩ : ByteArray) t294 t295 t296 _ ?side1 A14.out).mono ?_); (case side1 => first | exact HE.out | exact EnvOk.below HE.out (by repeat (first | (with_reducible first | exact HB.out | apply Yd | apply Yb | apply Yc | refine Yg ?_ (IsS53.ge HI0.out)) | exact HB.out))); rintro e w' ⟨rfl, ⟨nd, rfl⟩⟩; refine ⟨_, rfl, ?_⟩; (try (rw [Yaf w23]; generalize hq_ : World.drewN w23 _ = w23; have n0_ : Ya (IsS53 w0 w23 g t284 t285 t286 t287 t288 t289 t290 t291 t292) := ⟨by rw [← hq_]; exact (by repeat (first | (with_reducible first | exact HI0.out | apply IsS53.alloc | apply IsS53.drewN | apply IsS53.drew | apply IsS53.set_0 | apply IsS53.set_1 | apply IsS53.set_2 | apply IsS53.set_3 | apply IsS53.set_4 | apply IsS53.set_5 | apply IsS53.set_6 | apply IsS53.set_7 | apply IsS53.set_8) | exact HI0.out))⟩; have n1_ : Ya (KeepBut w w23 g none) := ⟨by rw [← hq_]; exact (by repeat (first | (with_reducible first | exact HK.out | apply KeepBut.set_ | apply Yla | apply keep_drew | apply keep_alloc) | exact HK.out))⟩; have n2_ : Ya (Below w0.heap.size w0 w23) := ⟨by rw [← hq_]; exact (by repeat (first | (with_reducible first | exact HB.out | apply Yd | apply Yb | apply Yc | refine Yg ?_ (IsS53.ge HI0.out)) | exact HB.out))⟩; clear HI0 HK HB hq_; have HI0 := n0_; have HK := n1_; have HB := n2_; clear n0_ n1_ n2_))) | ((with_reducible refine Yi (f := 19) rfl ?_); refine Yy (some 42) rfl rfl Tryz.func19 (by kernel_rfl) rfl #[.string t294] rfl (by (try simp only [List.map_toArray, List.map_cons, List.map_nil]); first | done | rfl | (simp only [List.length_drop, List.length_take]; rfl)) ?_; (with_reducible refine (Yqd.calls k t294 t297 t298 _ ?side1 A15.out).mono ?_); (case side1 => first | exact HE.out | exact EnvOk.below HE.out (by repeat (first | (with_reducible first | exact HB.out | apply Yd | apply Yb | apply Yc | refine Yg ?_ (IsS53.ge HI0.out)) | exact HB.out))); rintro e w24 ⟨rfl, hb⟩; refine ⟨_, rfl, ?_⟩; have n0_ := Ya.mk (IsS53.below (by repeat (first | (with_reducible first | exact HI0.out | apply IsS53.alloc | apply IsS53.drewN | apply IsS53.drew | apply IsS53.set_0 | apply IsS53.set_1 | apply IsS53.set_2 | apply IsS53.set_3 | apply IsS53.set_4 | apply IsS53.set_5 | apply IsS53.set_6 | apply IsS53.set_7 | apply IsS53.set_8) | exact HI0.out)) hb); have n1_ := Ya.mk (KeepBut.trans (by repeat (first | (with_reducible first | exact HK.out | apply KeepBut.set_ | apply Yla | apply keep_drew | apply keep_alloc) | exact HK.out)) (KeepBut.of_below hb g none) (.inl rfl)); have n2_ := Ya.mk (Ys (by repeat (first | (with_reducible first | exact HB.out | apply Yd | apply Yb | apply Yc | refine Yg ?_ (IsS53.ge HI0.out)) | exact HB.out)) hb); clear HI0; clear HK; clear HB; have HI0 := n0_; have HK := n1_; have HB := n2_; clear n0_ n1_ n2_; (try clear hb); (try clear hb2); (try clear hk); (try clear hi); obtain ⟨HGz25, hgz25⟩ := HI0.out; have hcz25_0 := Yjb HGz25; have hcz25_1 := Yxb HGz25; have hcz25_2 := Ywb HGz25; have hcz25_3 := Yvb HGz25; have hcz25_4 := Yqb HGz25; have hcz25_5 := Ypb HGz25; have hcz25_6 := Ymb HGz25; have hcz25_7 := Yob HGz25; have hcz25_8 := Ynb HGz25; have hfz25_0 := Ye HGz25 0; have hfz25_1 := Ye HGz25 1; have hfz25_2 := Ye HGz25 2; have hfz25_3 := Ye HGz25 3; have hfz25_4 := Ye HGz25 4; have hfz25_5 := Ye HGz25 5; have hfz25_6 := Ye HGz25 6; have hfz25_7 := Ye HGz25 7; have hfz25_8 := Ye HGz25 8; clear HGz25 hgz25))
     go_ret
     exact ⟨by first | rfl | (simp [Yl, Ym] <;> rfl) | (simp [*, Yl, Ym] <;> rfl), by repeat (first | (with_reducible first | exact HI0.out | apply IsS53.alloc | apply IsS53.drewN | apply IsS53.drew | apply IsS53.set_0 | apply IsS53.set_1 | apply IsS53.set_2 | apply IsS53.set_3 | apply IsS53.set_4 | apply IsS53.set_5 | apply IsS53.set_6 | apply IsS53.set_7 | apply IsS53.set_8) | exact HI0.out), by repeat (first | (with_reducible first | exact HB.out | apply Yd | apply Yb | apply Yc | refine Yg ?_ (IsS53.ge HI0.out)) | exact HB.out), by repeat (first | (with_reducible first | exact HK.out | apply KeepBut.set_ | apply Yla | apply keep_drew | apply keep_alloc) | exact HK.out)⟩
    ·rw [if_neg c17] at H
     have c17b0 : (t295.toList == ([] : List UInt8)) = false := beq_eq_false_iff_ne.mpr c17
     have c17b1 : (t295.toList != ([] : List UInt8)) = true := bne_iff_ne.mpr c17
     replace H := Option.bind_eq_some_iff.mp H
     obtain ⟨⟨t299, t300⟩, A260, H⟩ := H
     replace H : (if t300 = 0 then ((Yye.f t285).bind fun t301 => (if t299 = t301 then (some (0, t284, t285, t297, t287, t288, t289, t290, t291, t292)) else (some (0, t284, t285, t297, t299, t288, t289, t290, t291, t292)))) else (some (3, t284, t285, t297, t287, t288, t289, t290, t291, t292))) = some (r1, r2, r3, r4, r5, r6, r7, r8, r9, r10) := H
     have A26 := Ya.mk A260
     clear A260
     by_cases c27 : t300 = 0
     ·rw [if_pos c27] at H
      have c27b0 : (t300 == 0) = true := beq_iff_eq.mpr c27
      have c27b1 : (t300 != 0) = false := bne_eq_false_iff_eq.mpr c27
      clear c27
      replace H := Option.bind_eq_some_iff.mp H
      obtain ⟨t301, A280, H⟩ := H
      replace H : (if t299 = t301 then (some (0, t284, t285, t297, t287, t288, t289, t290, t291, t292)) else (some (0, t284, t285, t297, t299, t288, t289, t290, t291, t292))) = some (r1, r2, r3, r4, r5, r6, r7, r8, r9, r10) := H
      have A28 := Ya.mk A280
      clear A280
      by_cases c29 : t299 = t301
      ·rw [if_pos c29] at H
       have c29b0 : (t299 == t301) = true := beq_iff_eq.mpr c29
       have c29b1 : (t299 != t301) = false := bne_eq_false_iff_eq.mpr c29
       clear c29
       simp only [Option.some.injEq, Prod.mk.injEq] at H
       obtain ⟨rfl, rfl, rfl, rfl, rfl, rfl, rfl, rfl, rfl, rfl⟩ := H
       obtain ⟨HGz30, hgz30⟩ := HI0.out
       have hcz30_0 := Yjb HGz30
       have hcz30_1 := Yxb HGz30
       have hcz30_2 := Ywb HGz30
       have hcz30_3 := Yvb HGz30
       have hcz30_4 := Yqb HGz30
       have hcz30_5 := Ypb HGz30
       have hcz30_6 := Ymb HGz30
       have hcz30_7 := Yob HGz30
       have hcz30_8 := Ynb HGz30
       have hfz30_0 := Ye HGz30 0
       have hfz30_1 := Ye HGz30 1
       have hfz30_2 := Ye HGz30 2
       have hfz30_3 := Ye HGz30 3
       have hfz30_4 := Ye HGz30 4
       have hfz30_5 := Ye HGz30 5
       have hfz30_6 := Ye HGz30 6
       have hfz30_7 := Ye HGz30 7
       have hfz30_8 := Ye HGz30 8
       clear HGz30 hgz30
       go_enter Tryz.func44, Tryz.ntmps44
       go_wp2_with (first | ((with_reducible refine Yi (f := 80) rfl ?_); refine Yy (some 15) rfl rfl Tryz.func80 (by kernel_rfl) rfl #[.string s0_0, .string (⟨#[47, 92]⟩ : ByteArray)] rfl (by (try simp only [List.map_toArray, List.map_cons, List.map_nil]); first | done | rfl | (simp only [List.length_drop, List.length_take]; rfl)) ?_; (with_reducible refine (strings_IndexAny.calls s0_0 (⟨#[47, 92]⟩ : ByteArray) t281 _ ?side1 A2.out).mono ?_); (case side1 => first | exact HE.out | exact EnvOk.below HE.out (by repeat (first | (with_reducible first | exact HB.out | apply Yd | apply Yb | apply Yc | refine Yg ?_ (IsS53.ge HI0.out)) | exact HB.out))); rintro e w31 ⟨rfl, hb⟩; refine ⟨_, rfl, ?_⟩; have n0_ := Ya.mk (IsS53.below (by repeat (first | (with_reducible first | exact HI0.out | apply IsS53.alloc | apply IsS53.drewN | apply IsS53.drew | apply IsS53.set_0 | apply IsS53.set_1 | apply IsS53.set_2 | apply IsS53.set_3 | apply IsS53.set_4 | apply IsS53.set_5 | apply IsS53.set_6 | apply IsS53.set_7 | apply IsS53.set_8) | exact HI0.out)) hb); have n1_ := Ya.mk (KeepBut.trans (by repeat (first | (with_reducible first | exact HK.out | apply KeepBut.set_ | apply Yla | apply keep_drew | apply keep_alloc) | exact HK.out)) (KeepBut.of_below hb g none) (.inl rfl)); have n2_ := Ya.mk (Ys (by repeat (first | (with_reducible first | exact HB.out | apply Yd | apply Yb | apply Yc | refine Yg ?_ (IsS53.ge HI0.out)) | exact HB.out)) hb); clear HI0; clear HK; clear HB; have HI0 := n0_; have HK := n1_; have HB := n2_; clear n0_ n1_ n2_; (try clear hb); (try clear hb2); (try clear hk); (try clear hi); obtain ⟨HGz32, hgz32⟩ := HI0.out; have hcz32_0 := Yjb HGz32; have hcz32_1 := Yxb HGz32; have hcz32_2 := Ywb HGz32; have hcz32_3 := Yvb HGz32; have hcz32_4 := Yqb HGz32; have hcz32_5 := Ypb HGz32; have hcz32_6 := Ymb HGz32; have hcz32_7 := Yob HGz32; have hcz32_8 := Ynb HGz32; have hfz32_0 := Ye HGz32 0; have hfz32_1 := Ye HGz32 1; have hfz32_2 := Ye HGz32 2; have hfz32_3 := Ye HGz32 3; have hfz32_4 := Ye HGz32 4; have hfz32_5 := Ye HGz32 5; have hfz32_6 := Ye HGz32 6; have hfz32_7 := Ye HGz32 7; have hfz32_8 := Ye HGz32 8; clear HGz32 hgz32) | ((with_reducible refine Yi (f := 81) rfl ?_); refine Yy (some 23) rfl rfl Tryz.func81 (by kernel_rfl) rfl #[.string s0_0, .string (⟨#[47, 92]⟩ : ByteArray)] rfl (by (try simp only [List.map_toArray, List.map_cons, List.map_nil]); first | done | rfl | (simp only [List.length_drop, List.length_take]; rfl)) ?_; (with_reducible refine (Yub.calls s0_0 (⟨#[47, 92]⟩ : ByteArray) t282 _ ?side1 A4.out).mono ?_); (case side1 => first | exact HE.out | exact EnvOk.below HE.out (by repeat (first | (with_reducible first | exact HB.out | apply Yd | apply Yb | apply Yc | refine Yg ?_ (IsS53.ge HI0.out)) | exact HB.out))); rintro e w33 ⟨rfl, hb⟩; refine ⟨_, rfl, ?_⟩; have n0_ := Ya.mk (IsS53.below (by repeat (first | (with_reducible first | exact HI0.out | apply IsS53.alloc | apply IsS53.drewN | apply IsS53.drew | apply IsS53.set_0 | apply IsS53.set_1 | apply IsS53.set_2 | apply IsS53.set_3 | apply IsS53.set_4 | apply IsS53.set_5 | apply IsS53.set_6 | apply IsS53.set_7 | apply IsS53.set_8) | exact HI0.out)) hb); have n1_ := Ya.mk (KeepBut.trans (by repeat (first | (with_reducible first | exact HK.out | apply KeepBut.set_ | apply Yla | apply keep_drew | apply keep_alloc) | exact HK.out)) (KeepBut.of_below hb g none) (.inl rfl)); have n2_ := Ya.mk (Ys (by repeat (first | (with_reducible first | exact HB.out | apply Yd | apply Yb | apply Yc | refine Yg ?_ (IsS53.ge HI0.out)) | exact HB.out)) hb); clear HI0; clear HK; clear HB; have HI0 := n0_; have HK := n1_; have HB := n2_; clear n0_ n1_ n2_; (try clear hb); (try clear hb2); (try clear hk); (try clear hi); obtain ⟨HGz34, hgz34⟩ := HI0.out; have hcz34_0 := Yjb HGz34; have hcz34_1 := Yxb HGz34; have hcz34_2 := Ywb HGz34; have hcz34_3 := Yvb HGz34; have hcz34_4 := Yqb HGz34; have hcz34_5 := Ypb HGz34; have hcz34_6 := Ymb HGz34; have hcz34_7 := Yob HGz34; have hcz34_8 := Ynb HGz34; have hfz34_0 := Ye HGz34 0; have hfz34_1 := Ye HGz34 1; have hfz34_2 := Ye HGz34 2; have hfz34_3 := Ye HGz34 3; have hfz34_4 := Ye HGz34 4; have hfz34_5 := Ye HGz34 5; have hfz34_6 := Ye HGz34 6; have hfz34_7 := Ye HGz34 7; have hfz34_8 := Ye HGz34 8; clear HGz34 hgz34) | ((with_reducible refine Yi (f := 82) rfl ?_); refine Yy (some 30) rfl rfl Tryz.func82 (by kernel_rfl) rfl #[.pointer (some ⟨g, 0, none⟩), .string (⟨#[47, 92, 63, 35]⟩ : ByteArray)] rfl (by (try simp only [List.map_toArray, List.map_cons, List.map_nil]); first | done | rfl | (simp only [List.length_drop, List.length_take]; rfl)) ?_; (with_reducible refine (Ylb.calls g t282 s0_1 s0_2 s0_3 s0_4 s0_5 s0_6 s0_7 s0_8 (⟨#[47, 92, 63, 35]⟩ : ByteArray) t283 t284 t285 t286 t287 t288 t289 t290 t291 t292 w0 _ ?side1 ?side2 ?side3 A5.out).mono ?_); (case side1 => exact HE.out); (case side2 => repeat (first | (with_reducible first | exact HI0.out | apply IsS53.alloc | apply IsS53.drewN | apply IsS53.drew | apply IsS53.set_0 | apply IsS53.set_1 | apply IsS53.set_2 | apply IsS53.set_3 | apply IsS53.set_4 | apply IsS53.set_5 | apply IsS53.set_6 | apply IsS53.set_7 | apply IsS53.set_8) | exact HI0.out)); (case side3 => repeat (first | (with_reducible first | exact HB.out | apply Yd | apply Yb | apply Yc | refine Yg ?_ (IsS53.ge HI0.out)) | exact HB.out)); rintro e w35 ⟨rfl, hi, hb, hk⟩; refine ⟨_, rfl, ?_⟩; have n0_ := Ya.mk (KeepBut.trans (by repeat (first | (with_reducible first | exact HK.out | apply KeepBut.set_ | apply Yla | apply keep_drew | apply keep_alloc) | exact HK.out)) hk (.inl rfl)); have n1_ := Ya.mk (hb); have n2_ := Ya.mk (hi); clear HK; clear HB; clear HI0; have HK := n0_; have HB := n1_; have HI0 := n2_; clear n0_ n1_ n2_; (try clear hb); (try clear hb2); (try clear hk); (try clear hi)) | ((with_reducible refine Yi (f := 79) rfl ?_); refine Yy (some 32) rfl rfl Tryz.func79 (by kernel_rfl) rfl #[.string t283, .int .u8 64] rfl (by (try simp only [List.map_toArray, List.map_cons, List.map_nil]); first | done | rfl | (simp only [List.length_drop, List.length_take]; rfl)) ?_; (with_reducible refine (strings_IndexByte.calls t283 64 t293 _ ?side1 A6.out).mono ?_); (case side1 => first | exact HE.out | exact EnvOk.below HE.out (by repeat (first | (with_reducible first | exact HB.out | apply Yd | apply Yb | apply Yc | refine Yg ?_ (IsS53.ge HI0.out)) | exact HB.out))); rintro e w' ⟨rfl, ⟨nd, rfl⟩⟩; refine ⟨_, rfl, ?_⟩; (try (rw [Yaf w35]; generalize hq_ : World.drewN w35 _ = w35; have n0_ : Ya (IsS53 w0 w35 g t284 t285 t286 t287 t288 t289 t290 t291 t292) := ⟨by rw [← hq_]; exact (by repeat (first | (with_reducible first | exact HI0.out | apply IsS53.alloc | apply IsS53.drewN | apply IsS53.drew | apply IsS53.set_0 | apply IsS53.set_1 | apply IsS53.set_2 | apply IsS53.set_3 | apply IsS53.set_4 | apply IsS53.set_5 | apply IsS53.set_6 | apply IsS53.set_7 | apply IsS53.set_8) | exact HI0.out))⟩; have n1_ : Ya (KeepBut w w35 g none) := ⟨by rw [← hq_]; exact (by repeat (first | (with_reducible first | exact HK.out | apply KeepBut.set_ | apply Yla | apply keep_drew | apply keep_alloc) | exact HK.out))⟩; have n2_ : Ya (Below w0.heap.size w0 w35) := ⟨by rw [← hq_]; exact (by repeat (first | (with_reducible first | exact HB.out | apply Yd | apply Yb | apply Yc | refine Yg ?_ (IsS53.ge HI0.out)) | exact HB.out))⟩; clear HI0 HK HB hq_; have HI0 := n0_; have HK := n1_; have HB := n2_; clear n0_ n1_ n2_))) | ((with_reducible refine Yi (f := 76) rfl ?_); refine Yy (some 36) rfl rfl Tryz.func76 (by kernel_rfl) rfl #[.string t283, .string (⟨#[58]⟩ : ByteArray)] rfl (by (try simp only [List.map_toArray, List.map_cons, List.map_nil]); first | done | rfl | (simp only [List.length_drop, List.length_take]; rfl)) ?_; (with_reducible refine (strings_Cut.calls t283 (⟨#[58]⟩ : ByteArray) t294 t295 t296 _ ?side1 A14.out).mono ?_); (case side1 => first | exact HE.out | exact EnvOk.below HE.out (by repeat (first | (with_reducible first | exact HB.out | apply Yd | apply Yb | apply Yc | refine Yg ?_ (IsS53.ge HI0.out)) | exact HB.out))); rintro e w' ⟨rfl, ⟨nd, rfl⟩⟩; refine ⟨_, rfl, ?_⟩; (try (rw [Yaf w35]; generalize hq_ : World.drewN w35 _ = w35; have n0_ : Ya (IsS53 w0 w35 g t284 t285 t286 t287 t288 t289 t290 t291 t292) := ⟨by rw [← hq_]; exact (by repeat (first | (with_reducible first | exact HI0.out | apply IsS53.alloc | apply IsS53.drewN | apply IsS53.drew | apply IsS53.set_0 | apply IsS53.set_1 | apply IsS53.set_2 | apply IsS53.set_3 | apply IsS53.set_4 | apply IsS53.set_5 | apply IsS53.set_6 | apply IsS53.set_7 | apply IsS53.set_8) | exact HI0.out))⟩; have n1_ : Ya (KeepBut w w35 g none) := ⟨by rw [← hq_]; exact (by repeat (first | (with_reducible first | exact HK.out | apply KeepBut.set_ | apply Yla | apply keep_drew | apply keep_alloc) | exact HK.out))⟩; have n2_ : Ya (Below w0.heap.size w0 w35) := ⟨by rw [← hq_]; exact (by repeat (first | (with_reducible first | exact HB.out | apply Yd | apply Yb | apply Yc | refine Yg ?_ (IsS53.ge HI0.out)) | exact HB.out))⟩; clear HI0 HK HB hq_; have HI0 := n0_; have HK := n1_; have HB := n2_; clear n0_ n1_ n2_))) | ((with_reducible refine Yi (f := 19) rfl ?_); refine Yy (some 42) rfl rfl Tryz.func19 (by kernel_rfl) rfl #[.string t294] rfl (by (try simp only [List.map_toArray, List.map_cons, List.map_nil]); first | done | rfl | (simp only [List.length_drop, List.length_take]; rfl)) ?_; (with_reducible refine (Yqd.calls k t294 t297 t298 _ ?side1 A15.out).mono ?_); (case side1 => first | exact HE.out | exact EnvOk.below HE.out (by repeat (first | (with_reducible first | exact HB.out | apply Yd | apply Yb | apply Yc | refine Yg ?_ (IsS53.ge HI0.out)) | exact HB.out))); rintro e w36 ⟨rfl, hb⟩; refine ⟨_, rfl, ?_⟩; have n0_ := Ya.mk (IsS53.below (by repeat (first | (with_reducible first | exact HI0.out | apply IsS53.alloc | apply IsS53.drewN | apply IsS53.drew | apply IsS53.set_0 | apply IsS53.set_1 | apply IsS53.set_2 | apply IsS53.set_3 | apply IsS53.set_4 | apply IsS53.set_5 | apply IsS53.set_6 | apply IsS53.set_7 | apply IsS53.set_8) | exact HI0.out)) hb); have n1_ := Ya.mk (KeepBut.trans (by repeat (first | (with_reducible first | exact HK.out | apply KeepBut.set_ | apply Yla | apply keep_drew | apply keep_alloc) | exact HK.out)) (KeepBut.of_below hb g none) (.inl rfl)); have n2_ := Ya.mk (Ys (by repeat (first | (with_reducible first | exact HB.out | apply Yd | apply Yb | apply Yc | refine Yg ?_ (IsS53.ge HI0.out)) | exact HB.out)) hb); clear HI0; clear HK; clear HB; have HI0 := n0_; have HK := n1_; have HB := n2_; clear n0_ n1_ n2_; (try clear hb); (try clear hb2); (try clear hk); (try clear hi); obtain ⟨HGz37, hgz37⟩ := HI0.out; have hcz37_0 := Yjb HGz37; have hcz37_1 := Yxb HGz37; have hcz37_2 := Ywb HGz37; have hcz37_3 := Yvb HGz37; have hcz37_4 := Yqb HGz37; have hcz37_5 := Ypb HGz37; have hcz37_6 := Ymb HGz37; have hcz37_7 := Yob HGz37; have hcz37_8 := Ynb HGz37; have hfz37_0 := Ye HGz37 0; have hfz37_1 := Ye HGz37 1; have hfz37_2 := Ye HGz37 2; have hfz37_3 := Ye HGz37 3; have hfz37_4 := Ye HGz37 4; have hfz37_5 := Ye HGz37 5; have hfz37_6 := Ye HGz37 6; have hfz37_7 := Ye HGz37 7; have hfz37_8 := Ye HGz37 8; clear HGz37 hgz37) | ((with_reducible refine Yi (f := 83) rfl ?_); refine Yy (some 57) rfl rfl Tryz.func83 (by kernel_rfl) rfl #[.string t295, .int .i64 65535] rfl (by (try simp only [List.map_toArray, List.map_cons, List.map_nil]); first | done | rfl | (simp only [List.length_drop, List.length_take]; rfl)) ?_; (with_reducible refine (Yz.calls k t295 65535 t299 t300 _ ?side1 A26.out).mono ?_); (case side1 => first | exact HE.out | exact EnvOk.below HE.out (by repeat (first | (with_reducible first | exact HB.out | apply Yd | apply Yb | apply Yc | refine Yg ?_ (IsS53.ge HI0.out)) | exact HB.out))); rintro e w' ⟨rfl, ⟨nd, rfl⟩⟩; refine ⟨_, rfl, ?_⟩) | ((with_reducible refine Yi (f := 84) rfl ?_); refine Yy (some 68) rfl rfl Tryz.func84 (by kernel_rfl) rfl #[.string t285] rfl (by (try simp only [List.map_toArray, List.map_cons, List.map_nil]); first | done | rfl | (simp only [List.length_drop, List.length_take]; rfl)) ?_; (with_reducible refine (Yye.calls t285 t301 _ ?side1 A28.out).mono ?_); (case side1 => first | exact HE.out | exact EnvOk.below HE.out (by repeat (first | (with_reducible first | exact HB.out | apply Yd | apply Yb | apply Yc | refine Yg ?_ (IsS53.ge HI0.out)) | exact HB.out))); rintro e w' ⟨rfl, ⟨nd, rfl⟩⟩; refine ⟨_, rfl, ?_⟩))
       go_ret
       exact ⟨by first | rfl | (simp [Yl, Ym] <;> rfl) | (simp [*, Yl, Ym] <;> rfl), by repeat (first | (with_reducible first | exact HI0.out | apply IsS53.alloc | apply IsS53.drewN | apply IsS53.drew | apply IsS53.set_0 | apply IsS53.set_1 | apply IsS53.set_2 | apply IsS53.set_3 | apply IsS53.set_4 | apply IsS53.set_5 | apply IsS53.set_6 | apply IsS53.set_7 | apply IsS53.set_8) | exact HI0.out), by repeat (first | (with_reducible first | exact HB.out | apply Yd | apply Yb | apply Yc | refine Yg ?_ (IsS53.ge HI0.out)) | exact HB.out), by repeat (first | (with_reducible first | exact HK.out | apply KeepBut.set_ | apply Yla | apply keep_drew | apply keep_alloc) | exact HK.out)⟩
      ·rw [if_neg c29] at H
       have c29b0 : (t299 == t301) = false := beq_eq_false_iff_ne.mpr c29
       have c29b1 : (t299 != t301) = true := bne_iff_ne.mpr c29
       simp only [Option.some.injEq, Prod.mk.injEq] at H
       obtain ⟨rfl, rfl, rfl, rfl, rfl, rfl, rfl, rfl, rfl, rfl⟩ := H
       obtain ⟨HGz38, hgz38⟩ := HI0.out
       have hcz38_0 := Yjb HGz38
       have hcz38_1 := Yxb HGz38
       have hcz38_2 := Ywb HGz38
       have hcz38_3 := Yvb HGz38
       have hcz38_4 := Yqb HGz38
       have hcz38_5 := Ypb HGz38
       have hcz38_6 := Ymb HGz38
       have hcz38_7 := Yob HGz38
       have hcz38_8 := Ynb HGz38
       have hfz38_0 := Ye HGz38 0
       have hfz38_1 := Ye HGz38 1
       have hfz38_2 := Ye HGz38 2
       have hfz38_3 := Ye HGz38 3
       have hfz38_4 := Ye HGz38 4
       have hfz38_5 := Ye HGz38 5
       have hfz38_6 := Ye HGz38 6
       have hfz38_7 := Ye HGz38 7
       have hfz38_8 := Ye HGz38 8
       clear HGz38 hgz38
       go_enter Tryz.func44, Tryz.ntmps44
       go_wp2_with (first | ((with_reducible refine Yi (f := 80) rfl ?_); refine Yy (some 15) rfl rfl Tryz.func80 (by kernel_rfl) rfl #[.string s0_0, .string (⟨#[47, 92]⟩ : ByteArray)] rfl (by (try simp only [List.map_toArray, List.map_cons, List.map_nil]); first | done | rfl | (simp only [List.length_drop, List.length_take]; rfl)) ?_; (with_reducible refine (strings_IndexAny.calls s0_0 (⟨#[47, 92]⟩ : ByteArray) t281 _ ?side1 A2.out).mono ?_); (case side1 => first | exact HE.out | exact EnvOk.below HE.out (by repeat (first | (with_reducible first | exact HB.out | apply Yd | apply Yb | apply Yc | refine Yg ?_ (IsS53.ge HI0.out)) | exact HB.out))); rintro e w39 ⟨rfl, hb⟩; refine ⟨_, rfl, ?_⟩; have n0_ := Ya.mk (IsS53.below (by repeat (first | (with_reducible first | exact HI0.out | apply IsS53.alloc | apply IsS53.drewN | apply IsS53.drew | apply IsS53.set_0 | apply IsS53.set_1 | apply IsS53.set_2 | apply IsS53.set_3 | apply IsS53.set_4 | apply IsS53.set_5 | apply IsS53.set_6 | apply IsS53.set_7 | apply IsS53.set_8) | exact HI0.out)) hb); have n1_ := Ya.mk (KeepBut.trans (by repeat (first | (with_reducible first | exact HK.out | apply KeepBut.set_ | apply Yla | apply keep_drew | apply keep_alloc) | exact HK.out)) (KeepBut.of_below hb g none) (.inl rfl)); have n2_ := Ya.mk (Ys (by repeat (first | (with_reducible first | exact HB.out | apply Yd | apply Yb | apply Yc | refine Yg ?_ (IsS53.ge HI0.out)) | exact HB.out)) hb); clear HI0; clear HK; clear HB; have HI0 := n0_; have HK := n1_; have HB := n2_; clear n0_ n1_ n2_; (try clear hb); (try clear hb2); (try clear hk); (try clear hi); obtain ⟨HGz40, hgz40⟩ := HI0.out; have hcz40_0 := Yjb HGz40; have hcz40_1 := Yxb HGz40; have hcz40_2 := Ywb HGz40; have hcz40_3 := Yvb HGz40; have hcz40_4 := Yqb HGz40; have hcz40_5 := Ypb HGz40; have hcz40_6 := Ymb HGz40; have hcz40_7 := Yob HGz40; have hcz40_8 := Ynb HGz40; have hfz40_0 := Ye HGz40 0; have hfz40_1 := Ye HGz40 1; have hfz40_2 := Ye HGz40 2; have hfz40_3 := Ye HGz40 3; have hfz40_4 := Ye HGz40 4; have hfz40_5 := Ye HGz40 5; have hfz40_6 := Ye HGz40 6; have hfz40_7 := Ye HGz40 7; have hfz40_8 := Ye HGz40 8; clear HGz40 hgz40) | ((with_reducible refine Yi (f := 81) rfl ?_); refine Yy (some 23) rfl rfl Tryz.func81 (by kernel_rfl) rfl #[.string s0_0, .string (⟨#[47, 92]⟩ : ByteArray)] rfl (by (try simp only [List.map_toArray, List.map_cons, List.map_nil]); first | done | rfl | (simp only [List.length_drop, List.length_take]; rfl)) ?_; (with_reducible refine (Yub.calls s0_0 (⟨#[47, 92]⟩ : ByteArray) t282 _ ?side1 A4.out).mono ?_); (case side1 => first | exact HE.out | exact EnvOk.below HE.out (by repeat (first | (with_reducible first | exact HB.out | apply Yd | apply Yb | apply Yc | refine Yg ?_ (IsS53.ge HI0.out)) | exact HB.out))); rintro e w41 ⟨rfl, hb⟩; refine ⟨_, rfl, ?_⟩; have n0_ := Ya.mk (IsS53.below (by repeat (first | (with_reducible first | exact HI0.out | apply IsS53.alloc | apply IsS53.drewN | apply IsS53.drew | apply IsS53.set_0 | apply IsS53.set_1 | apply IsS53.set_2 | apply IsS53.set_3 | apply IsS53.set_4 | apply IsS53.set_5 | apply IsS53.set_6 | apply IsS53.set_7 | apply IsS53.set_8) | exact HI0.out)) hb); have n1_ := Ya.mk (KeepBut.trans (by repeat (first | (with_reducible first | exact HK.out | apply KeepBut.set_ | apply Yla | apply keep_drew | apply keep_alloc) | exact HK.out)) (KeepBut.of_below hb g none) (.inl rfl)); have n2_ := Ya.mk (Ys (by repeat (first | (with_reducible first | exact HB.out | apply Yd | apply Yb | apply Yc | refine Yg ?_ (IsS53.ge HI0.out)) | exact HB.out)) hb); clear HI0; clear HK; clear HB; have HI0 := n0_; have HK := n1_; have HB := n2_; clear n0_ n1_ n2_; (try clear hb); (try clear hb2); (try clear hk); (try clear hi); obtain ⟨HGz42, hgz42⟩ := HI0.out; have hcz42_0 := Yjb HGz42; have hcz42_1 := Yxb HGz42; have hcz42_2 := Ywb HGz42; have hcz42_3 := Yvb HGz42; have hcz42_4 := Yqb HGz42; have hcz42_5 := Ypb HGz42; have hcz42_6 := Ymb HGz42; have hcz42_7 := Yob HGz42; have hcz42_8 := Ynb HGz42; have hfz42_0 := Ye HGz42 0; have hfz42_1 := Ye HGz42 1; have hfz42_2 := Ye HGz42 2; have hfz42_3 := Ye HGz42 3; have hfz42_4 := Ye HGz42 4; have hfz42_5 := Ye HGz42 5; have hfz42_6 := Ye HGz42 6; have hfz42_7 := Ye HGz42 7; have hfz42_8 := Ye HGz42 8; clear HGz42 hgz42) | ((with_reducible refine Yi (f := 82) rfl ?_); refine Yy (some 30) rfl rfl Tryz.func82 (by kernel_rfl) rfl #[.pointer (some ⟨g, 0, none⟩), .string (⟨#[47, 92, 63, 35]⟩ : ByteArray)] rfl (by (try simp only [List.map_toArray, List.map_cons, List.map_nil]); first | done | rfl | (simp only [List.length_drop, List.length_take]; rfl)) ?_; (with_reducible refine (Ylb.calls g t282 s0_1 s0_2 s0_3 s0_4 s0_5 s0_6 s0_7 s0_8 (⟨#[47, 92, 63, 35]⟩ : ByteArray) t283 t284 t285 t286 t287 t288 t289 t290 t291 t292 w0 _ ?side1 ?side2 ?side3 A5.out).mono ?_); (case side1 => exact HE.out); (case side2 => repeat (first | (with_reducible first | exact HI0.out | apply IsS53.alloc | apply IsS53.drewN | apply IsS53.drew | apply IsS53.set_0 | apply IsS53.set_1 | apply IsS53.set_2 | apply IsS53.set_3 | apply IsS53.set_4 | apply IsS53.set_5 | apply IsS53.set_6 | apply IsS53.set_7 | apply IsS53.set_8) | exact HI0.out)); (case side3 => repeat (first | (with_reducible first | exact HB.out | apply Yd | apply Yb | apply Yc | refine Yg ?_ (IsS53.ge HI0.out)) | exact HB.out)); rintro e w43 ⟨rfl, hi, hb, hk⟩; refine ⟨_, rfl, ?_⟩; have n0_ := Ya.mk (KeepBut.trans (by repeat (first | (with_reducible first | exact HK.out | apply KeepBut.set_ | apply Yla | apply keep_drew | apply keep_alloc) | exact HK.out)) hk (.inl rfl)); have n1_ := Ya.mk (hb); have n2_ := Ya.mk (hi); clear HK; clear HB; clear HI0; have HK := n0_; have HB := n1_; have HI0 := n2_; clear n0_ n1_ n2_; (try clear hb); (try clear hb2); (try clear hk); (try clear hi)) | ((with_reducible refine Yi (f := 79) rfl ?_); refine Yy (some 32) rfl rfl Tryz.func79 (by kernel_rfl) rfl #[.string t283, .int .u8 64] rfl (by (try simp only [List.map_toArray, List.map_cons, List.map_nil]); first | done | rfl | (simp only [List.length_drop, List.length_take]; rfl)) ?_; (with_reducible refine (strings_IndexByte.calls t283 64 t293 _ ?side1 A6.out).mono ?_); (case side1 => first | exact HE.out | exact EnvOk.below HE.out (by repeat (first | (with_reducible first | exact HB.out | apply Yd | apply Yb | apply Yc | refine Yg ?_ (IsS53.ge HI0.out)) | exact HB.out))); rintro e w' ⟨rfl, ⟨nd, rfl⟩⟩; refine ⟨_, rfl, ?_⟩; (try (rw [Yaf w43]; generalize hq_ : World.drewN w43 _ = w43; have n0_ : Ya (IsS53 w0 w43 g t284 t285 t286 t287 t288 t289 t290 t291 t292) := ⟨by rw [← hq_]; exact (by repeat (first | (with_reducible first | exact HI0.out | apply IsS53.alloc | apply IsS53.drewN | apply IsS53.drew | apply IsS53.set_0 | apply IsS53.set_1 | apply IsS53.set_2 | apply IsS53.set_3 | apply IsS53.set_4 | apply IsS53.set_5 | apply IsS53.set_6 | apply IsS53.set_7 | apply IsS53.set_8) | exact HI0.out))⟩; have n1_ : Ya (KeepBut w w43 g none) := ⟨by rw [← hq_]; exact (by repeat (first | (with_reducible first | exact HK.out | apply KeepBut.set_ | apply Yla | apply keep_drew | apply keep_alloc) | exact HK.out))⟩; have n2_ : Ya (Below w0.heap.size w0 w43) := ⟨by rw [← hq_]; exact (by repeat (first | (with_reducible first | exact HB.out | apply Yd | apply Yb | apply Yc | refine Yg ?_ (IsS53.ge HI0.out)) | exact HB.out))⟩; clear HI0 HK HB hq_; have HI0 := n0_; have HK := n1_; have HB := n2_; clear n0_ n1_ n2_))) | ((with_reducible refine Yi (f := 76) rfl ?_); refine Yy (some 36) rfl rfl Tryz.func76 (by kernel_rfl) rfl #[.string t283, .string (⟨#[58]⟩ : ByteArray)] rfl (by (try simp only [List.map_toArray, List.map_cons, List.map_nil]); first | done | rfl | (simp only [List.length_drop, List.length_take]; rfl)) ?_; (with_reducible refine (strings_Cut.calls t283 (⟨#[58]⟩ : ByteArray) t294 t295 t296 _ ?side1 A14.out).mono ?_); (case side1 => first | exact HE.out | exact EnvOk.below HE.out (by repeat (first | (with_reducible first | exact HB.out | apply Yd | apply Yb | apply Yc | refine Yg ?_ (IsS53.ge HI0.out)) | exact HB.out))); rintro e w' ⟨rfl, ⟨nd, rfl⟩⟩; refine ⟨_, rfl, ?_⟩; (try (rw [Yaf w43]; generalize hq_ : World.drewN w43 _ = w43; have n0_ : Ya (IsS53 w0 w43 g t284 t285 t286 t287 t288 t289 t290 t291 t292) := ⟨by rw [← hq_]; exact (by repeat (first | (with_reducible first | exact HI0.out | apply IsS53.alloc | apply IsS53.drewN | apply IsS53.drew | apply IsS53.set_0 | apply IsS53.set_1 | apply IsS53.set_2 | apply IsS53.set_3 | apply IsS53.set_4 | apply IsS53.set_5 | apply IsS53.set_6 | apply IsS53.set_7 | apply IsS53.set_8) | exact HI0.out))⟩; have n1_ : Ya (KeepBut w w43 g none) := ⟨by rw [← hq_]; exact (by repeat (first | (with_reducible first | exact HK.out | apply KeepBut.set_ | apply Yla | apply keep_drew | apply keep_alloc) | exact HK.out))⟩; have n2_ : Ya (Below w0.heap.size w0 w43) := ⟨by rw [← hq_]; exact (by repeat (first | (with_reducible first | exact HB.out | apply Yd | apply Yb | apply Yc | refine Yg ?_ (IsS53.ge HI0.out)) | exact HB.out))⟩; clear HI0 HK HB hq_; have HI0 := n0_; have HK := n1_; have HB := n2_; clear n0_ n1_ n2_))) | ((with_reducible refine Yi (f := 19) rfl ?_); refine Yy (some 42) rfl rfl Tryz.func19 (by kernel_rfl) rfl #[.string t294] rfl (by (try simp only [List.map_toArray, List.map_cons, List.map_nil]); first | done | rfl | (simp only [List.length_drop, List.length_take]; rfl)) ?_; (with_reducible refine (Yqd.calls k t294 t297 t298 _ ?side1 A15.out).mono ?_); (case side1 => first | exact HE.out | exact EnvOk.below HE.out (by repeat (first | (with_reducible first | exact HB.out | apply Yd | apply Yb | apply Yc | refine Yg ?_ (IsS53.ge HI0.out)) | exact HB.out))); rintro e w44 ⟨rfl, hb⟩; refine ⟨_, rfl, ?_⟩; have n0_ := Ya.mk (IsS53.below (by repeat (first | (with_reducible first | exact HI0.out | apply IsS53.alloc | apply IsS53.drewN | apply IsS53.drew | apply IsS53.set_0 | apply IsS53.set_1 | apply IsS53.set_2 | apply IsS53.set_3 | apply IsS53.set_4 | apply IsS53.set_5 | apply IsS53.set_6 | apply IsS53.set_7 | apply IsS53.set_8) | exact HI0.out)) hb); have n1_ := Ya.mk (KeepBut.trans (by repeat (first | (with_reducible first | exact HK.out | apply KeepBut.set_ | apply Yla | apply keep_drew | apply keep_alloc) | exact HK.out)) (KeepBut.of_below hb g none) (.inl rfl)); have n2_ := Ya.mk (Ys (by repeat (first | (with_reducible first | exact HB.out | apply Yd | apply Yb | apply Yc | refine Yg ?_ (IsS53.ge HI0.out)) | exact HB.out)) hb); clear HI0; clear HK; clear HB; have HI0 := n0_; have HK := n1_; have HB := n2_; clear n0_ n1_ n2_; (try clear hb); (try clear hb2); (try clear hk); (try clear hi); obtain ⟨HGz45, hgz45⟩ := HI0.out; have hcz45_0 := Yjb HGz45; have hcz45_1 := Yxb HGz45; have hcz45_2 := Ywb HGz45; have hcz45_3 := Yvb HGz45; have hcz45_4 := Yqb HGz45; have hcz45_5 := Ypb HGz45; have hcz45_6 := Ymb HGz45; have hcz45_7 := Yob HGz45; have hcz45_8 := Ynb HGz45; have hfz45_0 := Ye HGz45 0; have hfz45_1 := Ye HGz45 1; have hfz45_2 := Ye HGz45 2; have hfz45_3 := Ye HGz45 3; have hfz45_4 := Ye HGz45 4; have hfz45_5 := Ye HGz45 5; have hfz45_6 := Ye HGz45 6; have hfz45_7 := Ye HGz45 7; have hfz45_8 := Ye HGz45 8; clear HGz45 hgz45) | ((with_reducible refine Yi (f := 83) rfl ?_); refine Yy (some 57) rfl rfl Tryz.func83 (by kernel_rfl) rfl #[.string t295, .int .i64 65535] rfl (by (try simp only [List.map_toArray, List.map_cons, List.map_nil]); first | done | rfl | (simp only [List.length_drop, List.length_take]; rfl)) ?_; (with_reducible refine (Yz.calls k t295 65535 t299 t300 _ ?side1 A26.out).mono ?_); (case side1 => first | exact HE.out | exact EnvOk.below HE.out (by repeat (first | (with_reducible first | exact HB.out | apply Yd | apply Yb | apply Yc | refine Yg ?_ (IsS53.ge HI0.out)) | exact HB.out))); rintro e w' ⟨rfl, ⟨nd, rfl⟩⟩; refine ⟨_, rfl, ?_⟩) | ((with_reducible refine Yi (f := 84) rfl ?_); refine Yy (some 68) rfl rfl Tryz.func84 (by kernel_rfl) rfl #[.string t285] rfl (by (try simp only [List.map_toArray, List.map_cons, List.map_nil]); first | done | rfl | (simp only [List.length_drop, List.length_take]; rfl)) ?_; (with_reducible refine (Yye.calls t285 t301 _ ?side1 A28.out).mono ?_); (case side1 => first | exact HE.out | exact EnvOk.below HE.out (by repeat (first | (with_reducible first | exact HB.out | apply Yd | apply Yb | apply Yc | refine Yg ?_ (IsS53.ge HI0.out)) | exact HB.out))); rintro e w' ⟨rfl, ⟨nd, rfl⟩⟩; refine ⟨_, rfl, ?_⟩))
       go_ret
       exact ⟨by first | rfl | (simp [Yl, Ym] <;> rfl) | (simp [*, Yl, Ym] <;> rfl), by repeat (first | (with_reducible first | exact HI0.out | apply IsS53.alloc | apply IsS53.drewN | apply IsS53.drew | apply IsS53.set_0 | apply IsS53.set_1 | apply IsS53.set_2 | apply IsS53.set_3 | apply IsS53.set_4 | apply IsS53.set_5 | apply IsS53.set_6 | apply IsS53.set_7 | apply IsS53.set_8) | exact HI0.out), by repeat (first | (with_reducible first | exact HB.out | apply Yd | apply Yb | apply Yc | refine Yg ?_ (IsS53.ge HI0.out)) | exact HB.out), by repeat (first | (with_reducible first | exact HK.out | apply KeepBut.set_ | apply Yla | apply keep_drew | apply keep_alloc) | exact HK.out)⟩
     ·rw [if_neg c27] at H
      have c27b0 : (t300 == 0) = false := beq_eq_false_iff_ne.mpr c27
      have c27b1 : (t300 != 0) = true := bne_iff_ne.mpr c27
      simp only [Option.some.injEq, Prod.mk.injEq] at H
      obtain ⟨rfl, rfl, rfl, rfl, rfl, rfl, rfl, rfl, rfl, rfl⟩ := H
      obtain ⟨HGz46, hgz46⟩ := HI0.out
      have hcz46_0 := Yjb HGz46
      have hcz46_1 := Yxb HGz46
      have hcz46_2 := Ywb HGz46
      have hcz46_3 := Yvb HGz46
      have hcz46_4 := Yqb HGz46
      have hcz46_5 := Ypb HGz46
      have hcz46_6 := Ymb HGz46
      have hcz46_7 := Yob HGz46
      have hcz46_8 := Ynb HGz46
      have hfz46_0 := Ye HGz46 0
      have hfz46_1 := Ye HGz46 1
      have hfz46_2 := Ye HGz46 2
      have hfz46_3 := Ye HGz46 3
      have hfz46_4 := Ye HGz46 4
      have hfz46_5 := Ye HGz46 5
      have hfz46_6 := Ye HGz46 6
      have hfz46_7 := Ye HGz46 7
      have hfz46_8 := Ye HGz46 8
      clear HGz46 hgz46
      go_enter Tryz.func44, Tryz.ntmps44
      go_wp2_with (first | ((with_reducible refine Yi (f := 80) rfl ?_); refine Yy (some 15) rfl rfl Tryz.func80 (by kernel_rfl) rfl #[.string s0_0, .string (⟨#[47, 92]⟩ : ByteArray)] rfl (by (try simp only [List.map_toArray, List.map_cons, List.map_nil]); first | done | rfl | (simp only [List.length_drop, List.length_take]; rfl)) ?_; (with_reducible refine (strings_IndexAny.calls s0_0 (⟨#[47, 92]⟩ : ByteArray) t281 _ ?side1 A2.out).mono ?_); (case side1 => first | exact HE.out | exact EnvOk.below HE.out (by repeat (first | (with_reducible first | exact HB.out | apply Yd | apply Yb | apply Yc | refine Yg ?_ (IsS53.ge HI0.out)) | exact HB.out))); rintro e w47 ⟨rfl, hb⟩; refine ⟨_, rfl, ?_⟩; have n0_ := Ya.mk (IsS53.below (by repeat (first | (with_reducible first | exact HI0.out | apply IsS53.alloc | apply IsS53.drewN | apply IsS53.drew | apply IsS53.set_0 | apply IsS53.set_1 | apply IsS53.set_2 | apply IsS53.set_3 | apply IsS53.set_4 | apply IsS53.set_5 | apply IsS53.set_6 | apply IsS53.set_7 | apply IsS53.set_8) | exact HI0.out)) hb); have n1_ := Ya.mk (KeepBut.trans (by repeat (first | (with_reducible first | exact HK.out | apply KeepBut.set_ | apply Yla | apply keep_drew | apply keep_alloc) | exact HK.out)) (KeepBut.of_below hb g none) (.inl rfl)); have n2_ := Ya.mk (Ys (by repeat (first | (with_reducible first | exact HB.out | apply Yd | apply Yb | apply Yc | refine Yg ?_ (IsS53.ge HI0.out)) | exact HB.out)) hb); clear HI0; clear HK; clear HB; have HI0 := n0_; have HK := n1_; have HB := n2_; clear n0_ n1_ n2_; (try clear hb); (try clear hb2); (try clear hk); (try clear hi); obtain ⟨HGz48, hgz48⟩ := HI0.out; have hcz48_0 := Yjb HGz48; have hcz48_1 := Yxb HGz48; have hcz48_2 := Ywb HGz48; have hcz48_3 := Yvb HGz48; have hcz48_4 := Yqb HGz48; have hcz48_5 := Ypb HGz48; have hcz48_6 := Ymb HGz48; have hcz48_7 := Yob HGz48; have hcz48_8 := Ynb HGz48; have hfz48_0 := Ye HGz48 0; have hfz48_1 := Ye HGz48 1; have hfz48_2 := Ye HGz48 2; have hfz48_3 := Ye HGz48 3; have hfz48_4 := Ye HGz48 4; have hfz48_5 := Ye HGz48 5; have hfz48_6 := Ye HGz48 6; have hfz48_7 := Ye HGz48 7; have hfz48_8 := Ye HGz48 8; clear HGz48 hgz48) | ((with_reducible refine Yi (f := 81) rfl ?_); refine Yy (some 23) rfl rfl Tryz.func81 (by kernel_rfl) rfl #[.string s0_0, .string (⟨#[47, 92]⟩ : ByteArray)] rfl (by (try simp only [List.map_toArray, List.map_cons, List.map_nil]); first | done | rfl | (simp only [List.length_drop, List.length_take]; rfl)) ?_; (with_reducible refine (Yub.calls s0_0 (⟨#[47, 92]⟩ : ByteArray) t282 _ ?side1 A4.out).mono ?_); (case side1 => first | exact HE.out | exact EnvOk.below HE.out (by repeat (first | (with_reducible first | exact HB.out | apply Yd | apply Yb | apply Yc | refine Yg ?_ (IsS53.ge HI0.out)) | exact HB.out))); rintro e w49 ⟨rfl, hb⟩; refine ⟨_, rfl, ?_⟩; have n0_ := Ya.mk (IsS53.below (by repeat (first | (with_reducible first | exact HI0.out | apply IsS53.alloc | apply IsS53.drewN | apply IsS53.drew | apply IsS53.set_0 | apply IsS53.set_1 | apply IsS53.set_2 | apply IsS53.set_3 | apply IsS53.set_4 | apply IsS53.set_5 | apply IsS53.set_6 | apply IsS53.set_7 | apply IsS53.set_8) | exact HI0.out)) hb); have n1_ := Ya.mk (KeepBut.trans (by repeat (first | (with_reducible first | exact HK.out | apply KeepBut.set_ | apply Yla | apply keep_drew | apply keep_alloc) | exact HK.out)) (KeepBut.of_below hb g none) (.inl rfl)); have n2_ := Ya.mk (Ys (by repeat (first | (with_reducible first | exact HB.out | apply Yd | apply Yb | apply Yc | refine Yg ?_ (IsS53.ge HI0.out)) | exact HB.out)) hb); clear HI0; clear HK; clear HB; have HI0 := n0_; have HK := n1_; have HB := n2_; clear n0_ n1_ n2_; (try clear hb); (try clear hb2); (try clear hk); (try clear hi); obtain ⟨HGz50, hgz50⟩ := HI0.out; have hcz50_0 := Yjb HGz50; have hcz50_1 := Yxb HGz50; have hcz50_2 := Ywb HGz50; have hcz50_3 := Yvb HGz50; have hcz50_4 := Yqb HGz50; have hcz50_5 := Ypb HGz50; have hcz50_6 := Ymb HGz50; have hcz50_7 := Yob HGz50; have hcz50_8 := Ynb HGz50; have hfz50_0 := Ye HGz50 0; have hfz50_1 := Ye HGz50 1; have hfz50_2 := Ye HGz50 2; have hfz50_3 := Ye HGz50 3; have hfz50_4 := Ye HGz50 4; have hfz50_5 := Ye HGz50 5; have hfz50_6 := Ye HGz50 6; have hfz50_7 := Ye HGz50 7; have hfz50_8 := Ye HGz50 8; clear HGz50 hgz50) | ((with_reducible refine Yi (f := 82) rfl ?_); refine Yy (some 30) rfl rfl Tryz.func82 (by kernel_rfl) rfl #[.pointer (some ⟨g, 0, none⟩), .string (⟨#[47, 92, 63, 35]⟩ : ByteArray)] rfl (by (try simp only [List.map_toArray, List.map_cons, List.map_nil]); first | done | rfl | (simp only [List.length_drop, List.length_take]; rfl)) ?_; (with_reducible refine (Ylb.calls g t282 s0_1 s0_2 s0_3 s0_4 s0_5 s0_6 s0_7 s0_8 (⟨#[47, 92, 63, 35]⟩ : ByteArray) t283 t284 t285 t286 t287 t288 t289 t290 t291 t292 w0 _ ?side1 ?side2 ?side3 A5.out).mono ?_); (case side1 => exact HE.out); (case side2 => repeat (first | (with_reducible first | exact HI0.out | apply IsS53.alloc | apply IsS53.drewN | apply IsS53.drew | apply IsS53.set_0 | apply IsS53.set_1 | apply IsS53.set_2 | apply IsS53.set_3 | apply IsS53.set_4 | apply IsS53.set_5 | apply IsS53.set_6 | apply IsS53.set_7 | apply IsS53.set_8) | exact HI0.out)); (case side3 => repeat (first | (with_reducible first | exact HB.out | apply Yd | apply Yb | apply Yc | refine Yg ?_ (IsS53.ge HI0.out)) | exact HB.out)); rintro e w51 ⟨rfl, hi, hb, hk⟩; refine ⟨_, rfl, ?_⟩; have n0_ := Ya.mk (KeepBut.trans (by repeat (first | (with_reducible first | exact HK.out | apply KeepBut.set_ | apply Yla | apply keep_drew | apply keep_alloc) | exact HK.out)) hk (.inl rfl)); have n1_ := Ya.mk (hb); have n2_ := Ya.mk (hi); clear HK; clear HB; clear HI0; have HK := n0_; have HB := n1_; have HI0 := n2_; clear n0_ n1_ n2_; (try clear hb); (try clear hb2); (try clear hk); (try clear hi)) | ((with_reducible refine Yi (f := 79) rfl ?_); refine Yy (some 32) rfl rfl Tryz.func79 (by kernel_rfl) rfl #[.string t283, .int .u8 64] rfl (by (try simp only [List.map_toArray, List.map_cons, List.map_nil]); first | done | rfl | (simp only [List.length_drop, List.length_take]; rfl)) ?_; (with_reducible refine (strings_IndexByte.calls t283 64 t293 _ ?side1 A6.out).mono ?_); (case side1 => first | exact HE.out | exact EnvOk.below HE.out (by repeat (first | (with_reducible first | exact HB.out | apply Yd | apply Yb | apply Yc | refine Yg ?_ (IsS53.ge HI0.out)) | exact HB.out))); rintro e w' ⟨rfl, ⟨nd, rfl⟩⟩; refine ⟨_, rfl, ?_⟩; (try (rw [Yaf w51]; generalize hq_ : World.drewN w51 _ = w51; have n0_ : Ya (IsS53 w0 w51 g t284 t285 t286 t287 t288 t289 t290 t291 t292) := ⟨by rw [← hq_]; exact (by repeat (first | (with_reducible first | exact HI0.out | apply IsS53.alloc | apply IsS53.drewN | apply IsS53.drew | apply IsS53.set_0 | apply IsS53.set_1 | apply IsS53.set_2 | apply IsS53.set_3 | apply IsS53.set_4 | apply IsS53.set_5 | apply IsS53.set_6 | apply IsS53.set_7 | apply IsS53.set_8) | exact HI0.out))⟩; have n1_ : Ya (KeepBut w w51 g none) := ⟨by rw [← hq_]; exact (by repeat (first | (with_reducible first | exact HK.out | apply KeepBut.set_ | apply Yla | apply keep_drew | apply keep_alloc) | exact HK.out))⟩; have n2_ : Ya (Below w0.heap.size w0 w51) := ⟨by rw [← hq_]; exact (by repeat (first | (with_reducible first | exact HB.out | apply Yd | apply Yb | apply Yc | refine Yg ?_ (IsS53.ge HI0.out)) | exact HB.out))⟩; clear HI0 HK HB hq_; have HI0 := n0_; have HK := n1_; have HB := n2_; clear n0_ n1_ n2_))) | ((with_reducible refine Yi (f := 76) rfl ?_); refine Yy (some 36) rfl rfl Tryz.func76 (by kernel_rfl) rfl #[.string t283, .string (⟨#[58]⟩ : ByteArray)] rfl (by (try simp only [List.map_toArray, List.map_cons, List.map_nil]); first | done | rfl | (simp only [List.length_drop, List.length_take]; rfl)) ?_; (with_reducible refine (strings_Cut.calls t283 (⟨#[58]⟩ : ByteArray) t294 t295 t296 _ ?side1 A14.out).mono ?_); (case side1 => first | exact HE.out | exact EnvOk.below HE.out (by repeat (first | (with_reducible first | exact HB.out | apply Yd | apply Yb | apply Yc | refine Yg ?_ (IsS53.ge HI0.out)) | exact HB.out))); rintro e w' ⟨rfl, ⟨nd, rfl⟩⟩; refine ⟨_, rfl, ?_⟩; (try (rw [Yaf w51]; generalize hq_ : World.drewN w51 _ = w51; have n0_ : Ya (IsS53 w0 w51 g t284 t285 t286 t287 t288 t289 t290 t291 t292) := ⟨by rw [← hq_]; exact (by repeat (first | (with_reducible first | exact HI0.out | apply IsS53.alloc | apply IsS53.drewN | apply IsS53.drew | apply IsS53.set_0 | apply IsS53.set_1 | apply IsS53.set_2 | apply IsS53.set_3 | apply IsS53.set_4 | apply IsS53.set_5 | apply IsS53.set_6 | apply IsS53.set_7 | apply IsS53.set_8) | exact HI0.out))⟩; have n1_ : Ya (KeepBut w w51 g none) := ⟨by rw [← hq_]; exact (by repeat (first | (with_reducible first | exact HK.out | apply KeepBut.set_ | apply Yla | apply keep_drew | apply keep_alloc) | exact HK.out))⟩; have n2_ : Ya (Below w0.heap.size w0 w51) := ⟨by rw [← hq_]; exact (by repeat (first | (with_reducible first | exact HB.out | apply Yd | apply Yb | apply Yc | refine Yg ?_ (IsS53.ge HI0.out)) | exact HB.out))⟩; clear HI0 HK HB hq_; have HI0 := n0_; have HK := n1_; have HB := n2_; clear n0_ n1_ n2_))) | ((with_reducible refine Yi (f := 19) rfl ?_); refine Yy (some 42) rfl rfl Tryz.func19 (by kernel_rfl) rfl #[.string t294] rfl (by (try simp only [List.map_toArray, List.map_cons, List.map_nil]); first | done | rfl | (simp only [List.length_drop, List.length_take]; rfl)) ?_; (with_reducible refine (Yqd.calls k t294 t297 t298 _ ?side1 A15.out).mono ?_); (case side1 => first | exact HE.out | exact EnvOk.below HE.out (by repeat (first | (with_reducible first | exact HB.out | apply Yd | apply Yb | apply Yc | refine Yg ?_ (IsS53.ge HI0.out)) | exact HB.out))); rintro e w52 ⟨rfl, hb⟩; refine ⟨_, rfl, ?_⟩; have n0_ := Ya.mk (IsS53.below (by repeat (first | (with_reducible first | exact HI0.out | apply IsS53.alloc | apply IsS53.drewN | apply IsS53.drew | apply IsS53.set_0 | apply IsS53.set_1 | apply IsS53.set_2 | apply IsS53.set_3 | apply IsS53.set_4 | apply IsS53.set_5 | apply IsS53.set_6 | apply IsS53.set_7 | apply IsS53.set_8) | exact HI0.out)) hb); have n1_ := Ya.mk (KeepBut.trans (by repeat (first | (with_reducible first | exact HK.out | apply KeepBut.set_ | apply Yla | apply keep_drew | apply keep_alloc) | exact HK.out)) (KeepBut.of_below hb g none) (.inl rfl)); have n2_ := Ya.mk (Ys (by repeat (first | (with_reducible first | exact HB.out | apply Yd | apply Yb | apply Yc | refine Yg ?_ (IsS53.ge HI0.out)) | exact HB.out)) hb); clear HI0; clear HK; clear HB; have HI0 := n0_; have HK := n1_; have HB := n2_; clear n0_ n1_ n2_; (try clear hb); (try clear hb2); (try clear hk); (try clear hi); obtain ⟨HGz53, hgz53⟩ := HI0.out; have hcz53_0 := Yjb HGz53; have hcz53_1 := Yxb HGz53; have hcz53_2 := Ywb HGz53; have hcz53_3 := Yvb HGz53; have hcz53_4 := Yqb HGz53; have hcz53_5 := Ypb HGz53; have hcz53_6 := Ymb HGz53; have hcz53_7 := Yob HGz53; have hcz53_8 := Ynb HGz53; have hfz53_0 := Ye HGz53 0; have hfz53_1 := Ye HGz53 1; have hfz53_2 := Ye HGz53 2; have hfz53_3 := Ye HGz53 3; have hfz53_4 := Ye HGz53 4; have hfz53_5 := Ye HGz53 5; have hfz53_6 := Ye HGz53 6; have hfz53_7 := Ye HGz53 7; have hfz53_8 := Ye HGz53 8; clear HGz53 hgz53) | ((with_reducible refine Yi (f := 83) rfl ?_); refine Yy (some 57) rfl rfl Tryz.func83 (by kernel_rfl) rfl #[.string t295, .int .i64 65535] rfl (by (try simp only [List.map_toArray, List.map_cons, List.map_nil]); first | done | rfl | (simp only [List.length_drop, List.length_take]; rfl)) ?_; (with_reducible refine (Yz.calls k t295 65535 t299 t300 _ ?side1 A26.out).mono ?_); (case side1 => first | exact HE.out | exact EnvOk.below HE.out (by repeat (first | (with_reducible first | exact HB.out | apply Yd | apply Yb | apply Yc | refine Yg ?_ (IsS53.ge HI0.out)) | exact HB.out))); rintro e w' ⟨rfl, ⟨nd, rfl⟩⟩; refine ⟨_, rfl, ?_⟩))
      go_ret
      exact ⟨by first | rfl | (simp [Yl, Ym] <;> rfl) | (simp [*, Yl, Ym] <;> rfl), by repeat (first | (with_reducible first | exact HI0.out | apply IsS53.alloc | apply IsS53.drewN | apply IsS53.drew | apply IsS53.set_0 | apply IsS53.set_1 | apply IsS53.set_2 | apply IsS53.set_3 | apply IsS53.set_4 | apply IsS53.set_5 | apply IsS53.set_6 | apply IsS53.set_7 | apply IsS53.set_8) | exact HI0.out), by repeat (first | (with_reducible first | exact HB.out | apply Yd | apply Yb | apply Yc | refine Yg ?_ (IsS53.ge HI0.out)) | exact HB.out), by repeat (first | (with_reducible first | exact HK.out | apply KeepBut.set_ | apply Yla | apply keep_drew | apply keep_alloc) | exact HK.out)⟩
   ·rw [if_neg c16] at H
    have c16b0 : (t298 == 0) = false := beq_eq_false_iff_ne.mpr c16
    have c16b1 : (t298 != 0) = true := bne_iff_ne.mpr c16
    simp only [Option.some.injEq, Prod.mk.injEq] at H
    obtain ⟨rfl, rfl, rfl, rfl, rfl, rfl, rfl, rfl, rfl, rfl⟩ := H
    obtain ⟨HGz54, hgz54⟩ := HI0.out
    have hcz54_0 := Yjb HGz54
    have hcz54_1 := Yxb HGz54
    have hcz54_2 := Ywb HGz54
    have hcz54_3 := Yvb HGz54
    have hcz54_4 := Yqb HGz54
    have hcz54_5 := Ypb HGz54
    have hcz54_6 := Ymb HGz54
    have hcz54_7 := Yob HGz54
    have hcz54_8 := Ynb HGz54
    have hfz54_0 := Ye HGz54 0
    have hfz54_1 := Ye HGz54 1
    have hfz54_2 := Ye HGz54 2
    have hfz54_3 := Ye HGz54 3
    have hfz54_4 := Ye HGz54 4
    have hfz54_5 := Ye HGz54 5
    have hfz54_6 := Ye HGz54 6
    have hfz54_7 := Ye HGz54 7
    have hfz54_8 := Ye HGz54 8
    clear HGz54 hgz54
    go_enter Tryz.func44, Tryz.ntmps44
    go_wp2_with (first | ((with_reducible refine Yi (f := 80) rfl ?_); refine Yy (some 15) rfl rfl Tryz.func80 (by kernel_rfl) rfl #[.string s0_0, .string (⟨#[47, 92]⟩ : ByteArray)] rfl (by (try simp only [List.map_toArray, List.map_cons, List.map_nil]); first | done | rfl | (simp only [List.length_drop, List.length_take]; rfl)) ?_; (with_reducible refine (strings_IndexAny.calls s0_0 (⟨#[47, 92]⟩ : ByteArray) t281 _ ?side1 A2.out).mono ?_); (case side1 => first | exact HE.out | exact EnvOk.below HE.out (by repeat (first | (with_reducible first | exact HB.out | apply Yd | apply Yb | apply Yc | refine Yg ?_ (IsS53.ge HI0.out)) | exact HB.out))); rintro e w55 ⟨rfl, hb⟩; refine ⟨_, rfl, ?_⟩; have n0_ := Ya.mk (IsS53.below (by repeat (first | (with_reducible first | exact HI0.out | apply IsS53.alloc | apply IsS53.drewN | apply IsS53.drew | apply IsS53.set_0 | apply IsS53.set_1 | apply IsS53.set_2 | apply IsS53.set_3 | apply IsS53.set_4 | apply IsS53.set_5 | apply IsS53.set_6 | apply IsS53.set_7 | apply IsS53.set_8) | exact HI0.out)) hb); have n1_ := Ya.mk (KeepBut.trans (by repeat (first | (with_reducible first | exact HK.out | apply KeepBut.set_ | apply Yla | apply keep_drew | apply keep_alloc) | exact HK.out)) (KeepBut.of_below hb g none) (.inl rfl)); have n2_ := Ya.mk (Ys (by repeat (first | (with_reducible first | exact HB.out | apply Yd | apply Yb | apply Yc | refine Yg ?_ (IsS53.ge HI0.out)) | exact HB.out)) hb); clear HI0; clear HK; clear HB; have HI0 := n0_; have HK := n1_; have HB := n2_; clear n0_ n1_ n2_; (try clear hb); (try clear hb2); (try clear hk); (try clear hi); obtain ⟨HGz56, hgz56⟩ := HI0.out; have hcz56_0 := Yjb HGz56; have hcz56_1 := Yxb HGz56; have hcz56_2 := Ywb HGz56; have hcz56_3 := Yvb HGz56; have hcz56_4 := Yqb HGz56; have hcz56_5 := Ypb HGz56; have hcz56_6 := Ymb HGz56; have hcz56_7 := Yob HGz56; have hcz56_8 := Ynb HGz56; have hfz56_0 := Ye HGz56 0; have hfz56_1 := Ye HGz56 1; have hfz56_2 := Ye HGz56 2; have hfz56_3 := Ye HGz56 3; have hfz56_4 := Ye HGz56 4; have hfz56_5 := Ye HGz56 5; have hfz56_6 := Ye HGz56 6; have hfz56_7 := Ye HGz56 7; have hfz56_8 := Ye HGz56 8; clear HGz56 hgz56) | ((with_reducible refine Yi (f := 81) rfl ?_); refine Yy (some 23) rfl rfl Tryz.func81 (by kernel_rfl) rfl #[.string s0_0, .string (⟨#[47, 92]⟩ : ByteArray)] rfl (by (try simp only [List.map_toArray, List.map_cons, List.map_nil]); first | done | rfl | (simp only [List.length_drop, List.length_take]; rfl)) ?_; (with_reducible refine (Yub.calls s0_0 (⟨#[47, 92]⟩ : ByteArray) t282 _ ?side1 A4.out).mono ?_); (case side1 => first | exact HE.out | exact EnvOk.below HE.out (by repeat (first | (with_reducible first | exact HB.out | apply Yd | apply Yb | apply Yc | refine Yg ?_ (IsS53.ge HI0.out)) | exact HB.out))); rintro e w57 ⟨rfl, hb⟩; refine ⟨_, rfl, ?_⟩; have n0_ := Ya.mk (IsS53.below (by repeat (first | (with_reducible first | exact HI0.out | apply IsS53.alloc | apply IsS53.drewN | apply IsS53.drew | apply IsS53.set_0 | apply IsS53.set_1 | apply IsS53.set_2 | apply IsS53.set_3 | apply IsS53.set_4 | apply IsS53.set_5 | apply IsS53.set_6 | apply IsS53.set_7 | apply IsS53.set_8) | exact HI0.out)) hb); have n1_ := Ya.mk (KeepBut.trans (by repeat (first | (with_reducible first | exact HK.out | apply KeepBut.set_ | apply Yla | apply keep_drew | apply keep_alloc) | exact HK.out)) (KeepBut.of_below hb g none) (.inl rfl)); have n2_ := Ya.mk (Ys (by repeat (first | (with_reducible first | exact HB.out | apply Yd | apply Yb | apply Yc | refine Yg ?_ (IsS53.ge HI0.out)) | exact HB.out)) hb); clear HI0; clear HK; clear HB; have HI0 := n0_; have HK := n1_; have HB := n2_; clear n0_ n1_ n2_; (try clear hb); (try clear hb2); (try clear hk); (try clear hi); obtain ⟨HGz58, hgz58⟩ := HI0.out; have hcz58_0 := Yjb HGz58; have hcz58_1 := Yxb HGz58; have hcz58_2 := Ywb HGz58; have hcz58_3 := Yvb HGz58; have hcz58_4 := Yqb HGz58; have hcz58_5 := Ypb HGz58; have hcz58_6 := Ymb HGz58; have hcz58_7 := Yob HGz58; have hcz58_8 := Ynb HGz58; have hfz58_0 := Ye HGz58 0; have hfz58_1 := Ye HGz58 1; have hfz58_2 := Ye HGz58 2; have hfz58_3 := Ye HGz58 3; have hfz58_4 := Ye HGz58 4; have hfz58_5 := Ye HGz58 5; have hfz58_6 := Ye HGz58 6; have hfz58_7 := Ye HGz58 7; have hfz58_8 := Ye HGz58 8; clear HGz58 hgz58) | ((with_reducible refine Yi (f := 82) rfl ?_); refine Yy (some 30) rfl rfl Tryz.func82 (by kernel_rfl) rfl #[.pointer (some ⟨g, 0, none⟩), .string (⟨#[47, 92, 63, 35]⟩ : ByteArray)] rfl (by (try simp only [List.map_toArray, List.map_cons, List.map_nil]); first | done | rfl | (simp only [List.length_drop, List.length_take]; rfl)) ?_; (with_reducible refine (Ylb.calls g t282 s0_1 s0_2 s0_3 s0_4 s0_5 s0_6 s0_7 s0_8 (⟨#[47, 92, 63, 35]⟩ : ByteArray) t283 t284 t285 t286 t287 t288 t289 t290 t291 t292 w0 _ ?side1 ?side2 ?side3 A5.out).mono ?_); (case side1 => exact HE.out); (case side2 => repeat (first | (with_reducible first | exact HI0.out | apply IsS53.alloc | apply IsS53.drewN | apply IsS53.drew | apply IsS53.set_0 | apply IsS53.set_1 | apply IsS53.set_2 | apply IsS53.set_3 | apply IsS53.set_4 | apply IsS53.set_5 | apply IsS53.set_6 | apply IsS53.set_7 | apply IsS53.set_8) | exact HI0.out)); (case side3 => repeat (first | (with_reducible first | exact HB.out | apply Yd | apply Yb | apply Yc | refine Yg ?_ (IsS53.ge HI0.out)) | exact HB.out)); rintro e w59 ⟨rfl, hi, hb, hk⟩; refine ⟨_, rfl, ?_⟩; have n0_ := Ya.mk (KeepBut.trans (by repeat (first | (with_reducible first | exact HK.out | apply KeepBut.set_ | apply Yla | apply keep_drew | apply keep_alloc) | exact HK.out)) hk (.inl rfl)); have n1_ := Ya.mk (hb); have n2_ := Ya.mk (hi); clear HK; clear HB; clear HI0; have HK := n0_; have HB := n1_; have HI0 := n2_; clear n0_ n1_ n2_; (try clear hb); (try clear hb2); (try clear hk); (try clear hi)) | ((with_reducible refine Yi (f := 79) rfl ?_); refine Yy (some 32) rfl rfl Tryz.func79 (by kernel_rfl) rfl #[.string t283, .int .u8 64] rfl (by (try simp only [List.map_toArray, List.map_cons, List.map_nil]); first | done | rfl | (simp only [List.length_drop, List.length_take]; rfl)) ?_; (with_reducible refine (strings_IndexByte.calls t283 64 t293 _ ?side1 A6.out).mono ?_); (case side1 => first | exact HE.out | exact EnvOk.below HE.out (by repeat (first | (with_reducible first | exact HB.out | apply Yd | apply Yb | apply Yc | refine Yg ?_ (IsS53.ge HI0.out)) | exact HB.out))); rintro e w' ⟨rfl, ⟨nd, rfl⟩⟩; refine ⟨_, rfl, ?_⟩) | ((with_reducible refine Yi (f := 76) rfl ?_); refine Yy (some 36) rfl rfl Tryz.func76 (by kernel_rfl) rfl #[.string t283, .string (⟨#[58]⟩ : ByteArray)] rfl (by (try simp only [List.map_toArray, List.map_cons, List.map_nil]); first | done | rfl | (simp only [List.length_drop, List.length_take]; rfl)) ?_; (with_reducible refine (strings_Cut.calls t283 (⟨#[58]⟩ : ByteArray) t294 t295 t296 _ ?side1 A14.out).mono ?_); (case side1 => first | exact HE.out | exact EnvOk.below HE.out (by repeat (first | (with_reducible first | exact HB.out | apply Yd | apply Yb | apply Yc | refine Yg ?_ (IsS53.ge HI0.out)) | exact HB.out))); rintro e w' ⟨rfl, ⟨nd, rfl⟩⟩; refine ⟨_, rfl, ?_⟩) | ((with_reducible refine Yi (f := 19) rfl ?_); refine Yy (some 42) rfl rfl Tryz.func19 (by kernel_rfl) rfl #[.string t294] rfl (by (try simp only [List.map_toArray, List.map_cons, List.map_nil]); first | done | rfl | (simp only [List.length_drop, List.length_take]; rfl)) ?_; (with_reducible refine (Yqd.calls k t294 t297 t298 _ ?side1 A15.out).mono ?_); (case side1 => first | exact HE.out | exact EnvOk.below HE.out (by repeat (first | (with_reducible first | exact HB.out | apply Yd | apply Yb | apply Yc | refine Yg ?_ (IsS53.ge HI0.out)) | exact HB.out))); rintro e w60 ⟨rfl, hb⟩; refine ⟨_, rfl, ?_⟩; have n0_ := Ya.mk (IsS53.below (by repeat (first | (with_reducible first | exact HI0.out | apply IsS53.alloc | apply IsS53.drewN | apply IsS53.drew | apply IsS53.set_0 | apply IsS53.set_1 | apply IsS53.set_2 | apply IsS53.set_3 | apply IsS53.set_4 | apply IsS53.set_5 | apply IsS53.set_6 | apply IsS53.set_7 | apply IsS53.set_8) | exact HI0.out)) hb); have n1_ := Ya.mk (KeepBut.trans (by repeat (first | (with_reducible first | exact HK.out | apply KeepBut.set_ | apply Yla | apply keep_drew | apply keep_alloc) | exact HK.out)) (KeepBut.of_below hb g none) (.inl rfl)); have n2_ := Ya.mk (Ys (by repeat (first | (with_reducible first | exact HB.out | apply Yd | apply Yb | apply Yc | refine Yg ?_ (IsS53.ge HI0.out)) | exact HB.out)) hb); clear HI0; clear HK; clear HB; have HI0 := n0_; have HK := n1_; have HB := n2_; clear n0_ n1_ n2_; (try clear hb); (try clear hb2); (try clear hk); (try clear hi)))
    go_ret
    exact ⟨by first | rfl | (simp [Yl, Ym] <;> rfl) | (simp [*, Yl, Ym] <;> rfl), by repeat (first | (with_reducible first | exact HI0.out | apply IsS53.alloc | apply IsS53.drewN | apply IsS53.drew | apply IsS53.set_0 | apply IsS53.set_1 | apply IsS53.set_2 | apply IsS53.set_3 | apply IsS53.set_4 | apply IsS53.set_5 | apply IsS53.set_6 | apply IsS53.set_7 | apply IsS53.set_8) | exact HI0.out), by repeat (first | (with_reducible first | exact HB.out | apply Yd | apply Yb | apply Yc | refine Yg ?_ (IsS53.ge HI0.out)) | exact HB.out), by repeat (first | (with_reducible first | exact HK.out | apply KeepBut.set_ | apply Yla | apply keep_drew | apply keep_alloc) | exact HK.out)⟩
 ·rw [if_neg c3] at H
  have c3b0 : (t281 == 0) = false := beq_eq_false_iff_ne.mpr c3
  have c3b1 : (t281 != 0) = true := bne_iff_ne.mpr c3
  simp only [Option.some.injEq, Prod.mk.injEq] at H
  obtain ⟨rfl, rfl, rfl, rfl, rfl, rfl, rfl, rfl, rfl, rfl⟩ := H
  obtain ⟨HGz61, hgz61⟩ := HI0.out
  have hcz61_0 := Yjb HGz61
  have hcz61_1 := Yxb HGz61
  have hcz61_2 := Ywb HGz61
  have hcz61_3 := Yvb HGz61
  have hcz61_4 := Yqb HGz61
  have hcz61_5 := Ypb HGz61
  have hcz61_6 := Ymb HGz61
  have hcz61_7 := Yob HGz61
  have hcz61_8 := Ynb HGz61
  have hfz61_0 := Ye HGz61 0
  have hfz61_1 := Ye HGz61 1
  have hfz61_2 := Ye HGz61 2
  have hfz61_3 := Ye HGz61 3
  have hfz61_4 := Ye HGz61 4
  have hfz61_5 := Ye HGz61 5
  have hfz61_6 := Ye HGz61 6
  have hfz61_7 := Ye HGz61 7
  have hfz61_8 := Ye HGz61 8
  clear HGz61 hgz61
  go_enter Tryz.func44, Tryz.ntmps44
  go_wp2_with (first | ((with_reducible refine Yi (f := 80) rfl ?_); refine Yy (some 15) rfl rfl Tryz.func80 (by kernel_rfl) rfl #[.string s0_0, .string (⟨#[47, 92]⟩ : ByteArray)] rfl (by (try simp only [List.map_toArray, List.map_cons, List.map_nil]); first | done | rfl | (simp only [List.length_drop, List.length_take]; rfl)) ?_; (with_reducible refine (strings_IndexAny.calls s0_0 (⟨#[47, 92]⟩ : ByteArray) t281 _ ?side1 A2.out).mono ?_); (case side1 => first | exact HE.out | exact EnvOk.below HE.out (by repeat (first | (with_reducible first | exact HB.out | apply Yd | apply Yb | apply Yc | refine Yg ?_ (IsS53.ge HI0.out)) | exact HB.out))); rintro e w62 ⟨rfl, hb⟩; refine ⟨_, rfl, ?_⟩; have n0_ := Ya.mk (IsS53.below (by repeat (first | (with_reducible first | exact HI0.out | apply IsS53.alloc | apply IsS53.drewN | apply IsS53.drew | apply IsS53.set_0 | apply IsS53.set_1 | apply IsS53.set_2 | apply IsS53.set_3 | apply IsS53.set_4 | apply IsS53.set_5 | apply IsS53.set_6 | apply IsS53.set_7 | apply IsS53.set_8) | exact HI0.out)) hb); have n1_ := Ya.mk (KeepBut.trans (by repeat (first | (with_reducible first | exact HK.out | apply KeepBut.set_ | apply Yla | apply keep_drew | apply keep_alloc) | exact HK.out)) (KeepBut.of_below hb g none) (.inl rfl)); have n2_ := Ya.mk (Ys (by repeat (first | (with_reducible first | exact HB.out | apply Yd | apply Yb | apply Yc | refine Yg ?_ (IsS53.ge HI0.out)) | exact HB.out)) hb); clear HI0; clear HK; clear HB; have HI0 := n0_; have HK := n1_; have HB := n2_; clear n0_ n1_ n2_; (try clear hb); (try clear hb2); (try clear hk); (try clear hi)))
  go_ret
  exact ⟨by first | rfl | (simp [Yl, Ym] <;> rfl) | (simp [*, Yl, Ym] <;> rfl), by repeat (first | (with_reducible first | exact HI0.out | apply IsS53.alloc | apply IsS53.drewN | apply IsS53.drew | apply IsS53.set_0 | apply IsS53.set_1 | apply IsS53.set_2 | apply IsS53.set_3 | apply IsS53.set_4 | apply IsS53.set_5 | apply IsS53.set_6 | apply IsS53.set_7 | apply IsS53.set_8) | exact HI0.out), by repeat (first | (with_reducible first | exact HB.out | apply Yd | apply Yb | apply Yc | refine Yg ?_ (IsS53.ge HI0.out)) | exact HB.out), by repeat (first | (with_reducible first | exact HK.out | apply KeepBut.set_ | apply Yla | apply keep_drew | apply keep_alloc) | exact HK.out)⟩
def Ynh.f (a0 : ByteArray) : Option (Int) := (Ytb.f a0).bind fun t302 => ((strings_ReplaceAll.f t302 (⟨#[37, 50, 101]⟩ : ByteArray) (⟨#[46]⟩ : ByteArray)).bind fun t303 => (if t303.toList = ([46] : List UInt8) then (some 1) else (if t303.toList = ([46, 46] : List UInt8) then (some 2) else (some 0))))
set_option maxHeartbeats 8000000 in
set_option maxRecDepth 100000 in
theorem Ynh.calls (a0 : ByteArray) (r : Int) (w : World) (hE : EnvOk w) (h : Ynh.f a0 = some r) :
  Calls Tryz.prog 62 #[.string a0] w fun e w' => e = .returned (.int .i64 r) ∧ Below w.heap.size w w' := by
 have HE := Ya.mk hE
 clear hE
 have HB := Ya.mk (Below.refl w.heap.size w)
 have H : ((Ytb.f a0).bind fun t302 => ((strings_ReplaceAll.f t302 (⟨#[37, 50, 101]⟩ : ByteArray) (⟨#[46]⟩ : ByteArray)).bind fun t303 => (if t303.toList = ([46] : List UInt8) then (some 1) else (if t303.toList = ([46, 46] : List UInt8) then (some 2) else (some 0))))) = some r := h
 clear h
 replace H := Option.bind_eq_some_iff.mp H
 obtain ⟨t302, A20, H⟩ := H
 replace H : ((strings_ReplaceAll.f t302 (⟨#[37, 50, 101]⟩ : ByteArray) (⟨#[46]⟩ : ByteArray)).bind fun t303 => (if t303.toList = ([46] : List UInt8) then (some 1) else (if t303.toList = ([46, 46] : List UInt8) then (some 2) else (some 0)))) = some r := H
 have A2 := Ya.mk A20
 clear A20
 replace H := Option.bind_eq_some_iff.mp H
 obtain ⟨t303, A30, H⟩ := H
 replace H : (if t303.toList = ([46] : List UInt8) then (some 1) else (if t303.toList = ([46, 46] : List UInt8) then (some 2) else (some 0))) = some r := H
 have A3 := Ya.mk A30
 clear A30
 by_cases c4 : t303.toList = ([46] : List UInt8)
 ·rw [if_pos c4] at H
  have c4b0 : (t303.toList == ([46] : List UInt8)) = true := beq_iff_eq.mpr c4
  have c4b1 : (t303.toList != ([46] : List UInt8)) = false := bne_eq_false_iff_eq.mpr c4
  clear c4
  obtain rfl := Option.some.inj H
  go_enter Tryz.func62, Tryz.ntmps62
  go_wp2_with (first | ((with_reducible refine Yi (f := 52) rfl ?_); refine Yy (some 4) rfl rfl Tryz.func52 (by kernel_rfl) rfl #[.string a0] rfl (by (try simp only [List.map_toArray, List.map_cons, List.map_nil]); first | done | rfl | (simp only [List.length_drop, List.length_take]; rfl)) ?_; (with_reducible refine (Ytb.calls a0 t302 _ ?side1 A2.out).mono ?_); (case side1 => first | exact HE.out | exact EnvOk.below HE.out (by repeat (first | (with_reducible first | exact HB.out | apply Yd | apply Yb | apply Yc) | exact HB.out))); rintro e w5 ⟨rfl, hb⟩; refine ⟨_, rfl, ?_⟩; have n0_ := Ya.mk (Ys (by repeat (first | (with_reducible first | exact HB.out | apply Yd | apply Yb | apply Yc) | exact HB.out)) hb); clear HB; have HB := n0_; clear n0_; (try clear hb); (try clear hb2); (try clear hk); (try clear hi)) | ((with_reducible refine Yi (f := 59) rfl ?_); refine Yy (some 5) rfl rfl Tryz.func59 (by kernel_rfl) rfl #[.string t302, .string (⟨#[37, 50, 101]⟩ : ByteArray), .string (⟨#[46]⟩ : ByteArray)] rfl (by (try simp only [List.map_toArray, List.map_cons, List.map_nil]); first | done | rfl | (simp only [List.length_drop, List.length_take]; rfl)) ?_; (with_reducible refine (strings_ReplaceAll.calls t302 (⟨#[37, 50, 101]⟩ : ByteArray) (⟨#[46]⟩ : ByteArray) t303 _ ?side1 A3.out).mono ?_); (case side1 => first | exact HE.out | exact EnvOk.below HE.out (by repeat (first | (with_reducible first | exact HB.out | apply Yd | apply Yb | apply Yc) | exact HB.out))); rintro e w6 ⟨rfl, hb⟩; refine ⟨_, rfl, ?_⟩; have n0_ := Ya.mk (Ys (by repeat (first | (with_reducible first | exact HB.out | apply Yd | apply Yb | apply Yc) | exact HB.out)) hb); clear HB; have HB := n0_; clear n0_; (try clear hb); (try clear hb2); (try clear hk); (try clear hi)))
  go_ret
  exact ⟨by first | rfl | (simp [Yl, Ym] <;> rfl) | (simp [*, Yl, Ym] <;> rfl), by repeat (first | (with_reducible first | exact HB.out | apply Yd | apply Yb | apply Yc) | exact HB.out)⟩
 ·rw [if_neg c4] at H
  have c4b0 : (t303.toList == ([46] : List UInt8)) = false := beq_eq_false_iff_ne.mpr c4
  have c4b1 : (t303.toList != ([46] : List UInt8)) = true := bne_iff_ne.mpr c4
  by_cases c7 : t303.toList = ([46, 46] : List UInt8)
  ·rw [if_pos c7] at H
   have c7b0 : (t303.toList == ([46, 46] : List UInt8)) = true := beq_iff_eq.mpr c7
   have c7b1 : (t303.toList != ([46, 46] : List UInt8)) = false := bne_eq_false_iff_eq.mpr c7
   clear c7
   obtain rfl := Option.some.inj H
   go_enter Tryz.func62, Tryz.ntmps62
   go_wp2_with (first | ((with_reducible refine Yi (f := 52) rfl ?_); refine Yy (some 4) rfl rfl Tryz.func52 (by kernel_rfl) rfl #[.string a0] rfl (by (try simp only [List.map_toArray, List.map_cons, List.map_nil]); first | done | rfl | (simp only [List.length_drop, List.length_take]; rfl)) ?_; (with_reducible refine (Ytb.calls a0 t302 _ ?side1 A2.out).mono ?_); (case side1 => first | exact HE.out | exact EnvOk.below HE.out (by repeat (first | (with_reducible first | exact HB.out | apply Yd | apply Yb | apply Yc) | exact HB.out))); rintro e w8 ⟨rfl, hb⟩; refine ⟨_, rfl, ?_⟩; have n0_ := Ya.mk (Ys (by repeat (first | (with_reducible first | exact HB.out | apply Yd | apply Yb | apply Yc) | exact HB.out)) hb); clear HB; have HB := n0_; clear n0_; (try clear hb); (try clear hb2); (try clear hk); (try clear hi)) | ((with_reducible refine Yi (f := 59) rfl ?_); refine Yy (some 5) rfl rfl Tryz.func59 (by kernel_rfl) rfl #[.string t302, .string (⟨#[37, 50, 101]⟩ : ByteArray), .string (⟨#[46]⟩ : ByteArray)] rfl (by (try simp only [List.map_toArray, List.map_cons, List.map_nil]); first | done | rfl | (simp only [List.length_drop, List.length_take]; rfl)) ?_; (with_reducible refine (strings_ReplaceAll.calls t302 (⟨#[37, 50, 101]⟩ : ByteArray) (⟨#[46]⟩ : ByteArray) t303 _ ?side1 A3.out).mono ?_); (case side1 => first | exact HE.out | exact EnvOk.below HE.out (by repeat (first | (with_reducible first | exact HB.out | apply Yd | apply Yb | apply Yc) | exact HB.out))); rintro e w9 ⟨rfl, hb⟩; refine ⟨_, rfl, ?_⟩; have n0_ := Ya.mk (Ys (by repeat (first | (with_reducible first | exact HB.out | apply Yd | apply Yb | apply Yc) | exact HB.out)) hb); clear HB; have HB := n0_; clear n0_; (try clear hb); (try clear hb2); (try clear hk); (try clear hi)))
   go_ret
   exact ⟨by first | rfl | (simp [Yl, Ym] <;> rfl) | (simp [*, Yl, Ym] <;> rfl), by repeat (first | (with_reducible first | exact HB.out | apply Yd | apply Yb | apply Yc) | exact HB.out)⟩
  ·rw [if_neg c7] at H
   have c7b0 : (t303.toList == ([46, 46] : List UInt8)) = false := beq_eq_false_iff_ne.mpr c7
   have c7b1 : (t303.toList != ([46, 46] : List UInt8)) = true := bne_iff_ne.mpr c7
   obtain rfl := Option.some.inj H
   go_enter Tryz.func62, Tryz.ntmps62
   go_wp2_with (first | ((with_reducible refine Yi (f := 52) rfl ?_); refine Yy (some 4) rfl rfl Tryz.func52 (by kernel_rfl) rfl #[.string a0] rfl (by (try simp only [List.map_toArray, List.map_cons, List.map_nil]); first | done | rfl | (simp only [List.length_drop, List.length_take]; rfl)) ?_; (with_reducible refine (Ytb.calls a0 t302 _ ?side1 A2.out).mono ?_); (case side1 => first | exact HE.out | exact EnvOk.below HE.out (by repeat (first | (with_reducible first | exact HB.out | apply Yd | apply Yb | apply Yc) | exact HB.out))); rintro e w10 ⟨rfl, hb⟩; refine ⟨_, rfl, ?_⟩; have n0_ := Ya.mk (Ys (by repeat (first | (with_reducible first | exact HB.out | apply Yd | apply Yb | apply Yc) | exact HB.out)) hb); clear HB; have HB := n0_; clear n0_; (try clear hb); (try clear hb2); (try clear hk); (try clear hi)) | ((with_reducible refine Yi (f := 59) rfl ?_); refine Yy (some 5) rfl rfl Tryz.func59 (by kernel_rfl) rfl #[.string t302, .string (⟨#[37, 50, 101]⟩ : ByteArray), .string (⟨#[46]⟩ : ByteArray)] rfl (by (try simp only [List.map_toArray, List.map_cons, List.map_nil]); first | done | rfl | (simp only [List.length_drop, List.length_take]; rfl)) ?_; (with_reducible refine (strings_ReplaceAll.calls t302 (⟨#[37, 50, 101]⟩ : ByteArray) (⟨#[46]⟩ : ByteArray) t303 _ ?side1 A3.out).mono ?_); (case side1 => first | exact HE.out | exact EnvOk.below HE.out (by repeat (first | (with_reducible first | exact HB.out | apply Yd | apply Yb | apply Yc) | exact HB.out))); rintro e w11 ⟨rfl, hb⟩; refine ⟨_, rfl, ?_⟩; have n0_ := Ya.mk (Ys (by repeat (first | (with_reducible first | exact HB.out | apply Yd | apply Yb | apply Yc) | exact HB.out)) hb); clear HB; have HB := n0_; clear n0_; (try clear hb); (try clear hb2); (try clear hk); (try clear hi)))
   go_ret
   exact ⟨by first | rfl | (simp [Yl, Ym] <;> rfl) | (simp [*, Yl, Ym] <;> rfl), by repeat (first | (with_reducible first | exact HB.out | apply Yd | apply Yb | apply Yc) | exact HB.out)⟩
end Go.Proofs.YtnmglnglbdpjjaaGreatDoor.X
