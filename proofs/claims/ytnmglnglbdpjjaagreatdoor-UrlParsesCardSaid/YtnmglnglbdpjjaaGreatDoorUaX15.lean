/- Printed by a program of ours (xprint.py) out of the translation: functions as plain Lean, and what a call of each does; nothing is taken on trust: Lean checks it. -/
import Derived.Test.YtnmglnglbdpjjaaGreatDoorUaX0
import Derived.Test.YtnmglnglbdpjjaaGreatDoorUaX3
import Derived.Test.YtnmglnglbdpjjaaGreatDoorUaX4
import Derived.Test.YtnmglnglbdpjjaaGreatDoorUaH0
import Derived.Test.YtnmglnglbdpjjaaGreatDoorUaH1
namespace Go.Proofs.YtnmglnglbdpjjaaGreatDoor.X
open Go.RowKit Go.Proofs.YtnmglnglbdpjjaaGreatDoorW.PrintWords Go.Proofs.YtnmglnglbdpjjaaGreatDoorW.PrintLast Go.Proofs.YtnmglnglbdpjjaaGreatDoorW.PrintMore
attribute [local go_sem] max2_int min2_int max_two min_two max_three min_three max_four min_four   -- for this text's walks alone
set_option linter.unusedVariables false
set_option linter.unusedSimpArgs false
-- EXTERN: function 52 (ascii_Lower)
mutual
def url_parser_scheme.j0 : Nat → ByteArray → ByteArray → Bool → ByteArray → ByteArray → ByteArray → Int → ByteArray → ByteArray → ByteArray → Bool → Bool → Option (Int × ByteArray × ByteArray × ByteArray × Int × ByteArray × ByteArray × ByteArray × Bool × Bool)
 | 0, _, _, _, _, _, _, _, _, _, _, _, _ => none
 | k + 1, x3, x4, x29, x1000, x1001, x1002, x1003, x1004, x1005, x1006, x1007, x1008 => if x29 = true then (some (3, x1000, x1001, x1002, x1003, x1004, x1005, x1006, x1007, x1008)) else (url_parser_scheme.l0 k x3 x4 (x3.size : Int) 0 x1000 x1001 x1002 x1003 x1004 x1005 x1006 x1007 x1008)
def url_parser_scheme.l0 : Nat → ByteArray → ByteArray → Int → Int → ByteArray → ByteArray → ByteArray → Int → ByteArray → ByteArray → ByteArray → Bool → Bool → Option (Int × ByteArray × ByteArray × ByteArray × Int × ByteArray × ByteArray × ByteArray × Bool × Bool)
 | 0, _, _, _, _, _, _, _, _, _, _, _, _, _ => none
 | k + 1, x3, x4, x31, x32, x1000, x1001, x1002, x1003, x1004, x1005, x1006, x1007, x1008 => if x32 < x31 then (if 0 ≤ x32 then (if x32 < (x3.size : Int) then ((ascii_IsLetter.f (bt x3 x32)).bind fun t283 => (if t283 = true then (url_parser_scheme.l0 k x3 x4 x31 (wrap64 (x32 + 1)) x1000 x1001 x1002 x1003 x1004 x1005 x1006 x1007 x1008) else ((ascii_IsDigit.f (bt x3 x32)).bind fun t284 => (if t284 = true then (url_parser_scheme.l0 k x3 x4 x31 (wrap64 (x32 + 1)) x1000 x1001 x1002 x1003 x1004 x1005 x1006 x1007 x1008) else ((strings_IndexByte.f (⟨#[43, 45, 46]⟩ : ByteArray) (bt x3 x32)).bind fun t285 => (if t285 < 0 then (some (3, x1000, x1001, x1002, x1003, x1004, x1005, x1006, x1007, x1008)) else (url_parser_scheme.l0 k x3 x4 x31 (wrap64 (x32 + 1)) x1000 x1001 x1002 x1003 x1004 x1005 x1006 x1007 x1008))))))) else (none)) else (none)) else ((ascii_Lower.f x3).bind fun t282 => (if t282.toList = ([104, 116, 116, 112] : List UInt8) then (some (0, x4, t282, x1002, x1003, x1004, x1005, x1006, x1007, x1008)) else (if t282.toList = ([104, 116, 116, 112, 115] : List UInt8) then (some (0, x4, t282, x1002, x1003, x1004, x1005, x1006, x1007, x1008)) else (some (16, x4, t282, x1002, x1003, x1004, x1005, x1006, x1007, x1008)))))
end
def url_parser_scheme.f (k : Nat) (s0_0 : ByteArray) (s0_1 : ByteArray) (s0_2 : ByteArray) (s0_3 : Int) (s0_4 : ByteArray) (s0_5 : ByteArray) (s0_6 : ByteArray) (s0_7 : Bool) (s0_8 : Bool) : Option (Int × ByteArray × ByteArray × ByteArray × Int × ByteArray × ByteArray × ByteArray × Bool × Bool) := (strings_Cut.f s0_0 (⟨#[58]⟩ : ByteArray)).bind fun bt278 => (if bt278.2.2 = true then (if bt278.1.toList = ([] : List UInt8) then (url_parser_scheme.j0 k bt278.1 bt278.2.1 true s0_0 s0_1 s0_2 s0_3 s0_4 s0_5 s0_6 s0_7 s0_8) else (if 0 < (bt278.1.size : Int) then ((ascii_IsLetter.f (bt bt278.1 0)).bind fun t281 => (url_parser_scheme.j0 k bt278.1 bt278.2.1 (!t281) s0_0 s0_1 s0_2 s0_3 s0_4 s0_5 s0_6 s0_7 s0_8)) else (none))) else (url_parser_scheme.j0 k bt278.1 bt278.2.1 true s0_0 s0_1 s0_2 s0_3 s0_4 s0_5 s0_6 s0_7 s0_8))
theorem url_parser_scheme.mono_l : ∀ k, (∀ y0 y1 y2 y3 y4 y5 y6 y7 y8 y9 y10 y11, LeO (url_parser_scheme.j0 k y0 y1 y2 y3 y4 y5 y6 y7 y8 y9 y10 y11) (url_parser_scheme.j0 (k + 1) y0 y1 y2 y3 y4 y5 y6 y7 y8 y9 y10 y11)) ∧ (∀ y0 y1 y2 y3 y4 y5 y6 y7 y8 y9 y10 y11 y12, LeO (url_parser_scheme.l0 k y0 y1 y2 y3 y4 y5 y6 y7 y8 y9 y10 y11 y12) (url_parser_scheme.l0 (k + 1) y0 y1 y2 y3 y4 y5 y6 y7 y8 y9 y10 y11 y12))
 | 0 => ⟨fun _ _ _ _ _ _ _ _ _ _ _ _ r h => by simp [url_parser_scheme.j0] at h, fun _ _ _ _ _ _ _ _ _ _ _ _ _ r h => by simp [url_parser_scheme.l0] at h⟩
 | k + 1 => by
  obtain ⟨ih0, ih1⟩ := url_parser_scheme.mono_l k
  refine ⟨?_, ?_⟩
  ·intro y0 y1 y2 y3 y4 y5 y6 y7 y8 y9 y10 y11
   unfold url_parser_scheme.j0
   repeat' first
   | (with_reducible exact ih0 _ _ _ _ _ _ _ _ _ _ _ _)
   | (with_reducible exact ih1 _ _ _ _ _ _ _ _ _ _ _ _ _)
   | (with_reducible exact LeO.refl _)
   | (with_reducible exact LeO.none _)
   | (with_reducible refine LeO.ite ?_ ?_)
   | (with_reducible refine LeO.bind ?_ (fun _ => ?_))
   | exact ih0 _ _ _ _ _ _ _ _ _ _ _ _
   | exact ih1 _ _ _ _ _ _ _ _ _ _ _ _ _
   | exact LeO.none _
   | refine LeO.ite ?_ ?_
   | refine LeO.bind ?_ (fun _ => ?_)
  ·intro y0 y1 y2 y3 y4 y5 y6 y7 y8 y9 y10 y11 y12
   unfold url_parser_scheme.l0
   repeat' first
   | (with_reducible exact ih0 _ _ _ _ _ _ _ _ _ _ _ _)
   | (with_reducible exact ih1 _ _ _ _ _ _ _ _ _ _ _ _ _)
   | (with_reducible exact LeO.refl _)
   | (with_reducible exact LeO.none _)
   | (with_reducible refine LeO.ite ?_ ?_)
   | (with_reducible refine LeO.bind ?_ (fun _ => ?_))
   | exact ih0 _ _ _ _ _ _ _ _ _ _ _ _
   | exact ih1 _ _ _ _ _ _ _ _ _ _ _ _ _
   | exact LeO.none _
   | refine LeO.ite ?_ ?_
   | refine LeO.bind ?_ (fun _ => ?_)
theorem url_parser_scheme.mono : ∀ a0 a1 a2 a3 a4 a5 a6 a7 a8 k, LeO (url_parser_scheme.f k a0 a1 a2 a3 a4 a5 a6 a7 a8) (url_parser_scheme.f (k + 1) a0 a1 a2 a3 a4 a5 a6 a7 a8) := by
 intro a0 a1 a2 a3 a4 a5 a6 a7 a8 k
 obtain ⟨ih0, ih1⟩ := url_parser_scheme.mono_l k
 unfold url_parser_scheme.f
 repeat' first
   | (with_reducible exact ih0 _ _ _ _ _ _ _ _ _ _ _ _)
   | (with_reducible exact ih1 _ _ _ _ _ _ _ _ _ _ _ _ _)
   | (with_reducible exact LeO.refl _)
   | (with_reducible exact LeO.none _)
   | (with_reducible refine LeO.ite ?_ ?_)
   | (with_reducible refine LeO.bind ?_ (fun _ => ?_))
   | exact ih0 _ _ _ _ _ _ _ _ _ _ _ _
   | exact ih1 _ _ _ _ _ _ _ _ _ _ _ _ _
   | exact LeO.none _
   | refine LeO.ite ?_ ?_
   | refine LeO.bind ?_ (fun _ => ?_)
set_option maxHeartbeats 8000000 in
set_option maxRecDepth 100000 in
theorem url_parser_scheme.calls (k : Nat) (g : Nat) (s0_0 : ByteArray) (s0_1 : ByteArray) (s0_2 : ByteArray) (s0_3 : Int) (s0_4 : ByteArray) (s0_5 : ByteArray) (s0_6 : ByteArray) (s0_7 : Bool) (s0_8 : Bool) (r1 : Int) (r2 : ByteArray) (r3 : ByteArray) (r4 : ByteArray) (r5 : Int) (r6 : ByteArray) (r7 : ByteArray) (r8 : ByteArray) (r9 : Bool) (r10 : Bool) (w0 w : World) (hE : EnvOk w0) (hI : IsS53 w0 w g s0_0 s0_1 s0_2 s0_3 s0_4 s0_5 s0_6 s0_7 s0_8) (hB : Below w0.heap.size w0 w) (h : url_parser_scheme.f k s0_0 s0_1 s0_2 s0_3 s0_4 s0_5 s0_6 s0_7 s0_8 = some (r1, r2, r3, r4, r5, r6, r7, r8, r9, r10)) :
  Calls Tryz.prog 43 #[.pointer (some ⟨g, 0, none⟩)] w fun e w' => e = .returned (.int .i64 r1) ∧ IsS53 w0 w' g r2 r3 r4 r5 r6 r7 r8 r9 r10 ∧ Below w0.heap.size w0 w' ∧ KeepBut w w' g none := by
 have HI0 := Aside0.mk hI
 have HK := Aside0.mk (KeepBut.refl w g none)
 have HL := Aside0.mk hB.size
 clear hI
 have HE := Aside0.mk hE
 clear hE
 have HW0 := Aside0.mk hB.size
 have HB := Aside0.mk hB
 clear hB
 have H : ((strings_Cut.f s0_0 (⟨#[58]⟩ : ByteArray)).bind fun bt278 => (if bt278.2.2 = true then (if bt278.1.toList = ([] : List UInt8) then (url_parser_scheme.j0 k bt278.1 bt278.2.1 true s0_0 s0_1 s0_2 s0_3 s0_4 s0_5 s0_6 s0_7 s0_8) else (if 0 < (bt278.1.size : Int) then ((ascii_IsLetter.f (bt bt278.1 0)).bind fun t281 => (url_parser_scheme.j0 k bt278.1 bt278.2.1 (!t281) s0_0 s0_1 s0_2 s0_3 s0_4 s0_5 s0_6 s0_7 s0_8)) else (none))) else (url_parser_scheme.j0 k bt278.1 bt278.2.1 true s0_0 s0_1 s0_2 s0_3 s0_4 s0_5 s0_6 s0_7 s0_8))) = some (r1, r2, r3, r4, r5, r6, r7, r8, r9, r10) := h
 clear h
 replace H := Option.bind_eq_some_iff.mp H
 obtain ⟨⟨t278, t279, t280⟩, A20, H⟩ := H
 replace H : (if t280 = true then (if t278.toList = ([] : List UInt8) then (url_parser_scheme.j0 k t278 t279 true s0_0 s0_1 s0_2 s0_3 s0_4 s0_5 s0_6 s0_7 s0_8) else (if 0 < (t278.size : Int) then ((ascii_IsLetter.f (bt t278 0)).bind fun t281 => (url_parser_scheme.j0 k t278 t279 (!t281) s0_0 s0_1 s0_2 s0_3 s0_4 s0_5 s0_6 s0_7 s0_8)) else (none))) else (url_parser_scheme.j0 k t278 t279 true s0_0 s0_1 s0_2 s0_3 s0_4 s0_5 s0_6 s0_7 s0_8)) = some (r1, r2, r3, r4, r5, r6, r7, r8, r9, r10) := H
 have A2 := Aside0.mk A20
 clear A20
 have HC3 := Aside0.mk H
 clear H
 obtain ⟨HGz4, hgz4⟩ := HI0.out
 have hcz4_0 := cellS53_0 HGz4
 have hcz4_1 := cellS53_1 HGz4
 have hcz4_2 := cellS53_2 HGz4
 have hcz4_3 := cellS53_3 HGz4
 have hcz4_4 := cellS53_4 HGz4
 have hcz4_5 := cellS53_5 HGz4
 have hcz4_6 := cellS53_6 HGz4
 have hcz4_7 := cellS53_7 HGz4
 have hcz4_8 := cellS53_8 HGz4
 have hfz4_0 := blk_frozen HGz4 0
 have hfz4_1 := blk_frozen HGz4 1
 have hfz4_2 := blk_frozen HGz4 2
 have hfz4_3 := blk_frozen HGz4 3
 have hfz4_4 := blk_frozen HGz4 4
 have hfz4_5 := blk_frozen HGz4 5
 have hfz4_6 := blk_frozen HGz4 6
 have hfz4_7 := blk_frozen HGz4 7
 have hfz4_8 := blk_frozen HGz4 8
 clear HGz4 hgz4
 go_enter Tryz.func43, Tryz.ntmps43
 go_upto_region 2 with (first | ((with_reducible refine gate_callee (f := 76) rfl ?_); refine goesL_ (some 14) rfl rfl Tryz.func76 (by kernel_rfl) rfl #[.string s0_0, .string (⟨#[58]⟩ : ByteArray)] rfl (by (try simp only [List.map_toArray, List.map_cons, List.map_nil]); first | done | rfl | (simp only [List.length_drop, List.length_take]; rfl)) ?_; (with_reducible refine (strings_Cut.calls s0_0 (⟨#[58]⟩ : ByteArray) t278 t279 t280 _ ?side1 A2.out).mono ?_); (case side1 => first | exact HE.out | exact EnvOk.below HE.out (by repeat (first | (with_reducible first | exact HB.out | apply below_alloc | apply pw_below_drewN | apply below_drew1 | refine below_set ?_ (IsS53.ge HI0.out)) | exact HB.out))); rintro e w' ⟨rfl, ⟨nd, rfl⟩⟩; refine ⟨_, rfl, ?_⟩))
 (try simp only [Act.put, List.setIfInBounds_toArray, List.set_cons_zero, List.set_cons_succ])
 go_cut [29] (fun v29 wc => ∃ (kq : Nat) (x29_2 : Bool), v29 = .bool x29_2 ∧ Aside0 (url_parser_scheme.j0 kq t278 t279 x29_2 s0_0 s0_1 s0_2 s0_3 s0_4 s0_5 s0_6 s0_7 s0_8 = some (r1, r2, r3, r4, r5, r6, r7, r8, r9, r10)) ∧ Aside0 (kq ≤ k) ∧ Aside0 (IsS53 w0 wc g s0_0 s0_1 s0_2 s0_3 s0_4 s0_5 s0_6 s0_7 s0_8) ∧ Aside0 (KeepBut w wc g none) ∧ Aside0 (Below w0.heap.size w0 wc))
 case first =>
  have H := HC3.out
  clear HC3
  by_cases c5 : t280 = true
  ·subst c5
   have H1 : (if t278.toList = ([] : List UInt8) then (url_parser_scheme.j0 k t278 t279 true s0_0 s0_1 s0_2 s0_3 s0_4 s0_5 s0_6 s0_7 s0_8) else (if 0 < (t278.size : Int) then ((ascii_IsLetter.f (bt t278 0)).bind fun t281 => (url_parser_scheme.j0 k t278 t279 (!t281) s0_0 s0_1 s0_2 s0_3 s0_4 s0_5 s0_6 s0_7 s0_8)) else (none))) = some (r1, r2, r3, r4, r5, r6, r7, r8, r9, r10) := by rw [if_pos rfl] at H; exact H
   clear H
   have H := H1
   clear H1
   by_cases c6 : t278.toList = ([] : List UInt8)
   ·rw [if_pos c6] at H
    have c6b0 : (t278.toList == ([] : List UInt8)) = true := beq_iff_eq.mpr c6
    have c6b1 : (t278.toList != ([] : List UInt8)) = false := bne_eq_false_iff_eq.mpr c6
    clear c6
    (first | rw [c6b0] | (simp only [i64_w, i32_w]; rw [c6b0]) | skip)
    have H' := Aside0.mk H
    clear H
    go_wp2
    go_meet
    case rel => exact ⟨_, (true), (by first | rfl | (simp; done) | (simp [*]; done)), H', ⟨by first | omega | exact Nat.le_refl _⟩, ⟨by repeat (first | (with_reducible first | exact HI0.out | apply IsS53.alloc | apply IsS53.drewN | apply IsS53.drew | apply IsS53.set_0 | apply IsS53.set_1 | apply IsS53.set_2 | apply IsS53.set_3 | apply IsS53.set_4 | apply IsS53.set_5 | apply IsS53.set_6 | apply IsS53.set_7 | apply IsS53.set_8) | exact HI0.out)⟩, ⟨by repeat (first | (with_reducible first | exact HK.out | apply KeepBut.set_ | apply keep_drewN | apply keep_drew | apply keep_alloc) | exact HK.out)⟩, ⟨by repeat (first | (with_reducible first | exact HB.out | apply below_alloc | apply pw_below_drewN | apply below_drew1 | refine below_set ?_ (IsS53.ge HI0.out)) | exact HB.out)⟩⟩
   ·rw [if_neg c6] at H
    have c6b0 : (t278.toList == ([] : List UInt8)) = false := beq_eq_false_iff_ne.mpr c6
    have c6b1 : (t278.toList != ([] : List UInt8)) = true := bne_iff_ne.mpr c6
    (first | rw [c6b0] | (simp only [i64_w, i32_w]; rw [c6b0]) | skip)
    by_cases c7 : 0 < (t278.size : Int)
    ·rw [if_pos c7] at H
     have c7b0 : decide (0 < (t278.size : Int)) = true := decide_eq_true c7
     have c7b1 : decide (0 < t278.size) = true := decide_eq_true (by omega)
     clear c7
     replace H := Option.bind_eq_some_iff.mp H
     obtain ⟨t281, A90, H⟩ := H
     replace H : (url_parser_scheme.j0 k t278 t279 (!t281) s0_0 s0_1 s0_2 s0_3 s0_4 s0_5 s0_6 s0_7 s0_8) = some (r1, r2, r3, r4, r5, r6, r7, r8, r9, r10) := H
     have A9 := Aside0.mk A90
     clear A90
     have H' := Aside0.mk H
     clear H
     have p8 : 0 ≤ (0 : Int) := (by omega)
     have q8 : 0 < t278.size := (by have : (0 : Int) < (t278.size : Int) := of_decide_eq_true (by first | (with_reducible assumption) | assumption); omega)
     have hx8 : ∀ h : 0 < t278.size, ((t278[0]'h).toNat : Int) = bt t278 0 := bt_at t278 0
     clear p8
     have qi8 : (0 < (t278.size : Int)) = True := eq_true (of_decide_eq_true (by first | (with_reducible assumption) | assumption))
     replace q8 := eq_true q8
     go_wp2_with (first | (go_at_call 77; (with_reducible refine (ascii_IsLetter.calls (bt t278 0) t281 _ ?side1 A9.out).mono ?_); (case side1 => first | exact HE.out | exact EnvOk.below HE.out (by repeat (first | (with_reducible first | exact HB.out | apply below_alloc | apply pw_below_drewN | apply below_drew1 | refine below_set ?_ (IsS53.ge HI0.out)) | exact HB.out))); rintro e w' ⟨rfl, ⟨nd, rfl⟩⟩))
     go_meet
     case rel => exact ⟨_, (!t281), (by first | rfl | (simp; done) | (simp [*]; done)), H', ⟨by first | omega | exact Nat.le_refl _⟩, ⟨by repeat (first | (with_reducible first | exact HI0.out | apply IsS53.alloc | apply IsS53.drewN | apply IsS53.drew | apply IsS53.set_0 | apply IsS53.set_1 | apply IsS53.set_2 | apply IsS53.set_3 | apply IsS53.set_4 | apply IsS53.set_5 | apply IsS53.set_6 | apply IsS53.set_7 | apply IsS53.set_8) | exact HI0.out)⟩, ⟨by repeat (first | (with_reducible first | exact HK.out | apply KeepBut.set_ | apply keep_drewN | apply keep_drew | apply keep_alloc) | exact HK.out)⟩, ⟨by repeat (first | (with_reducible first | exact HB.out | apply below_alloc | apply pw_below_drewN | apply below_drew1 | refine below_set ?_ (IsS53.ge HI0.out)) | exact HB.out)⟩⟩
    ·rw [if_neg c7] at H
     exact absurd H (by simp)
  ·replace c5 := Bool.eq_false_iff.mpr c5
   subst c5
   have H1 : (url_parser_scheme.j0 k t278 t279 true s0_0 s0_1 s0_2 s0_3 s0_4 s0_5 s0_6 s0_7 s0_8) = some (r1, r2, r3, r4, r5, r6, r7, r8, r9, r10) := by rw [if_neg (show ¬ (false = true) by decide)] at H; exact H
   clear H
   have H := H1
   clear H1
   have H' := Aside0.mk H
   clear H
   go_wp2
   go_meet
   case rel => exact ⟨_, (true), (by first | rfl | (simp; done) | (simp [*]; done)), H', ⟨by first | omega | exact Nat.le_refl _⟩, ⟨by repeat (first | (with_reducible first | exact HI0.out | apply IsS53.alloc | apply IsS53.drewN | apply IsS53.drew | apply IsS53.set_0 | apply IsS53.set_1 | apply IsS53.set_2 | apply IsS53.set_3 | apply IsS53.set_4 | apply IsS53.set_5 | apply IsS53.set_6 | apply IsS53.set_7 | apply IsS53.set_8) | exact HI0.out)⟩, ⟨by repeat (first | (with_reducible first | exact HK.out | apply KeepBut.set_ | apply keep_drewN | apply keep_drew | apply keep_alloc) | exact HK.out)⟩, ⟨by repeat (first | (with_reducible first | exact HB.out | apply below_alloc | apply pw_below_drewN | apply below_drew1 | refine below_set ?_ (IsS53.ge HI0.out)) | exact HB.out)⟩⟩
 case rest =>
  clear HC3
  try clear p2
  try clear c4
  try clear c5
  try clear c6
  try clear c6b0
  try clear c6b1
  try clear c7
  try clear c7b0
  try clear c7b1
  try clear p8
  try clear q8
  try clear hx8
  try clear qi8
  try clear hcz4_0
  try clear hcz4_1
  try clear hcz4_2
  try clear hcz4_3
  try clear hcz4_4
  try clear hcz4_5
  try clear hcz4_6
  try clear hcz4_7
  try clear hcz4_8
  try clear hfz4_0
  try clear hfz4_1
  try clear hfz4_2
  try clear hfz4_3
  try clear hfz4_4
  try clear hfz4_5
  try clear hfz4_6
  try clear hfz4_7
  try clear hfz4_8
  try clear p8
  try clear q8
  obtain ⟨kq, x29_2, rfl, HA, HJ2, HI0, HK, HB⟩ := hcut
  cases kq with
  | zero => exact absurd HA.out (by simp [url_parser_scheme.j0])
  | succ kj2 =>
   have H := HA.out
   clear HA
   simp only [url_parser_scheme.j0] at H
   by_cases c10 : x29_2 = true
   ·subst c10
    have H1 : (some (3, s0_0, s0_1, s0_2, s0_3, s0_4, s0_5, s0_6, s0_7, s0_8)) = some (r1, r2, r3, r4, r5, r6, r7, r8, r9, r10) := by rw [if_pos rfl] at H; exact H
    clear H
    have H := H1
    clear H1
    simp only [Option.some.injEq, Prod.mk.injEq] at H
    obtain ⟨rfl, rfl, rfl, rfl, rfl, rfl, rfl, rfl, rfl, rfl⟩ := H
    go_wp2
    go_ret
    exact ⟨by first | rfl | (simp [errW_none, errW_some] <;> rfl) | (simp [*, errW_none, errW_some] <;> rfl), by repeat (first | (with_reducible first | exact HI0.out | apply IsS53.alloc | apply IsS53.drewN | apply IsS53.drew | apply IsS53.set_0 | apply IsS53.set_1 | apply IsS53.set_2 | apply IsS53.set_3 | apply IsS53.set_4 | apply IsS53.set_5 | apply IsS53.set_6 | apply IsS53.set_7 | apply IsS53.set_8) | exact HI0.out), by repeat (first | (with_reducible first | exact HB.out | apply below_alloc | apply pw_below_drewN | apply below_drew1 | refine below_set ?_ (IsS53.ge HI0.out)) | exact HB.out), by repeat (first | (with_reducible first | exact HK.out | apply KeepBut.set_ | apply keep_drewN | apply keep_drew | apply keep_alloc) | exact HK.out)⟩
   ·replace c10 := Bool.eq_false_iff.mpr c10
    subst c10
    have H1 : (url_parser_scheme.l0 kj2 t278 t279 (t278.size : Int) 0 s0_0 s0_1 s0_2 s0_3 s0_4 s0_5 s0_6 s0_7 s0_8) = some (r1, r2, r3, r4, r5, r6, r7, r8, r9, r10) := by rw [if_neg (show ¬ (false = true) by decide)] at H; exact H
    clear H
    have H := H1
    clear H1
    have H' := Aside0.mk H
    clear H
    go_wp2
    go_loopg [32] kj2 (fun kq v32 w' => ∃ (x32_2 : Int), v32 = .int .i64 x32_2 ∧ Aside0 (url_parser_scheme.l0 kq t278 t279 (t278.size : Int) x32_2 s0_0 s0_1 s0_2 s0_3 s0_4 s0_5 s0_6 s0_7 s0_8 = some (r1, r2, r3, r4, r5, r6, r7, r8, r9, r10)) ∧ Aside0 (kq ≤ kj2) ∧ Aside0 (IsS53 w0 w' g s0_0 s0_1 s0_2 s0_3 s0_4 s0_5 s0_6 s0_7 s0_8) ∧ Aside0 (KeepBut w w' g none) ∧ Aside0 (Below w0.heap.size w0 w'))
    case atStart => exact ⟨(0), (by first | rfl | (simp; done) | (simp [*]; done)), H', ⟨Nat.le_refl _⟩, ⟨by repeat (first | (with_reducible first | exact HI0.out | apply IsS53.alloc | apply IsS53.drewN | apply IsS53.drew | apply IsS53.set_0 | apply IsS53.set_1 | apply IsS53.set_2 | apply IsS53.set_3 | apply IsS53.set_4 | apply IsS53.set_5 | apply IsS53.set_6 | apply IsS53.set_7 | apply IsS53.set_8) | exact HI0.out)⟩, ⟨by repeat (first | (with_reducible first | exact HK.out | apply KeepBut.set_ | apply keep_drewN | apply keep_drew | apply keep_alloc) | exact HK.out)⟩, ⟨by repeat (first | (with_reducible first | exact HB.out | apply below_alloc | apply pw_below_drewN | apply below_drew1 | refine below_set ?_ (IsS53.ge HI0.out)) | exact HB.out)⟩⟩
    case round =>
     clear H'
     try clear c1
     try clear p2
     try clear c4
     try clear c5
     try clear c6
     try clear c6b0
     try clear c6b1
     try clear c7
     try clear c7b0
     try clear c7b1
     try clear p8
     try clear q8
     try clear hx8
     try clear qi8
     try clear c10
     try clear hcz4_0
     try clear hcz4_1
     try clear hcz4_2
     try clear hcz4_3
     try clear hcz4_4
     try clear hcz4_5
     try clear hcz4_6
     try clear hcz4_7
     try clear hcz4_8
     try clear hfz4_0
     try clear hfz4_1
     try clear hfz4_2
     try clear hfz4_3
     try clear hfz4_4
     try clear hfz4_5
     try clear hfz4_6
     try clear hfz4_7
     try clear hfz4_8
     try clear p2
     try clear p8
     try clear q8
     obtain ⟨x32_2, rfl, HA, HK2, HI0, HK, HB⟩ := hrel
     cases gk with
     | zero => exact absurd HA.out (by simp [url_parser_scheme.l0])
     | succ k2 =>
      have H := HA.out
      clear HA
      simp only [url_parser_scheme.l0] at H
      by_cases c11 : x32_2 < (t278.size : Int)
      ·rw [if_pos c11] at H
       have c11b0 : decide (x32_2 < (t278.size : Int)) = true := decide_eq_true c11
       clear c11
       by_cases c12 : 0 ≤ x32_2
       ·rw [if_pos c12] at H
        have c12b0 : decide (0 ≤ x32_2) = true := decide_eq_true c12
        clear c12
        by_cases c13 : x32_2 < (t278.size : Int)
        ·rw [if_pos c13] at H
         have c13b0 : decide (x32_2 < (t278.size : Int)) = true := decide_eq_true c13
         clear c13
         replace H := Option.bind_eq_some_iff.mp H
         obtain ⟨t283, A150, H⟩ := H
         replace H : (if t283 = true then (url_parser_scheme.l0 k2 t278 t279 (t278.size : Int) (wrap64 (x32_2 + 1)) s0_0 s0_1 s0_2 s0_3 s0_4 s0_5 s0_6 s0_7 s0_8) else ((ascii_IsDigit.f (bt t278 x32_2)).bind fun t284 => (if t284 = true then (url_parser_scheme.l0 k2 t278 t279 (t278.size : Int) (wrap64 (x32_2 + 1)) s0_0 s0_1 s0_2 s0_3 s0_4 s0_5 s0_6 s0_7 s0_8) else ((strings_IndexByte.f (⟨#[43, 45, 46]⟩ : ByteArray) (bt t278 x32_2)).bind fun t285 => (if t285 < 0 then (some (3, s0_0, s0_1, s0_2, s0_3, s0_4, s0_5, s0_6, s0_7, s0_8)) else (url_parser_scheme.l0 k2 t278 t279 (t278.size : Int) (wrap64 (x32_2 + 1)) s0_0 s0_1 s0_2 s0_3 s0_4 s0_5 s0_6 s0_7 s0_8)))))) = some (r1, r2, r3, r4, r5, r6, r7, r8, r9, r10) := H
         have A15 := Aside0.mk A150
         clear A150
         by_cases c16 : t283 = true
         ·subst c16
          have H1 : (url_parser_scheme.l0 k2 t278 t279 (t278.size : Int) (wrap64 (x32_2 + 1)) s0_0 s0_1 s0_2 s0_3 s0_4 s0_5 s0_6 s0_7 s0_8) = some (r1, r2, r3, r4, r5, r6, r7, r8, r9, r10) := by rw [if_pos rfl] at H; exact H
          clear H
          have H := H1
          clear H1
          have H' := Aside0.mk H
          clear H
          have p14 : 0 ≤ (x32_2 : Int) := of_decide_eq_true (by first | (with_reducible assumption) | assumption)
          have q14 : x32_2 < (t278.size : Int) := of_decide_eq_true (by first | (with_reducible assumption) | assumption)
          have hx14 := bt_at t278 x32_2
          replace p14 := eq_true p14
          replace q14 := eq_true q14
          go_wp2_with (first | ((with_reducible refine gate_callee (f := 77) rfl ?_); refine goesL_ (some 39) rfl rfl Tryz.func77 (by kernel_rfl) rfl #[.int .u8 (bt t278 x32_2)] rfl (by (try simp only [List.map_toArray, List.map_cons, List.map_nil]); first | done | rfl | (simp only [List.length_drop, List.length_take]; rfl)) ?_; (with_reducible refine (ascii_IsLetter.calls (bt t278 x32_2) true _ ?side1 A15.out).mono ?_); (case side1 => first | exact HE.out | exact EnvOk.below HE.out (by repeat (first | (with_reducible first | exact HB.out | apply below_alloc | apply pw_below_drewN | apply below_drew1 | refine below_set ?_ (IsS53.ge HI0.out)) | exact HB.out))); rintro e w' ⟨rfl, ⟨nd, rfl⟩⟩; refine ⟨_, rfl, ?_⟩))
          go_roundg k2
          case measure => have := HJ2.out; have := HK2.out; omega
          case rel => exact ⟨(wrap64 (x32_2 + 1)), (by first | rfl | (simp; done) | (simp [*]; done)), H', ⟨by have := HJ2.out; have := HK2.out; omega⟩, ⟨by repeat (first | (with_reducible first | exact HI0.out | apply IsS53.alloc | apply IsS53.drewN | apply IsS53.drew | apply IsS53.set_0 | apply IsS53.set_1 | apply IsS53.set_2 | apply IsS53.set_3 | apply IsS53.set_4 | apply IsS53.set_5 | apply IsS53.set_6 | apply IsS53.set_7 | apply IsS53.set_8) | exact HI0.out)⟩, ⟨by repeat (first | (with_reducible first | exact HK.out | apply KeepBut.set_ | apply keep_drewN | apply keep_drew | apply keep_alloc) | exact HK.out)⟩, ⟨by repeat (first | (with_reducible first | exact HB.out | apply below_alloc | apply pw_below_drewN | apply below_drew1 | refine below_set ?_ (IsS53.ge HI0.out)) | exact HB.out)⟩⟩
         ·replace c16 := Bool.eq_false_iff.mpr c16
          subst c16
          have H1 : ((ascii_IsDigit.f (bt t278 x32_2)).bind fun t284 => (if t284 = true then (url_parser_scheme.l0 k2 t278 t279 (t278.size : Int) (wrap64 (x32_2 + 1)) s0_0 s0_1 s0_2 s0_3 s0_4 s0_5 s0_6 s0_7 s0_8) else ((strings_IndexByte.f (⟨#[43, 45, 46]⟩ : ByteArray) (bt t278 x32_2)).bind fun t285 => (if t285 < 0 then (some (3, s0_0, s0_1, s0_2, s0_3, s0_4, s0_5, s0_6, s0_7, s0_8)) else (url_parser_scheme.l0 k2 t278 t279 (t278.size : Int) (wrap64 (x32_2 + 1)) s0_0 s0_1 s0_2 s0_3 s0_4 s0_5 s0_6 s0_7 s0_8))))) = some (r1, r2, r3, r4, r5, r6, r7, r8, r9, r10) := by rw [if_neg (show ¬ (false = true) by decide)] at H; exact H
          clear H
          have H := H1
          clear H1
          replace H := Option.bind_eq_some_iff.mp H
          obtain ⟨t284, A170, H⟩ := H
          replace H : (if t284 = true then (url_parser_scheme.l0 k2 t278 t279 (t278.size : Int) (wrap64 (x32_2 + 1)) s0_0 s0_1 s0_2 s0_3 s0_4 s0_5 s0_6 s0_7 s0_8) else ((strings_IndexByte.f (⟨#[43, 45, 46]⟩ : ByteArray) (bt t278 x32_2)).bind fun t285 => (if t285 < 0 then (some (3, s0_0, s0_1, s0_2, s0_3, s0_4, s0_5, s0_6, s0_7, s0_8)) else (url_parser_scheme.l0 k2 t278 t279 (t278.size : Int) (wrap64 (x32_2 + 1)) s0_0 s0_1 s0_2 s0_3 s0_4 s0_5 s0_6 s0_7 s0_8)))) = some (r1, r2, r3, r4, r5, r6, r7, r8, r9, r10) := H
          have A17 := Aside0.mk A170
          clear A170
          by_cases c18 : t284 = true
          ·subst c18
           have H1 : (url_parser_scheme.l0 k2 t278 t279 (t278.size : Int) (wrap64 (x32_2 + 1)) s0_0 s0_1 s0_2 s0_3 s0_4 s0_5 s0_6 s0_7 s0_8) = some (r1, r2, r3, r4, r5, r6, r7, r8, r9, r10) := by rw [if_pos rfl] at H; exact H
           clear H
           have H := H1
           clear H1
           have H' := Aside0.mk H
           clear H
           have p14 : 0 ≤ (x32_2 : Int) := of_decide_eq_true (by first | (with_reducible assumption) | assumption)
           have q14 : x32_2 < (t278.size : Int) := of_decide_eq_true (by first | (with_reducible assumption) | assumption)
           have hx14 := bt_at t278 x32_2
           replace p14 := eq_true p14
           replace q14 := eq_true q14
           go_wp2_with (first | ((with_reducible refine gate_callee (f := 77) rfl ?_); refine goesL_ (some 39) rfl rfl Tryz.func77 (by kernel_rfl) rfl #[.int .u8 (bt t278 x32_2)] rfl (by (try simp only [List.map_toArray, List.map_cons, List.map_nil]); first | done | rfl | (simp only [List.length_drop, List.length_take]; rfl)) ?_; (with_reducible refine (ascii_IsLetter.calls (bt t278 x32_2) false _ ?side1 A15.out).mono ?_); (case side1 => first | exact HE.out | exact EnvOk.below HE.out (by repeat (first | (with_reducible first | exact HB.out | apply below_alloc | apply pw_below_drewN | apply below_drew1 | refine below_set ?_ (IsS53.ge HI0.out)) | exact HB.out))); rintro e w' ⟨rfl, ⟨nd, rfl⟩⟩; refine ⟨_, rfl, ?_⟩) | (go_at_call 78; (with_reducible refine (ascii_IsDigit.calls (bt t278 x32_2) true _ ?side1 A17.out).mono ?_); (case side1 => first | exact HE.out | exact EnvOk.below HE.out (by repeat (first | (with_reducible first | exact HB.out | apply below_alloc | apply pw_below_drewN | apply below_drew1 | refine below_set ?_ (IsS53.ge HI0.out)) | exact HB.out))); rintro e w' ⟨rfl, ⟨nd, rfl⟩⟩))
           go_roundg k2
           case measure => have := HJ2.out; have := HK2.out; omega
           case rel => exact ⟨(wrap64 (x32_2 + 1)), (by first | rfl | (simp; done) | (simp [*]; done)), H', ⟨by have := HJ2.out; have := HK2.out; omega⟩, ⟨by repeat (first | (with_reducible first | exact HI0.out | apply IsS53.alloc | apply IsS53.drewN | apply IsS53.drew | apply IsS53.set_0 | apply IsS53.set_1 | apply IsS53.set_2 | apply IsS53.set_3 | apply IsS53.set_4 | apply IsS53.set_5 | apply IsS53.set_6 | apply IsS53.set_7 | apply IsS53.set_8) | exact HI0.out)⟩, ⟨by repeat (first | (with_reducible first | exact HK.out | apply KeepBut.set_ | apply keep_drewN | apply keep_drew | apply keep_alloc) | exact HK.out)⟩, ⟨by repeat (first | (with_reducible first | exact HB.out | apply below_alloc | apply pw_below_drewN | apply below_drew1 | refine below_set ?_ (IsS53.ge HI0.out)) | exact HB.out)⟩⟩
          ·replace c18 := Bool.eq_false_iff.mpr c18
           subst c18
           have H1 : ((strings_IndexByte.f (⟨#[43, 45, 46]⟩ : ByteArray) (bt t278 x32_2)).bind fun t285 => (if t285 < 0 then (some (3, s0_0, s0_1, s0_2, s0_3, s0_4, s0_5, s0_6, s0_7, s0_8)) else (url_parser_scheme.l0 k2 t278 t279 (t278.size : Int) (wrap64 (x32_2 + 1)) s0_0 s0_1 s0_2 s0_3 s0_4 s0_5 s0_6 s0_7 s0_8))) = some (r1, r2, r3, r4, r5, r6, r7, r8, r9, r10) := by rw [if_neg (show ¬ (false = true) by decide)] at H; exact H
           clear H
           have H := H1
           clear H1
           replace H := Option.bind_eq_some_iff.mp H
           obtain ⟨t285, A190, H⟩ := H
           replace H : (if t285 < 0 then (some (3, s0_0, s0_1, s0_2, s0_3, s0_4, s0_5, s0_6, s0_7, s0_8)) else (url_parser_scheme.l0 k2 t278 t279 (t278.size : Int) (wrap64 (x32_2 + 1)) s0_0 s0_1 s0_2 s0_3 s0_4 s0_5 s0_6 s0_7 s0_8)) = some (r1, r2, r3, r4, r5, r6, r7, r8, r9, r10) := H
           have A19 := Aside0.mk A190
           clear A190
           by_cases c20 : t285 < 0
           ·rw [if_pos c20] at H
            have c20b0 : decide (t285 < 0) = true := decide_eq_true c20
            clear c20
            simp only [Option.some.injEq, Prod.mk.injEq] at H
            obtain ⟨rfl, rfl, rfl, rfl, rfl, rfl, rfl, rfl, rfl, rfl⟩ := H
            have p14 : 0 ≤ (x32_2 : Int) := of_decide_eq_true (by first | (with_reducible assumption) | assumption)
            have q14 : x32_2 < (t278.size : Int) := of_decide_eq_true (by first | (with_reducible assumption) | assumption)
            have hx14 := bt_at t278 x32_2
            replace p14 := eq_true p14
            replace q14 := eq_true q14
            go_wp2_with (first | ((with_reducible refine gate_callee (f := 77) rfl ?_); refine goesL_ (some 39) rfl rfl Tryz.func77 (by kernel_rfl) rfl #[.int .u8 (bt t278 x32_2)] rfl (by (try simp only [List.map_toArray, List.map_cons, List.map_nil]); first | done | rfl | (simp only [List.length_drop, List.length_take]; rfl)) ?_; (with_reducible refine (ascii_IsLetter.calls (bt t278 x32_2) false _ ?side1 A15.out).mono ?_); (case side1 => first | exact HE.out | exact EnvOk.below HE.out (by repeat (first | (with_reducible first | exact HB.out | apply below_alloc | apply pw_below_drewN | apply below_drew1 | refine below_set ?_ (IsS53.ge HI0.out)) | exact HB.out))); rintro e w' ⟨rfl, ⟨nd, rfl⟩⟩; refine ⟨_, rfl, ?_⟩) | (go_at_call 78; (with_reducible refine (ascii_IsDigit.calls (bt t278 x32_2) false _ ?side1 A17.out).mono ?_); (case side1 => first | exact HE.out | exact EnvOk.below HE.out (by repeat (first | (with_reducible first | exact HB.out | apply below_alloc | apply pw_below_drewN | apply below_drew1 | refine below_set ?_ (IsS53.ge HI0.out)) | exact HB.out))); rintro e w' ⟨rfl, ⟨nd, rfl⟩⟩) | (go_at_call 79; (with_reducible refine (strings_IndexByte.calls (⟨#[43, 45, 46]⟩ : ByteArray) (bt t278 x32_2) t285 _ ?side1 A19.out).mono ?_); (case side1 => first | exact HE.out | exact EnvOk.below HE.out (by repeat (first | (with_reducible first | exact HB.out | apply below_alloc | apply pw_below_drewN | apply below_drew1 | refine below_set ?_ (IsS53.ge HI0.out)) | exact HB.out))); rintro e w' ⟨rfl, ⟨nd, rfl⟩⟩))
            go_ret
            exact ⟨by first | rfl | (simp [errW_none, errW_some] <;> rfl) | (simp [*, errW_none, errW_some] <;> rfl), by repeat (first | (with_reducible first | exact HI0.out | apply IsS53.alloc | apply IsS53.drewN | apply IsS53.drew | apply IsS53.set_0 | apply IsS53.set_1 | apply IsS53.set_2 | apply IsS53.set_3 | apply IsS53.set_4 | apply IsS53.set_5 | apply IsS53.set_6 | apply IsS53.set_7 | apply IsS53.set_8) | exact HI0.out), by repeat (first | (with_reducible first | exact HB.out | apply below_alloc | apply pw_below_drewN | apply below_drew1 | refine below_set ?_ (IsS53.ge HI0.out)) | exact HB.out), by repeat (first | (with_reducible first | exact HK.out | apply KeepBut.set_ | apply keep_drewN | apply keep_drew | apply keep_alloc) | exact HK.out)⟩
           ·rw [if_neg c20] at H
            have c20b0 : decide (t285 < 0) = false := decide_eq_false c20
            clear c20
            have H' := Aside0.mk H
            clear H
            have p14 : 0 ≤ (x32_2 : Int) := of_decide_eq_true (by first | (with_reducible assumption) | assumption)
            have q14 : x32_2 < (t278.size : Int) := of_decide_eq_true (by first | (with_reducible assumption) | assumption)
            have hx14 := bt_at t278 x32_2
            replace p14 := eq_true p14
            replace q14 := eq_true q14
            go_wp2_with (first | ((with_reducible refine gate_callee (f := 77) rfl ?_); refine goesL_ (some 39) rfl rfl Tryz.func77 (by kernel_rfl) rfl #[.int .u8 (bt t278 x32_2)] rfl (by (try simp only [List.map_toArray, List.map_cons, List.map_nil]); first | done | rfl | (simp only [List.length_drop, List.length_take]; rfl)) ?_; (with_reducible refine (ascii_IsLetter.calls (bt t278 x32_2) false _ ?side1 A15.out).mono ?_); (case side1 => first | exact HE.out | exact EnvOk.below HE.out (by repeat (first | (with_reducible first | exact HB.out | apply below_alloc | apply pw_below_drewN | apply below_drew1 | refine below_set ?_ (IsS53.ge HI0.out)) | exact HB.out))); rintro e w' ⟨rfl, ⟨nd, rfl⟩⟩; refine ⟨_, rfl, ?_⟩) | (go_at_call 78; (with_reducible refine (ascii_IsDigit.calls (bt t278 x32_2) false _ ?side1 A17.out).mono ?_); (case side1 => first | exact HE.out | exact EnvOk.below HE.out (by repeat (first | (with_reducible first | exact HB.out | apply below_alloc | apply pw_below_drewN | apply below_drew1 | refine below_set ?_ (IsS53.ge HI0.out)) | exact HB.out))); rintro e w' ⟨rfl, ⟨nd, rfl⟩⟩) | (go_at_call 79; (with_reducible refine (strings_IndexByte.calls (⟨#[43, 45, 46]⟩ : ByteArray) (bt t278 x32_2) t285 _ ?side1 A19.out).mono ?_); (case side1 => first | exact HE.out | exact EnvOk.below HE.out (by repeat (first | (with_reducible first | exact HB.out | apply below_alloc | apply pw_below_drewN | apply below_drew1 | refine below_set ?_ (IsS53.ge HI0.out)) | exact HB.out))); rintro e w' ⟨rfl, ⟨nd, rfl⟩⟩))
            go_roundg k2
            case measure => have := HJ2.out; have := HK2.out; omega
            case rel => exact ⟨(wrap64 (x32_2 + 1)), (by first | rfl | (simp; done) | (simp [*]; done)), H', ⟨by have := HJ2.out; have := HK2.out; omega⟩, ⟨by repeat (first | (with_reducible first | exact HI0.out | apply IsS53.alloc | apply IsS53.drewN | apply IsS53.drew | apply IsS53.set_0 | apply IsS53.set_1 | apply IsS53.set_2 | apply IsS53.set_3 | apply IsS53.set_4 | apply IsS53.set_5 | apply IsS53.set_6 | apply IsS53.set_7 | apply IsS53.set_8) | exact HI0.out)⟩, ⟨by repeat (first | (with_reducible first | exact HK.out | apply KeepBut.set_ | apply keep_drewN | apply keep_drew | apply keep_alloc) | exact HK.out)⟩, ⟨by repeat (first | (with_reducible first | exact HB.out | apply below_alloc | apply pw_below_drewN | apply below_drew1 | refine below_set ?_ (IsS53.ge HI0.out)) | exact HB.out)⟩⟩
        ·rw [if_neg c13] at H
         exact absurd H (by simp)
       ·rw [if_neg c12] at H
        exact absurd H (by simp)
      ·rw [if_neg c11] at H
       have c11b0 : decide (x32_2 < (t278.size : Int)) = false := decide_eq_false c11
       clear c11
       replace H := Option.bind_eq_some_iff.mp H
       obtain ⟨t282, A210, H⟩ := H
       replace H : (if t282.toList = ([104, 116, 116, 112] : List UInt8) then (some (0, t279, t282, s0_2, s0_3, s0_4, s0_5, s0_6, s0_7, s0_8)) else (if t282.toList = ([104, 116, 116, 112, 115] : List UInt8) then (some (0, t279, t282, s0_2, s0_3, s0_4, s0_5, s0_6, s0_7, s0_8)) else (some (16, t279, t282, s0_2, s0_3, s0_4, s0_5, s0_6, s0_7, s0_8)))) = some (r1, r2, r3, r4, r5, r6, r7, r8, r9, r10) := H
       have A21 := Aside0.mk A210
       clear A210
       by_cases c22 : t282.toList = ([104, 116, 116, 112] : List UInt8)
       ·rw [if_pos c22] at H
        have c22b0 : (t282.toList == ([104, 116, 116, 112] : List UInt8)) = true := beq_iff_eq.mpr c22
        have c22b1 : (t282.toList != ([104, 116, 116, 112] : List UInt8)) = false := bne_eq_false_iff_eq.mpr c22
        clear c22
        simp only [Option.some.injEq, Prod.mk.injEq] at H
        obtain ⟨rfl, rfl, rfl, rfl, rfl, rfl, rfl, rfl, rfl, rfl⟩ := H
        go_wp2_with (first | ((with_reducible refine gate_callee (f := 52) rfl ?_); refine goesL_ (some 55) rfl rfl Tryz.func52 (by kernel_rfl) rfl #[.string t278] rfl (by (try simp only [List.map_toArray, List.map_cons, List.map_nil]); first | done | rfl | (simp only [List.length_drop, List.length_take]; rfl)) ?_; (with_reducible refine (ascii_Lower.calls t278 t282 _ ?side1 A21.out).mono ?_); (case side1 => first | exact HE.out | exact EnvOk.below HE.out (by repeat (first | (with_reducible first | exact HB.out | apply below_alloc | apply pw_below_drewN | apply below_drew1 | refine below_set ?_ (IsS53.ge HI0.out)) | exact HB.out))); rintro e w23 ⟨rfl, hb⟩; refine ⟨_, rfl, ?_⟩; have n0_ := Aside0.mk (IsS53.below (by repeat (first | (with_reducible first | exact HI0.out | apply IsS53.alloc | apply IsS53.drewN | apply IsS53.drew | apply IsS53.set_0 | apply IsS53.set_1 | apply IsS53.set_2 | apply IsS53.set_3 | apply IsS53.set_4 | apply IsS53.set_5 | apply IsS53.set_6 | apply IsS53.set_7 | apply IsS53.set_8) | exact HI0.out)) hb); have n1_ := Aside0.mk (KeepBut.trans (by repeat (first | (with_reducible first | exact HK.out | apply KeepBut.set_ | apply keep_drewN | apply keep_drew | apply keep_alloc) | exact HK.out)) (KeepBut.of_below hb g none) (.inl rfl)); have n2_ := Aside0.mk (below_step (by repeat (first | (with_reducible first | exact HB.out | apply below_alloc | apply pw_below_drewN | apply below_drew1 | refine below_set ?_ (IsS53.ge HI0.out)) | exact HB.out)) hb); clear HI0; clear HK; clear HB; have HI0 := n0_; have HK := n1_; have HB := n2_; clear n0_ n1_ n2_; (try clear hb); (try clear hb2); (try clear hk); (try clear hi); obtain ⟨HGz24, hgz24⟩ := HI0.out; have hcz24_0 := cellS53_0 HGz24; have hcz24_1 := cellS53_1 HGz24; have hcz24_2 := cellS53_2 HGz24; have hcz24_3 := cellS53_3 HGz24; have hcz24_4 := cellS53_4 HGz24; have hcz24_5 := cellS53_5 HGz24; have hcz24_6 := cellS53_6 HGz24; have hcz24_7 := cellS53_7 HGz24; have hcz24_8 := cellS53_8 HGz24; have hfz24_0 := blk_frozen HGz24 0; have hfz24_1 := blk_frozen HGz24 1; have hfz24_2 := blk_frozen HGz24 2; have hfz24_3 := blk_frozen HGz24 3; have hfz24_4 := blk_frozen HGz24 4; have hfz24_5 := blk_frozen HGz24 5; have hfz24_6 := blk_frozen HGz24 6; have hfz24_7 := blk_frozen HGz24 7; have hfz24_8 := blk_frozen HGz24 8; clear HGz24 hgz24))
        go_ret
        exact ⟨by first | rfl | (simp [errW_none, errW_some] <;> rfl) | (simp [*, errW_none, errW_some] <;> rfl), by repeat (first | (with_reducible first | exact HI0.out | apply IsS53.alloc | apply IsS53.drewN | apply IsS53.drew | apply IsS53.set_0 | apply IsS53.set_1 | apply IsS53.set_2 | apply IsS53.set_3 | apply IsS53.set_4 | apply IsS53.set_5 | apply IsS53.set_6 | apply IsS53.set_7 | apply IsS53.set_8) | exact HI0.out), by repeat (first | (with_reducible first | exact HB.out | apply below_alloc | apply pw_below_drewN | apply below_drew1 | refine below_set ?_ (IsS53.ge HI0.out)) | exact HB.out), by repeat (first | (with_reducible first | exact HK.out | apply KeepBut.set_ | apply keep_drewN | apply keep_drew | apply keep_alloc) | exact HK.out)⟩
       ·rw [if_neg c22] at H
        have c22b0 : (t282.toList == ([104, 116, 116, 112] : List UInt8)) = false := beq_eq_false_iff_ne.mpr c22
        have c22b1 : (t282.toList != ([104, 116, 116, 112] : List UInt8)) = true := bne_iff_ne.mpr c22
        by_cases c25 : t282.toList = ([104, 116, 116, 112, 115] : List UInt8)
        ·rw [if_pos c25] at H
         have c25b0 : (t282.toList == ([104, 116, 116, 112, 115] : List UInt8)) = true := beq_iff_eq.mpr c25
         have c25b1 : (t282.toList != ([104, 116, 116, 112, 115] : List UInt8)) = false := bne_eq_false_iff_eq.mpr c25
         clear c25
         simp only [Option.some.injEq, Prod.mk.injEq] at H
         obtain ⟨rfl, rfl, rfl, rfl, rfl, rfl, rfl, rfl, rfl, rfl⟩ := H
         go_wp2_with (first | ((with_reducible refine gate_callee (f := 52) rfl ?_); refine goesL_ (some 55) rfl rfl Tryz.func52 (by kernel_rfl) rfl #[.string t278] rfl (by (try simp only [List.map_toArray, List.map_cons, List.map_nil]); first | done | rfl | (simp only [List.length_drop, List.length_take]; rfl)) ?_; (with_reducible refine (ascii_Lower.calls t278 t282 _ ?side1 A21.out).mono ?_); (case side1 => first | exact HE.out | exact EnvOk.below HE.out (by repeat (first | (with_reducible first | exact HB.out | apply below_alloc | apply pw_below_drewN | apply below_drew1 | refine below_set ?_ (IsS53.ge HI0.out)) | exact HB.out))); rintro e w26 ⟨rfl, hb⟩; refine ⟨_, rfl, ?_⟩; have n0_ := Aside0.mk (IsS53.below (by repeat (first | (with_reducible first | exact HI0.out | apply IsS53.alloc | apply IsS53.drewN | apply IsS53.drew | apply IsS53.set_0 | apply IsS53.set_1 | apply IsS53.set_2 | apply IsS53.set_3 | apply IsS53.set_4 | apply IsS53.set_5 | apply IsS53.set_6 | apply IsS53.set_7 | apply IsS53.set_8) | exact HI0.out)) hb); have n1_ := Aside0.mk (KeepBut.trans (by repeat (first | (with_reducible first | exact HK.out | apply KeepBut.set_ | apply keep_drewN | apply keep_drew | apply keep_alloc) | exact HK.out)) (KeepBut.of_below hb g none) (.inl rfl)); have n2_ := Aside0.mk (below_step (by repeat (first | (with_reducible first | exact HB.out | apply below_alloc | apply pw_below_drewN | apply below_drew1 | refine below_set ?_ (IsS53.ge HI0.out)) | exact HB.out)) hb); clear HI0; clear HK; clear HB; have HI0 := n0_; have HK := n1_; have HB := n2_; clear n0_ n1_ n2_; (try clear hb); (try clear hb2); (try clear hk); (try clear hi); obtain ⟨HGz27, hgz27⟩ := HI0.out; have hcz27_0 := cellS53_0 HGz27; have hcz27_1 := cellS53_1 HGz27; have hcz27_2 := cellS53_2 HGz27; have hcz27_3 := cellS53_3 HGz27; have hcz27_4 := cellS53_4 HGz27; have hcz27_5 := cellS53_5 HGz27; have hcz27_6 := cellS53_6 HGz27; have hcz27_7 := cellS53_7 HGz27; have hcz27_8 := cellS53_8 HGz27; have hfz27_0 := blk_frozen HGz27 0; have hfz27_1 := blk_frozen HGz27 1; have hfz27_2 := blk_frozen HGz27 2; have hfz27_3 := blk_frozen HGz27 3; have hfz27_4 := blk_frozen HGz27 4; have hfz27_5 := blk_frozen HGz27 5; have hfz27_6 := blk_frozen HGz27 6; have hfz27_7 := blk_frozen HGz27 7; have hfz27_8 := blk_frozen HGz27 8; clear HGz27 hgz27))
         go_ret
         exact ⟨by first | rfl | (simp [errW_none, errW_some] <;> rfl) | (simp [*, errW_none, errW_some] <;> rfl), by repeat (first | (with_reducible first | exact HI0.out | apply IsS53.alloc | apply IsS53.drewN | apply IsS53.drew | apply IsS53.set_0 | apply IsS53.set_1 | apply IsS53.set_2 | apply IsS53.set_3 | apply IsS53.set_4 | apply IsS53.set_5 | apply IsS53.set_6 | apply IsS53.set_7 | apply IsS53.set_8) | exact HI0.out), by repeat (first | (with_reducible first | exact HB.out | apply below_alloc | apply pw_below_drewN | apply below_drew1 | refine below_set ?_ (IsS53.ge HI0.out)) | exact HB.out), by repeat (first | (with_reducible first | exact HK.out | apply KeepBut.set_ | apply keep_drewN | apply keep_drew | apply keep_alloc) | exact HK.out)⟩
        ·rw [if_neg c25] at H
         have c25b0 : (t282.toList == ([104, 116, 116, 112, 115] : List UInt8)) = false := beq_eq_false_iff_ne.mpr c25
         have c25b1 : (t282.toList != ([104, 116, 116, 112, 115] : List UInt8)) = true := bne_iff_ne.mpr c25
         simp only [Option.some.injEq, Prod.mk.injEq] at H
         obtain ⟨rfl, rfl, rfl, rfl, rfl, rfl, rfl, rfl, rfl, rfl⟩ := H
         go_wp2_with (first | ((with_reducible refine gate_callee (f := 52) rfl ?_); refine goesL_ (some 55) rfl rfl Tryz.func52 (by kernel_rfl) rfl #[.string t278] rfl (by (try simp only [List.map_toArray, List.map_cons, List.map_nil]); first | done | rfl | (simp only [List.length_drop, List.length_take]; rfl)) ?_; (with_reducible refine (ascii_Lower.calls t278 t282 _ ?side1 A21.out).mono ?_); (case side1 => first | exact HE.out | exact EnvOk.below HE.out (by repeat (first | (with_reducible first | exact HB.out | apply below_alloc | apply pw_below_drewN | apply below_drew1 | refine below_set ?_ (IsS53.ge HI0.out)) | exact HB.out))); rintro e w28 ⟨rfl, hb⟩; refine ⟨_, rfl, ?_⟩; have n0_ := Aside0.mk (IsS53.below (by repeat (first | (with_reducible first | exact HI0.out | apply IsS53.alloc | apply IsS53.drewN | apply IsS53.drew | apply IsS53.set_0 | apply IsS53.set_1 | apply IsS53.set_2 | apply IsS53.set_3 | apply IsS53.set_4 | apply IsS53.set_5 | apply IsS53.set_6 | apply IsS53.set_7 | apply IsS53.set_8) | exact HI0.out)) hb); have n1_ := Aside0.mk (KeepBut.trans (by repeat (first | (with_reducible first | exact HK.out | apply KeepBut.set_ | apply keep_drewN | apply keep_drew | apply keep_alloc) | exact HK.out)) (KeepBut.of_below hb g none) (.inl rfl)); have n2_ := Aside0.mk (below_step (by repeat (first | (with_reducible first | exact HB.out | apply below_alloc | apply pw_below_drewN | apply below_drew1 | refine below_set ?_ (IsS53.ge HI0.out)) | exact HB.out)) hb); clear HI0; clear HK; clear HB; have HI0 := n0_; have HK := n1_; have HB := n2_; clear n0_ n1_ n2_; (try clear hb); (try clear hb2); (try clear hk); (try clear hi); obtain ⟨HGz29, hgz29⟩ := HI0.out; have hcz29_0 := cellS53_0 HGz29; have hcz29_1 := cellS53_1 HGz29; have hcz29_2 := cellS53_2 HGz29; have hcz29_3 := cellS53_3 HGz29; have hcz29_4 := cellS53_4 HGz29; have hcz29_5 := cellS53_5 HGz29; have hcz29_6 := cellS53_6 HGz29; have hcz29_7 := cellS53_7 HGz29; have hcz29_8 := cellS53_8 HGz29; have hfz29_0 := blk_frozen HGz29 0; have hfz29_1 := blk_frozen HGz29 1; have hfz29_2 := blk_frozen HGz29 2; have hfz29_3 := blk_frozen HGz29 3; have hfz29_4 := blk_frozen HGz29 4; have hfz29_5 := blk_frozen HGz29 5; have hfz29_6 := blk_frozen HGz29 6; have hfz29_7 := blk_frozen HGz29 7; have hfz29_8 := blk_frozen HGz29 8; clear HGz29 hgz29))
         go_ret
         exact ⟨by first | rfl | (simp [errW_none, errW_some] <;> rfl) | (simp [*, errW_none, errW_some] <;> rfl), by repeat (first | (with_reducible first | exact HI0.out | apply IsS53.alloc | apply IsS53.drewN | apply IsS53.drew | apply IsS53.set_0 | apply IsS53.set_1 | apply IsS53.set_2 | apply IsS53.set_3 | apply IsS53.set_4 | apply IsS53.set_5 | apply IsS53.set_6 | apply IsS53.set_7 | apply IsS53.set_8) | exact HI0.out), by repeat (first | (with_reducible first | exact HB.out | apply below_alloc | apply pw_below_drewN | apply below_drew1 | refine below_set ?_ (IsS53.ge HI0.out)) | exact HB.out), by repeat (first | (with_reducible first | exact HK.out | apply KeepBut.set_ | apply keep_drewN | apply keep_drew | apply keep_alloc) | exact HK.out)⟩
-- EXTERN: function 53 (percent_Unmark)
def url_Host.f (k : Nat) (a0 : ByteArray) : Option (ByteArray × Int) := (percent_Unmark.f a0).bind fun t286 => ((ascii_Lower.f t286).bind fun t287 => (if t287.toList = ([] : List UInt8) then (some ((⟨#[]⟩ : ByteArray), 4)) else ((url_isName.f k t287).bind fun t288 => (if t288 = true then (some (t287, 0)) else (some ((⟨#[]⟩ : ByteArray), 17))))))
theorem url_Host.mono : ∀ a0 k, LeO (url_Host.f k a0) (url_Host.f (k + 1) a0) := by
 intro a0 k
 unfold url_Host.f
 repeat' first
   | (with_reducible exact url_isName.mono _ _)
   | (with_reducible exact LeO.refl _)
   | (with_reducible exact LeO.none _)
   | (with_reducible refine LeO.ite ?_ ?_)
   | (with_reducible refine LeO.bind ?_ (fun _ => ?_))
   | exact url_isName.mono _ _
   | exact LeO.none _
   | refine LeO.ite ?_ ?_
   | refine LeO.bind ?_ (fun _ => ?_)
set_option maxHeartbeats 8000000 in
set_option maxRecDepth 100000 in
theorem url_Host.calls (k : Nat) (a0 : ByteArray) (r1 : ByteArray) (r2 : Int) (w : World) (hE : EnvOk w) (h : url_Host.f k a0 = some (r1, r2)) :
  Calls Tryz.prog 19 #[.string a0] w fun e w' => e = .returned (.tuple #[.string r1, .int .i64 r2]) ∧ Below w.heap.size w w' := by
 have HE := Aside0.mk hE
 clear hE
 have HB := Aside0.mk (Below.refl w.heap.size w)
 have H : ((percent_Unmark.f a0).bind fun t286 => ((ascii_Lower.f t286).bind fun t287 => (if t287.toList = ([] : List UInt8) then (some ((⟨#[]⟩ : ByteArray), 4)) else ((url_isName.f k t287).bind fun t288 => (if t288 = true then (some (t287, 0)) else (some ((⟨#[]⟩ : ByteArray), 17))))))) = some (r1, r2) := h
 clear h
 replace H := Option.bind_eq_some_iff.mp H
 obtain ⟨t286, A20, H⟩ := H
 replace H : ((ascii_Lower.f t286).bind fun t287 => (if t287.toList = ([] : List UInt8) then (some ((⟨#[]⟩ : ByteArray), 4)) else ((url_isName.f k t287).bind fun t288 => (if t288 = true then (some (t287, 0)) else (some ((⟨#[]⟩ : ByteArray), 17)))))) = some (r1, r2) := H
 have A2 := Aside0.mk A20
 clear A20
 replace H := Option.bind_eq_some_iff.mp H
 obtain ⟨t287, A30, H⟩ := H
 replace H : (if t287.toList = ([] : List UInt8) then (some ((⟨#[]⟩ : ByteArray), 4)) else ((url_isName.f k t287).bind fun t288 => (if t288 = true then (some (t287, 0)) else (some ((⟨#[]⟩ : ByteArray), 17))))) = some (r1, r2) := H
 have A3 := Aside0.mk A30
 clear A30
 by_cases c4 : t287.toList = ([] : List UInt8)
 ·rw [if_pos c4] at H
  have c4b0 : (t287.toList == ([] : List UInt8)) = true := beq_iff_eq.mpr c4
  have c4b1 : (t287.toList != ([] : List UInt8)) = false := bne_eq_false_iff_eq.mpr c4
  clear c4
  simp only [Option.some.injEq, Prod.mk.injEq] at H
  obtain ⟨rfl, rfl⟩ := H
  go_enter Tryz.func19, Tryz.ntmps19
  go_wp2_with (first | ((with_reducible refine gate_callee (f := 53) rfl ?_); refine goesL_ (some 5) rfl rfl Tryz.func53 (by kernel_rfl) rfl #[.string a0] rfl (by (try simp only [List.map_toArray, List.map_cons, List.map_nil]); first | done | rfl | (simp only [List.length_drop, List.length_take]; rfl)) ?_; (with_reducible refine (percent_Unmark.calls a0 t286 _ ?side1 A2.out).mono ?_); (case side1 => first | exact HE.out | exact EnvOk.below HE.out (by repeat (first | (with_reducible first | exact HB.out | apply below_alloc | apply pw_below_drewN | apply below_drew1) | exact HB.out))); rintro e w5 ⟨rfl, hb⟩; refine ⟨_, rfl, ?_⟩; have n0_ := Aside0.mk (below_step (by repeat (first | (with_reducible first | exact HB.out | apply below_alloc | apply pw_below_drewN | apply below_drew1) | exact HB.out)) hb); clear HB; have HB := n0_; clear n0_; (try clear hb); (try clear hb2); (try clear hk); (try clear hi)) | ((with_reducible refine gate_callee (f := 52) rfl ?_); refine goesL_ (some 6) rfl rfl Tryz.func52 (by kernel_rfl) rfl #[.string t286] rfl (by (try simp only [List.map_toArray, List.map_cons, List.map_nil]); first | done | rfl | (simp only [List.length_drop, List.length_take]; rfl)) ?_; (with_reducible refine (ascii_Lower.calls t286 t287 _ ?side1 A3.out).mono ?_); (case side1 => first | exact HE.out | exact EnvOk.below HE.out (by repeat (first | (with_reducible first | exact HB.out | apply below_alloc | apply pw_below_drewN | apply below_drew1) | exact HB.out))); rintro e w6 ⟨rfl, hb⟩; refine ⟨_, rfl, ?_⟩; have n0_ := Aside0.mk (below_step (by repeat (first | (with_reducible first | exact HB.out | apply below_alloc | apply pw_below_drewN | apply below_drew1) | exact HB.out)) hb); clear HB; have HB := n0_; clear n0_; (try clear hb); (try clear hb2); (try clear hk); (try clear hi)))
  go_ret2
  exact ⟨by first | rfl | (simp [errW_none, errW_some] <;> rfl) | (simp [*, errW_none, errW_some] <;> rfl), by repeat (first | (with_reducible first | exact HB.out | apply below_alloc | apply pw_below_drewN | apply below_drew1) | exact HB.out)⟩
 ·rw [if_neg c4] at H
  have c4b0 : (t287.toList == ([] : List UInt8)) = false := beq_eq_false_iff_ne.mpr c4
  have c4b1 : (t287.toList != ([] : List UInt8)) = true := bne_iff_ne.mpr c4
  replace H := Option.bind_eq_some_iff.mp H
  obtain ⟨t288, A70, H⟩ := H
  replace H : (if t288 = true then (some (t287, 0)) else (some ((⟨#[]⟩ : ByteArray), 17))) = some (r1, r2) := H
  have A7 := Aside0.mk A70
  clear A70
  by_cases c8 : t288 = true
  ·subst c8
   have H1 : (some (t287, 0)) = some (r1, r2) := by rw [if_pos rfl] at H; exact H
   clear H
   have H := H1
   clear H1
   simp only [Option.some.injEq, Prod.mk.injEq] at H
   obtain ⟨rfl, rfl⟩ := H
   go_enter Tryz.func19, Tryz.ntmps19
   go_wp2_with (first | ((with_reducible refine gate_callee (f := 53) rfl ?_); refine goesL_ (some 5) rfl rfl Tryz.func53 (by kernel_rfl) rfl #[.string a0] rfl (by (try simp only [List.map_toArray, List.map_cons, List.map_nil]); first | done | rfl | (simp only [List.length_drop, List.length_take]; rfl)) ?_; (with_reducible refine (percent_Unmark.calls a0 t286 _ ?side1 A2.out).mono ?_); (case side1 => first | exact HE.out | exact EnvOk.below HE.out (by repeat (first | (with_reducible first | exact HB.out | apply below_alloc | apply pw_below_drewN | apply below_drew1) | exact HB.out))); rintro e w9 ⟨rfl, hb⟩; refine ⟨_, rfl, ?_⟩; have n0_ := Aside0.mk (below_step (by repeat (first | (with_reducible first | exact HB.out | apply below_alloc | apply pw_below_drewN | apply below_drew1) | exact HB.out)) hb); clear HB; have HB := n0_; clear n0_; (try clear hb); (try clear hb2); (try clear hk); (try clear hi)) | ((with_reducible refine gate_callee (f := 52) rfl ?_); refine goesL_ (some 6) rfl rfl Tryz.func52 (by kernel_rfl) rfl #[.string t286] rfl (by (try simp only [List.map_toArray, List.map_cons, List.map_nil]); first | done | rfl | (simp only [List.length_drop, List.length_take]; rfl)) ?_; (with_reducible refine (ascii_Lower.calls t286 t287 _ ?side1 A3.out).mono ?_); (case side1 => first | exact HE.out | exact EnvOk.below HE.out (by repeat (first | (with_reducible first | exact HB.out | apply below_alloc | apply pw_below_drewN | apply below_drew1) | exact HB.out))); rintro e w10 ⟨rfl, hb⟩; refine ⟨_, rfl, ?_⟩; have n0_ := Aside0.mk (below_step (by repeat (first | (with_reducible first | exact HB.out | apply below_alloc | apply pw_below_drewN | apply below_drew1) | exact HB.out)) hb); clear HB; have HB := n0_; clear n0_; (try clear hb); (try clear hb2); (try clear hk); (try clear hi)) | ((with_reducible refine gate_callee (f := 54) rfl ?_); refine goesL_ (some 12) rfl rfl Tryz.func54 (by kernel_rfl) rfl #[.string t287] rfl (by (try simp only [List.map_toArray, List.map_cons, List.map_nil]); first | done | rfl | (simp only [List.length_drop, List.length_take]; rfl)) ?_; (with_reducible refine (url_isName.calls k t287 true _ ?side1 A7.out).mono ?_); (case side1 => first | exact HE.out | exact EnvOk.below HE.out (by repeat (first | (with_reducible first | exact HB.out | apply below_alloc | apply pw_below_drewN | apply below_drew1) | exact HB.out))); rintro e w11 ⟨rfl, hb⟩; refine ⟨_, rfl, ?_⟩; have n0_ := Aside0.mk (below_step (by repeat (first | (with_reducible first | exact HB.out | apply below_alloc | apply pw_below_drewN | apply below_drew1) | exact HB.out)) hb); clear HB; have HB := n0_; clear n0_; (try clear hb); (try clear hb2); (try clear hk); (try clear hi)))
   go_ret2
   exact ⟨by first | rfl | (simp [errW_none, errW_some] <;> rfl) | (simp [*, errW_none, errW_some] <;> rfl), by repeat (first | (with_reducible first | exact HB.out | apply below_alloc | apply pw_below_drewN | apply below_drew1) | exact HB.out)⟩
  ·replace c8 := Bool.eq_false_iff.mpr c8
   subst c8
   have H1 : (some ((⟨#[]⟩ : ByteArray), 17)) = some (r1, r2) := by rw [if_neg (show ¬ (false = true) by decide)] at H; exact H
   clear H
   have H := H1
   clear H1
   simp only [Option.some.injEq, Prod.mk.injEq] at H
   obtain ⟨rfl, rfl⟩ := H
   go_enter Tryz.func19, Tryz.ntmps19
   go_wp2_with (first | ((with_reducible refine gate_callee (f := 53) rfl ?_); refine goesL_ (some 5) rfl rfl Tryz.func53 (by kernel_rfl) rfl #[.string a0] rfl (by (try simp only [List.map_toArray, List.map_cons, List.map_nil]); first | done | rfl | (simp only [List.length_drop, List.length_take]; rfl)) ?_; (with_reducible refine (percent_Unmark.calls a0 t286 _ ?side1 A2.out).mono ?_); (case side1 => first | exact HE.out | exact EnvOk.below HE.out (by repeat (first | (with_reducible first | exact HB.out | apply below_alloc | apply pw_below_drewN | apply below_drew1) | exact HB.out))); rintro e w12 ⟨rfl, hb⟩; refine ⟨_, rfl, ?_⟩; have n0_ := Aside0.mk (below_step (by repeat (first | (with_reducible first | exact HB.out | apply below_alloc | apply pw_below_drewN | apply below_drew1) | exact HB.out)) hb); clear HB; have HB := n0_; clear n0_; (try clear hb); (try clear hb2); (try clear hk); (try clear hi)) | ((with_reducible refine gate_callee (f := 52) rfl ?_); refine goesL_ (some 6) rfl rfl Tryz.func52 (by kernel_rfl) rfl #[.string t286] rfl (by (try simp only [List.map_toArray, List.map_cons, List.map_nil]); first | done | rfl | (simp only [List.length_drop, List.length_take]; rfl)) ?_; (with_reducible refine (ascii_Lower.calls t286 t287 _ ?side1 A3.out).mono ?_); (case side1 => first | exact HE.out | exact EnvOk.below HE.out (by repeat (first | (with_reducible first | exact HB.out | apply below_alloc | apply pw_below_drewN | apply below_drew1) | exact HB.out))); rintro e w13 ⟨rfl, hb⟩; refine ⟨_, rfl, ?_⟩; have n0_ := Aside0.mk (below_step (by repeat (first | (with_reducible first | exact HB.out | apply below_alloc | apply pw_below_drewN | apply below_drew1) | exact HB.out)) hb); clear HB; have HB := n0_; clear n0_; (try clear hb); (try clear hb2); (try clear hk); (try clear hi)) | ((with_reducible refine gate_callee (f := 54) rfl ?_); refine goesL_ (some 12) rfl rfl Tryz.func54 (by kernel_rfl) rfl #[.string t287] rfl (by (try simp only [List.map_toArray, List.map_cons, List.map_nil]); first | done | rfl | (simp only [List.length_drop, List.length_take]; rfl)) ?_; (with_reducible refine (url_isName.calls k t287 false _ ?side1 A7.out).mono ?_); (case side1 => first | exact HE.out | exact EnvOk.below HE.out (by repeat (first | (with_reducible first | exact HB.out | apply below_alloc | apply pw_below_drewN | apply below_drew1) | exact HB.out))); rintro e w14 ⟨rfl, hb⟩; refine ⟨_, rfl, ?_⟩; have n0_ := Aside0.mk (below_step (by repeat (first | (with_reducible first | exact HB.out | apply below_alloc | apply pw_below_drewN | apply below_drew1) | exact HB.out)) hb); clear HB; have HB := n0_; clear n0_; (try clear hb); (try clear hb2); (try clear hk); (try clear hi)))
   go_ret2
   exact ⟨by first | rfl | (simp [errW_none, errW_some] <;> rfl) | (simp [*, errW_none, errW_some] <;> rfl), by repeat (first | (with_reducible first | exact HB.out | apply below_alloc | apply pw_below_drewN | apply below_drew1) | exact HB.out)⟩
def url_parser_place.f (k : Nat) (s0_0 : ByteArray) (s0_1 : ByteArray) (s0_2 : ByteArray) (s0_3 : Int) (s0_4 : ByteArray) (s0_5 : ByteArray) (s0_6 : ByteArray) (s0_7 : Bool) (s0_8 : Bool) : Option (Int × ByteArray × ByteArray × ByteArray × Int × ByteArray × ByteArray × ByteArray × Bool × Bool) := (strings_IndexAny.f s0_0 (⟨#[47, 92]⟩ : ByteArray)).bind fun t289 => (if t289 = 0 then ((strings_TrimLeft.f s0_0 (⟨#[47, 92]⟩ : ByteArray)).bind fun t290 => ((url_rest_take.f t290 s0_1 s0_2 s0_3 s0_4 s0_5 s0_6 s0_7 s0_8 (⟨#[47, 92, 63, 35]⟩ : ByteArray)).bind fun bt291 => ((strings_IndexByte.f bt291.1 64).bind fun t301 => (if t301 ≥ 0 then (some (3, bt291.2.1, bt291.2.2.1, bt291.2.2.2.1, bt291.2.2.2.2.1, bt291.2.2.2.2.2.1, bt291.2.2.2.2.2.2.1, bt291.2.2.2.2.2.2.2.1, bt291.2.2.2.2.2.2.2.2.1, bt291.2.2.2.2.2.2.2.2.2)) else ((strings_Cut.f bt291.1 (⟨#[58]⟩ : ByteArray)).bind fun bt302 => ((url_Host.f k bt302.1).bind fun bt305 => (if bt305.2 = 0 then (if bt302.2.1.toList = ([] : List UInt8) then (some (0, bt291.2.1, bt291.2.2.1, bt305.1, bt291.2.2.2.2.1, bt291.2.2.2.2.2.1, bt291.2.2.2.2.2.2.1, bt291.2.2.2.2.2.2.2.1, bt291.2.2.2.2.2.2.2.2.1, bt291.2.2.2.2.2.2.2.2.2)) else ((ascii_Number.f k bt302.2.1 65535).bind fun bt307 => (if bt307.2 = 0 then ((url_own.f bt291.2.2.1).bind fun t309 => (if bt307.1 = t309 then (some (0, bt291.2.1, bt291.2.2.1, bt305.1, bt291.2.2.2.2.1, bt291.2.2.2.2.2.1, bt291.2.2.2.2.2.2.1, bt291.2.2.2.2.2.2.2.1, bt291.2.2.2.2.2.2.2.2.1, bt291.2.2.2.2.2.2.2.2.2)) else (some (0, bt291.2.1, bt291.2.2.1, bt305.1, bt307.1, bt291.2.2.2.2.2.1, bt291.2.2.2.2.2.2.1, bt291.2.2.2.2.2.2.2.1, bt291.2.2.2.2.2.2.2.2.1, bt291.2.2.2.2.2.2.2.2.2)))) else (some (3, bt291.2.1, bt291.2.2.1, bt305.1, bt291.2.2.2.2.1, bt291.2.2.2.2.2.1, bt291.2.2.2.2.2.2.1, bt291.2.2.2.2.2.2.2.1, bt291.2.2.2.2.2.2.2.2.1, bt291.2.2.2.2.2.2.2.2.2))))) else (some (bt305.2, bt291.2.1, bt291.2.2.1, bt291.2.2.2.1, bt291.2.2.2.2.1, bt291.2.2.2.2.2.1, bt291.2.2.2.2.2.2.1, bt291.2.2.2.2.2.2.2.1, bt291.2.2.2.2.2.2.2.2.1, bt291.2.2.2.2.2.2.2.2.2))))))))) else (some (3, s0_0, s0_1, s0_2, s0_3, s0_4, s0_5, s0_6, s0_7, s0_8)))
theorem url_parser_place.mono : ∀ a0 a1 a2 a3 a4 a5 a6 a7 a8 k, LeO (url_parser_place.f k a0 a1 a2 a3 a4 a5 a6 a7 a8) (url_parser_place.f (k + 1) a0 a1 a2 a3 a4 a5 a6 a7 a8) := by
 intro a0 a1 a2 a3 a4 a5 a6 a7 a8 k
 unfold url_parser_place.f
 repeat' first
   | (with_reducible exact ascii_Number.mono _ _ _)
   | (with_reducible exact url_Host.mono _ _)
   | (with_reducible exact LeO.refl _)
   | (with_reducible exact LeO.none _)
   | (with_reducible refine LeO.ite ?_ ?_)
   | (with_reducible refine LeO.bind ?_ (fun _ => ?_))
   | exact ascii_Number.mono _ _ _
   | exact url_Host.mono _ _
   | exact LeO.none _
   | refine LeO.ite ?_ ?_
   | refine LeO.bind ?_ (fun _ => ?_)
set_option maxHeartbeats 8000000 in
set_option maxRecDepth 100000 in
theorem url_parser_place.calls (k : Nat) (g : Nat) (s0_0 : ByteArray) (s0_1 : ByteArray) (s0_2 : ByteArray) (s0_3 : Int) (s0_4 : ByteArray) (s0_5 : ByteArray) (s0_6 : ByteArray) (s0_7 : Bool) (s0_8 : Bool) (r1 : Int) (r2 : ByteArray) (r3 : ByteArray) (r4 : ByteArray) (r5 : Int) (r6 : ByteArray) (r7 : ByteArray) (r8 : ByteArray) (r9 : Bool) (r10 : Bool) (w0 w : World) (hE : EnvOk w0) (hI : IsS53 w0 w g s0_0 s0_1 s0_2 s0_3 s0_4 s0_5 s0_6 s0_7 s0_8) (hB : Below w0.heap.size w0 w) (h : url_parser_place.f k s0_0 s0_1 s0_2 s0_3 s0_4 s0_5 s0_6 s0_7 s0_8 = some (r1, r2, r3, r4, r5, r6, r7, r8, r9, r10)) :
  Calls Tryz.prog 44 #[.pointer (some ⟨g, 0, none⟩)] w fun e w' => e = .returned (.int .i64 r1) ∧ IsS53 w0 w' g r2 r3 r4 r5 r6 r7 r8 r9 r10 ∧ Below w0.heap.size w0 w' ∧ KeepBut w w' g none := by
 have HI0 := Aside0.mk hI
 have HK := Aside0.mk (KeepBut.refl w g none)
 have HL := Aside0.mk hB.size
 clear hI
 have HE := Aside0.mk hE
 clear hE
 have HW0 := Aside0.mk hB.size
 have HB := Aside0.mk hB
 clear hB
 have H : ((strings_IndexAny.f s0_0 (⟨#[47, 92]⟩ : ByteArray)).bind fun t289 => (if t289 = 0 then ((strings_TrimLeft.f s0_0 (⟨#[47, 92]⟩ : ByteArray)).bind fun t290 => ((url_rest_take.f t290 s0_1 s0_2 s0_3 s0_4 s0_5 s0_6 s0_7 s0_8 (⟨#[47, 92, 63, 35]⟩ : ByteArray)).bind fun bt291 => ((strings_IndexByte.f bt291.1 64).bind fun t301 => (if t301 ≥ 0 then (some (3, bt291.2.1, bt291.2.2.1, bt291.2.2.2.1, bt291.2.2.2.2.1, bt291.2.2.2.2.2.1, bt291.2.2.2.2.2.2.1, bt291.2.2.2.2.2.2.2.1, bt291.2.2.2.2.2.2.2.2.1, bt291.2.2.2.2.2.2.2.2.2)) else ((strings_Cut.f bt291.1 (⟨#[58]⟩ : ByteArray)).bind fun bt302 => ((url_Host.f k bt302.1).bind fun bt305 => (if bt305.2 = 0 then (if bt302.2.1.toList = ([] : List UInt8) then (some (0, bt291.2.1, bt291.2.2.1, bt305.1, bt291.2.2.2.2.1, bt291.2.2.2.2.2.1, bt291.2.2.2.2.2.2.1, bt291.2.2.2.2.2.2.2.1, bt291.2.2.2.2.2.2.2.2.1, bt291.2.2.2.2.2.2.2.2.2)) else ((ascii_Number.f k bt302.2.1 65535).bind fun bt307 => (if bt307.2 = 0 then ((url_own.f bt291.2.2.1).bind fun t309 => (if bt307.1 = t309 then (some (0, bt291.2.1, bt291.2.2.1, bt305.1, bt291.2.2.2.2.1, bt291.2.2.2.2.2.1, bt291.2.2.2.2.2.2.1, bt291.2.2.2.2.2.2.2.1, bt291.2.2.2.2.2.2.2.2.1, bt291.2.2.2.2.2.2.2.2.2)) else (some (0, bt291.2.1, bt291.2.2.1, bt305.1, bt307.1, bt291.2.2.2.2.2.1, bt291.2.2.2.2.2.2.1, bt291.2.2.2.2.2.2.2.1, bt291.2.2.2.2.2.2.2.2.1, bt291.2.2.2.2.2.2.2.2.2)))) else (some (3, bt291.2.1, bt291.2.2.1, bt305.1, bt291.2.2.2.2.1, bt291.2.2.2.2.2.1, bt291.2.2.2.2.2.2.1, bt291.2.2.2.2.2.2.2.1, bt291.2.2.2.2.2.2.2.2.1, bt291.2.2.2.2.2.2.2.2.2))))) else (some (bt305.2, bt291.2.1, bt291.2.2.1, bt291.2.2.2.1, bt291.2.2.2.2.1, bt291.2.2.2.2.2.1, bt291.2.2.2.2.2.2.1, bt291.2.2.2.2.2.2.2.1, bt291.2.2.2.2.2.2.2.2.1, bt291.2.2.2.2.2.2.2.2.2))))))))) else (some (3, s0_0, s0_1, s0_2, s0_3, s0_4, s0_5, s0_6, s0_7, s0_8)))) = some (r1, r2, r3, r4, r5, r6, r7, r8, r9, r10) := h
 clear h
 replace H := Option.bind_eq_some_iff.mp H
 obtain ⟨t289, A20, H⟩ := H
 replace H : (if t289 = 0 then ((strings_TrimLeft.f s0_0 (⟨#[47, 92]⟩ : ByteArray)).bind fun t290 => ((url_rest_take.f t290 s0_1 s0_2 s0_3 s0_4 s0_5 s0_6 s0_7 s0_8 (⟨#[47, 92, 63, 35]⟩ : ByteArray)).bind fun bt291 => ((strings_IndexByte.f bt291.1 64).bind fun t301 => (if t301 ≥ 0 then (some (3, bt291.2.1, bt291.2.2.1, bt291.2.2.2.1, bt291.2.2.2.2.1, bt291.2.2.2.2.2.1, bt291.2.2.2.2.2.2.1, bt291.2.2.2.2.2.2.2.1, bt291.2.2.2.2.2.2.2.2.1, bt291.2.2.2.2.2.2.2.2.2)) else ((strings_Cut.f bt291.1 (⟨#[58]⟩ : ByteArray)).bind fun bt302 => ((url_Host.f k bt302.1).bind fun bt305 => (if bt305.2 = 0 then (if bt302.2.1.toList = ([] : List UInt8) then (some (0, bt291.2.1, bt291.2.2.1, bt305.1, bt291.2.2.2.2.1, bt291.2.2.2.2.2.1, bt291.2.2.2.2.2.2.1, bt291.2.2.2.2.2.2.2.1, bt291.2.2.2.2.2.2.2.2.1, bt291.2.2.2.2.2.2.2.2.2)) else ((ascii_Number.f k bt302.2.1 65535).bind fun bt307 => (if bt307.2 = 0 then ((url_own.f bt291.2.2.1).bind fun t309 => (if bt307.1 = t309 then (some (0, bt291.2.1, bt291.2.2.1, bt305.1, bt291.2.2.2.2.1, bt291.2.2.2.2.2.1, bt291.2.2.2.2.2.2.1, bt291.2.2.2.2.2.2.2.1, bt291.2.2.2.2.2.2.2.2.1, bt291.2.2.2.2.2.2.2.2.2)) else (some (0, bt291.2.1, bt291.2.2.1, bt305.1, bt307.1, bt291.2.2.2.2.2.1, bt291.2.2.2.2.2.2.1, bt291.2.2.2.2.2.2.2.1, bt291.2.2.2.2.2.2.2.2.1, bt291.2.2.2.2.2.2.2.2.2)))) else (some (3, bt291.2.1, bt291.2.2.1, bt305.1, bt291.2.2.2.2.1, bt291.2.2.2.2.2.1, bt291.2.2.2.2.2.2.1, bt291.2.2.2.2.2.2.2.1, bt291.2.2.2.2.2.2.2.2.1, bt291.2.2.2.2.2.2.2.2.2))))) else (some (bt305.2, bt291.2.1, bt291.2.2.1, bt291.2.2.2.1, bt291.2.2.2.2.1, bt291.2.2.2.2.2.1, bt291.2.2.2.2.2.2.1, bt291.2.2.2.2.2.2.2.1, bt291.2.2.2.2.2.2.2.2.1, bt291.2.2.2.2.2.2.2.2.2))))))))) else (some (3, s0_0, s0_1, s0_2, s0_3, s0_4, s0_5, s0_6, s0_7, s0_8))) = some (r1, r2, r3, r4, r5, r6, r7, r8, r9, r10) := H
 have A2 := Aside0.mk A20
 clear A20
 by_cases c3 : t289 = 0
 ·rw [if_pos c3] at H
  have c3b0 : (t289 == 0) = true := beq_iff_eq.mpr c3
  have c3b1 : (t289 != 0) = false := bne_eq_false_iff_eq.mpr c3
  clear c3
  replace H := Option.bind_eq_some_iff.mp H
  obtain ⟨t290, A40, H⟩ := H
  replace H : ((url_rest_take.f t290 s0_1 s0_2 s0_3 s0_4 s0_5 s0_6 s0_7 s0_8 (⟨#[47, 92, 63, 35]⟩ : ByteArray)).bind fun bt291 => ((strings_IndexByte.f bt291.1 64).bind fun t301 => (if t301 ≥ 0 then (some (3, bt291.2.1, bt291.2.2.1, bt291.2.2.2.1, bt291.2.2.2.2.1, bt291.2.2.2.2.2.1, bt291.2.2.2.2.2.2.1, bt291.2.2.2.2.2.2.2.1, bt291.2.2.2.2.2.2.2.2.1, bt291.2.2.2.2.2.2.2.2.2)) else ((strings_Cut.f bt291.1 (⟨#[58]⟩ : ByteArray)).bind fun bt302 => ((url_Host.f k bt302.1).bind fun bt305 => (if bt305.2 = 0 then (if bt302.2.1.toList = ([] : List UInt8) then (some (0, bt291.2.1, bt291.2.2.1, bt305.1, bt291.2.2.2.2.1, bt291.2.2.2.2.2.1, bt291.2.2.2.2.2.2.1, bt291.2.2.2.2.2.2.2.1, bt291.2.2.2.2.2.2.2.2.1, bt291.2.2.2.2.2.2.2.2.2)) else ((ascii_Number.f k bt302.2.1 65535).bind fun bt307 => (if bt307.2 = 0 then ((url_own.f bt291.2.2.1).bind fun t309 => (if bt307.1 = t309 then (some (0, bt291.2.1, bt291.2.2.1, bt305.1, bt291.2.2.2.2.1, bt291.2.2.2.2.2.1, bt291.2.2.2.2.2.2.1, bt291.2.2.2.2.2.2.2.1, bt291.2.2.2.2.2.2.2.2.1, bt291.2.2.2.2.2.2.2.2.2)) else (some (0, bt291.2.1, bt291.2.2.1, bt305.1, bt307.1, bt291.2.2.2.2.2.1, bt291.2.2.2.2.2.2.1, bt291.2.2.2.2.2.2.2.1, bt291.2.2.2.2.2.2.2.2.1, bt291.2.2.2.2.2.2.2.2.2)))) else (some (3, bt291.2.1, bt291.2.2.1, bt305.1, bt291.2.2.2.2.1, bt291.2.2.2.2.2.1, bt291.2.2.2.2.2.2.1, bt291.2.2.2.2.2.2.2.1, bt291.2.2.2.2.2.2.2.2.1, bt291.2.2.2.2.2.2.2.2.2))))) else (some (bt305.2, bt291.2.1, bt291.2.2.1, bt291.2.2.2.1, bt291.2.2.2.2.1, bt291.2.2.2.2.2.1, bt291.2.2.2.2.2.2.1, bt291.2.2.2.2.2.2.2.1, bt291.2.2.2.2.2.2.2.2.1, bt291.2.2.2.2.2.2.2.2.2)))))))) = some (r1, r2, r3, r4, r5, r6, r7, r8, r9, r10) := H
  have A4 := Aside0.mk A40
  clear A40
  replace H := Option.bind_eq_some_iff.mp H
  obtain ⟨⟨t291, t292, t293, t294, t295, t296, t297, t298, t299, t300⟩, A50, H⟩ := H
  replace H : ((strings_IndexByte.f t291 64).bind fun t301 => (if t301 ≥ 0 then (some (3, t292, t293, t294, t295, t296, t297, t298, t299, t300)) else ((strings_Cut.f t291 (⟨#[58]⟩ : ByteArray)).bind fun bt302 => ((url_Host.f k bt302.1).bind fun bt305 => (if bt305.2 = 0 then (if bt302.2.1.toList = ([] : List UInt8) then (some (0, t292, t293, bt305.1, t295, t296, t297, t298, t299, t300)) else ((ascii_Number.f k bt302.2.1 65535).bind fun bt307 => (if bt307.2 = 0 then ((url_own.f t293).bind fun t309 => (if bt307.1 = t309 then (some (0, t292, t293, bt305.1, t295, t296, t297, t298, t299, t300)) else (some (0, t292, t293, bt305.1, bt307.1, t296, t297, t298, t299, t300)))) else (some (3, t292, t293, bt305.1, t295, t296, t297, t298, t299, t300))))) else (some (bt305.2, t292, t293, t294, t295, t296, t297, t298, t299, t300))))))) = some (r1, r2, r3, r4, r5, r6, r7, r8, r9, r10) := H
  have A5 := Aside0.mk A50
  clear A50
  replace H := Option.bind_eq_some_iff.mp H
  obtain ⟨t301, A60, H⟩ := H
  replace H : (if t301 ≥ 0 then (some (3, t292, t293, t294, t295, t296, t297, t298, t299, t300)) else ((strings_Cut.f t291 (⟨#[58]⟩ : ByteArray)).bind fun bt302 => ((url_Host.f k bt302.1).bind fun bt305 => (if bt305.2 = 0 then (if bt302.2.1.toList = ([] : List UInt8) then (some (0, t292, t293, bt305.1, t295, t296, t297, t298, t299, t300)) else ((ascii_Number.f k bt302.2.1 65535).bind fun bt307 => (if bt307.2 = 0 then ((url_own.f t293).bind fun t309 => (if bt307.1 = t309 then (some (0, t292, t293, bt305.1, t295, t296, t297, t298, t299, t300)) else (some (0, t292, t293, bt305.1, bt307.1, t296, t297, t298, t299, t300)))) else (some (3, t292, t293, bt305.1, t295, t296, t297, t298, t299, t300))))) else (some (bt305.2, t292, t293, t294, t295, t296, t297, t298, t299, t300)))))) = some (r1, r2, r3, r4, r5, r6, r7, r8, r9, r10) := H
  have A6 := Aside0.mk A60
  clear A60
  by_cases c7 : t301 ≥ 0
  ·rw [if_pos c7] at H
   have c7b0 : decide (0 ≤ t301) = true := decide_eq_true c7
   clear c7
   simp only [Option.some.injEq, Prod.mk.injEq] at H
   obtain ⟨rfl, rfl, rfl, rfl, rfl, rfl, rfl, rfl, rfl, rfl⟩ := H
   obtain ⟨HGz8, hgz8⟩ := HI0.out
   have hcz8_0 := cellS53_0 HGz8
   have hcz8_1 := cellS53_1 HGz8
   have hcz8_2 := cellS53_2 HGz8
   have hcz8_3 := cellS53_3 HGz8
   have hcz8_4 := cellS53_4 HGz8
   have hcz8_5 := cellS53_5 HGz8
   have hcz8_6 := cellS53_6 HGz8
   have hcz8_7 := cellS53_7 HGz8
   have hcz8_8 := cellS53_8 HGz8
   have hfz8_0 := blk_frozen HGz8 0
   have hfz8_1 := blk_frozen HGz8 1
   have hfz8_2 := blk_frozen HGz8 2
   have hfz8_3 := blk_frozen HGz8 3
   have hfz8_4 := blk_frozen HGz8 4
   have hfz8_5 := blk_frozen HGz8 5
   have hfz8_6 := blk_frozen HGz8 6
   have hfz8_7 := blk_frozen HGz8 7
   have hfz8_8 := blk_frozen HGz8 8
   clear HGz8 hgz8
   go_enter Tryz.func44, Tryz.ntmps44
   go_wp2_with (first | ((with_reducible refine gate_callee (f := 80) rfl ?_); refine goesL_ (some 15) rfl rfl Tryz.func80 (by kernel_rfl) rfl #[.string s0_0, .string (⟨#[47, 92]⟩ : ByteArray)] rfl (by (try simp only [List.map_toArray, List.map_cons, List.map_nil]); first | done | rfl | (simp only [List.length_drop, List.length_take]; rfl)) ?_; (with_reducible refine (strings_IndexAny.calls s0_0 (⟨#[47, 92]⟩ : ByteArray) t289 _ ?side1 A2.out).mono ?_); (case side1 => first | exact HE.out | exact EnvOk.below HE.out (by repeat (first | (with_reducible first | exact HB.out | apply below_alloc | apply pw_below_drewN | apply below_drew1 | refine below_set ?_ (IsS53.ge HI0.out)) | exact HB.out))); rintro e w9 ⟨rfl, hb⟩; refine ⟨_, rfl, ?_⟩; have n0_ := Aside0.mk (IsS53.below (by repeat (first | (with_reducible first | exact HI0.out | apply IsS53.alloc | apply IsS53.drewN | apply IsS53.drew | apply IsS53.set_0 | apply IsS53.set_1 | apply IsS53.set_2 | apply IsS53.set_3 | apply IsS53.set_4 | apply IsS53.set_5 | apply IsS53.set_6 | apply IsS53.set_7 | apply IsS53.set_8) | exact HI0.out)) hb); have n1_ := Aside0.mk (KeepBut.trans (by repeat (first | (with_reducible first | exact HK.out | apply KeepBut.set_ | apply keep_drewN | apply keep_drew | apply keep_alloc) | exact HK.out)) (KeepBut.of_below hb g none) (.inl rfl)); have n2_ := Aside0.mk (below_step (by repeat (first | (with_reducible first | exact HB.out | apply below_alloc | apply pw_below_drewN | apply below_drew1 | refine below_set ?_ (IsS53.ge HI0.out)) | exact HB.out)) hb); clear HI0; clear HK; clear HB; have HI0 := n0_; have HK := n1_; have HB := n2_; clear n0_ n1_ n2_; (try clear hb); (try clear hb2); (try clear hk); (try clear hi); obtain ⟨HGz10, hgz10⟩ := HI0.out; have hcz10_0 := cellS53_0 HGz10; have hcz10_1 := cellS53_1 HGz10; have hcz10_2 := cellS53_2 HGz10; have hcz10_3 := cellS53_3 HGz10; have hcz10_4 := cellS53_4 HGz10; have hcz10_5 := cellS53_5 HGz10; have hcz10_6 := cellS53_6 HGz10; have hcz10_7 := cellS53_7 HGz10; have hcz10_8 := cellS53_8 HGz10; have hfz10_0 := blk_frozen HGz10 0; have hfz10_1 := blk_frozen HGz10 1; have hfz10_2 := blk_frozen HGz10 2; have hfz10_3 := blk_frozen HGz10 3; have hfz10_4 := blk_frozen HGz10 4; have hfz10_5 := blk_frozen HGz10 5; have hfz10_6 := blk_frozen HGz10 6; have hfz10_7 := blk_frozen HGz10 7; have hfz10_8 := blk_frozen HGz10 8; clear HGz10 hgz10) | ((with_reducible refine gate_callee (f := 81) rfl ?_); refine goesL_ (some 23) rfl rfl Tryz.func81 (by kernel_rfl) rfl #[.string s0_0, .string (⟨#[47, 92]⟩ : ByteArray)] rfl (by (try simp only [List.map_toArray, List.map_cons, List.map_nil]); first | done | rfl | (simp only [List.length_drop, List.length_take]; rfl)) ?_; (with_reducible refine (strings_TrimLeft.calls s0_0 (⟨#[47, 92]⟩ : ByteArray) t290 _ ?side1 A4.out).mono ?_); (case side1 => first | exact HE.out | exact EnvOk.below HE.out (by repeat (first | (with_reducible first | exact HB.out | apply below_alloc | apply pw_below_drewN | apply below_drew1 | refine below_set ?_ (IsS53.ge HI0.out)) | exact HB.out))); rintro e w11 ⟨rfl, hb⟩; refine ⟨_, rfl, ?_⟩; have n0_ := Aside0.mk (IsS53.below (by repeat (first | (with_reducible first | exact HI0.out | apply IsS53.alloc | apply IsS53.drewN | apply IsS53.drew | apply IsS53.set_0 | apply IsS53.set_1 | apply IsS53.set_2 | apply IsS53.set_3 | apply IsS53.set_4 | apply IsS53.set_5 | apply IsS53.set_6 | apply IsS53.set_7 | apply IsS53.set_8) | exact HI0.out)) hb); have n1_ := Aside0.mk (KeepBut.trans (by repeat (first | (with_reducible first | exact HK.out | apply KeepBut.set_ | apply keep_drewN | apply keep_drew | apply keep_alloc) | exact HK.out)) (KeepBut.of_below hb g none) (.inl rfl)); have n2_ := Aside0.mk (below_step (by repeat (first | (with_reducible first | exact HB.out | apply below_alloc | apply pw_below_drewN | apply below_drew1 | refine below_set ?_ (IsS53.ge HI0.out)) | exact HB.out)) hb); clear HI0; clear HK; clear HB; have HI0 := n0_; have HK := n1_; have HB := n2_; clear n0_ n1_ n2_; (try clear hb); (try clear hb2); (try clear hk); (try clear hi); obtain ⟨HGz12, hgz12⟩ := HI0.out; have hcz12_0 := cellS53_0 HGz12; have hcz12_1 := cellS53_1 HGz12; have hcz12_2 := cellS53_2 HGz12; have hcz12_3 := cellS53_3 HGz12; have hcz12_4 := cellS53_4 HGz12; have hcz12_5 := cellS53_5 HGz12; have hcz12_6 := cellS53_6 HGz12; have hcz12_7 := cellS53_7 HGz12; have hcz12_8 := cellS53_8 HGz12; have hfz12_0 := blk_frozen HGz12 0; have hfz12_1 := blk_frozen HGz12 1; have hfz12_2 := blk_frozen HGz12 2; have hfz12_3 := blk_frozen HGz12 3; have hfz12_4 := blk_frozen HGz12 4; have hfz12_5 := blk_frozen HGz12 5; have hfz12_6 := blk_frozen HGz12 6; have hfz12_7 := blk_frozen HGz12 7; have hfz12_8 := blk_frozen HGz12 8; clear HGz12 hgz12) | ((with_reducible refine gate_callee (f := 82) rfl ?_); refine goesL_ (some 30) rfl rfl Tryz.func82 (by kernel_rfl) rfl #[.pointer (some ⟨g, 0, none⟩), .string (⟨#[47, 92, 63, 35]⟩ : ByteArray)] rfl (by (try simp only [List.map_toArray, List.map_cons, List.map_nil]); first | done | rfl | (simp only [List.length_drop, List.length_take]; rfl)) ?_; (with_reducible refine (url_rest_take.calls g t290 s0_1 s0_2 s0_3 s0_4 s0_5 s0_6 s0_7 s0_8 (⟨#[47, 92, 63, 35]⟩ : ByteArray) t291 t292 t293 t294 t295 t296 t297 t298 t299 t300 w0 _ ?side1 ?side2 ?side3 A5.out).mono ?_); (case side1 => exact HE.out); (case side2 => repeat (first | (with_reducible first | exact HI0.out | apply IsS53.alloc | apply IsS53.drewN | apply IsS53.drew | apply IsS53.set_0 | apply IsS53.set_1 | apply IsS53.set_2 | apply IsS53.set_3 | apply IsS53.set_4 | apply IsS53.set_5 | apply IsS53.set_6 | apply IsS53.set_7 | apply IsS53.set_8) | exact HI0.out)); (case side3 => repeat (first | (with_reducible first | exact HB.out | apply below_alloc | apply pw_below_drewN | apply below_drew1 | refine below_set ?_ (IsS53.ge HI0.out)) | exact HB.out)); rintro e w13 ⟨rfl, hi, hb, hk⟩; refine ⟨_, rfl, ?_⟩; have n0_ := Aside0.mk (KeepBut.trans (by repeat (first | (with_reducible first | exact HK.out | apply KeepBut.set_ | apply keep_drewN | apply keep_drew | apply keep_alloc) | exact HK.out)) hk (.inl rfl)); have n1_ := Aside0.mk (hb); have n2_ := Aside0.mk (hi); clear HK; clear HB; clear HI0; have HK := n0_; have HB := n1_; have HI0 := n2_; clear n0_ n1_ n2_; (try clear hb); (try clear hb2); (try clear hk); (try clear hi)) | ((with_reducible refine gate_callee (f := 79) rfl ?_); refine goesL_ (some 32) rfl rfl Tryz.func79 (by kernel_rfl) rfl #[.string t291, .int .u8 64] rfl (by (try simp only [List.map_toArray, List.map_cons, List.map_nil]); first | done | rfl | (simp only [List.length_drop, List.length_take]; rfl)) ?_; (with_reducible refine (strings_IndexByte.calls t291 64 t301 _ ?side1 A6.out).mono ?_); (case side1 => first | exact HE.out | exact EnvOk.below HE.out (by repeat (first | (with_reducible first | exact HB.out | apply below_alloc | apply pw_below_drewN | apply below_drew1 | refine below_set ?_ (IsS53.ge HI0.out)) | exact HB.out))); rintro e w' ⟨rfl, ⟨nd, rfl⟩⟩; refine ⟨_, rfl, ?_⟩))
   go_ret
   exact ⟨by first | rfl | (simp [errW_none, errW_some] <;> rfl) | (simp [*, errW_none, errW_some] <;> rfl), by repeat (first | (with_reducible first | exact HI0.out | apply IsS53.alloc | apply IsS53.drewN | apply IsS53.drew | apply IsS53.set_0 | apply IsS53.set_1 | apply IsS53.set_2 | apply IsS53.set_3 | apply IsS53.set_4 | apply IsS53.set_5 | apply IsS53.set_6 | apply IsS53.set_7 | apply IsS53.set_8) | exact HI0.out), by repeat (first | (with_reducible first | exact HB.out | apply below_alloc | apply pw_below_drewN | apply below_drew1 | refine below_set ?_ (IsS53.ge HI0.out)) | exact HB.out), by repeat (first | (with_reducible first | exact HK.out | apply KeepBut.set_ | apply keep_drewN | apply keep_drew | apply keep_alloc) | exact HK.out)⟩
  ·rw [if_neg c7] at H
   have c7b0 : decide (0 ≤ t301) = false := decide_eq_false c7
   clear c7
   replace H := Option.bind_eq_some_iff.mp H
   obtain ⟨⟨t302, t303, t304⟩, A140, H⟩ := H
   replace H : ((url_Host.f k t302).bind fun bt305 => (if bt305.2 = 0 then (if t303.toList = ([] : List UInt8) then (some (0, t292, t293, bt305.1, t295, t296, t297, t298, t299, t300)) else ((ascii_Number.f k t303 65535).bind fun bt307 => (if bt307.2 = 0 then ((url_own.f t293).bind fun t309 => (if bt307.1 = t309 then (some (0, t292, t293, bt305.1, t295, t296, t297, t298, t299, t300)) else (some (0, t292, t293, bt305.1, bt307.1, t296, t297, t298, t299, t300)))) else (some (3, t292, t293, bt305.1, t295, t296, t297, t298, t299, t300))))) else (some (bt305.2, t292, t293, t294, t295, t296, t297, t298, t299, t300)))) = some (r1, r2, r3, r4, r5, r6, r7, r8, r9, r10) := H
   have A14 := Aside0.mk A140
   clear A140
   replace H := Option.bind_eq_some_iff.mp H
   obtain ⟨⟨t305, t306⟩, A150, H⟩ := H
   replace H : (if t306 = 0 then (if t303.toList = ([] : List UInt8) then (some (0, t292, t293, t305, t295, t296, t297, t298, t299, t300)) else ((ascii_Number.f k t303 65535).bind fun bt307 => (if bt307.2 = 0 then ((url_own.f t293).bind fun t309 => (if bt307.1 = t309 then (some (0, t292, t293, t305, t295, t296, t297, t298, t299, t300)) else (some (0, t292, t293, t305, bt307.1, t296, t297, t298, t299, t300)))) else (some (3, t292, t293, t305, t295, t296, t297, t298, t299, t300))))) else (some (t306, t292, t293, t294, t295, t296, t297, t298, t299, t300))) = some (r1, r2, r3, r4, r5, r6, r7, r8, r9, r10) := H
   have A15 := Aside0.mk A150
   clear A150
   by_cases c16 : t306 = 0
   ·rw [if_pos c16] at H
    have c16b0 : (t306 == 0) = true := beq_iff_eq.mpr c16
    have c16b1 : (t306 != 0) = false := bne_eq_false_iff_eq.mpr c16
    clear c16
    by_cases c17 : t303.toList = ([] : List UInt8)
    ·rw [if_pos c17] at H
     have c17b0 : (t303.toList == ([] : List UInt8)) = true := beq_iff_eq.mpr c17
     have c17b1 : (t303.toList != ([] : List UInt8)) = false := bne_eq_false_iff_eq.mpr c17
     clear c17
     simp only [Option.some.injEq, Prod.mk.injEq] at H
     obtain ⟨rfl, rfl, rfl, rfl, rfl, rfl, rfl, rfl, rfl, rfl⟩ := H
     obtain ⟨HGz18, hgz18⟩ := HI0.out
     have hcz18_0 := cellS53_0 HGz18
     have hcz18_1 := cellS53_1 HGz18
     have hcz18_2 := cellS53_2 HGz18
     have hcz18_3 := cellS53_3 HGz18
     have hcz18_4 := cellS53_4 HGz18
     have hcz18_5 := cellS53_5 HGz18
     have hcz18_6 := cellS53_6 HGz18
     have hcz18_7 := cellS53_7 HGz18
     have hcz18_8 := cellS53_8 HGz18
     have hfz18_0 := blk_frozen HGz18 0
     have hfz18_1 := blk_frozen HGz18 1
     have hfz18_2 := blk_frozen HGz18 2
     have hfz18_3 := blk_frozen HGz18 3
     have hfz18_4 := blk_frozen HGz18 4
     have hfz18_5 := blk_frozen HGz18 5
     have hfz18_6 := blk_frozen HGz18 6
     have hfz18_7 := blk_frozen HGz18 7
     have hfz18_8 := blk_frozen HGz18 8
     clear HGz18 hgz18
     go_enter Tryz.func44, Tryz.ntmps44
     go_wp2_with (first | ((with_reducible refine gate_callee (f := 80) rfl ?_); refine goesL_ (some 15) rfl rfl Tryz.func80 (by kernel_rfl) rfl #[.string s0_0, .string (⟨#[47, 92]⟩ : ByteArray)] rfl (by (try simp only [List.map_toArray, List.map_cons, List.map_nil]); first | done | rfl | (simp only [List.length_drop, List.length_take]; rfl)) ?_; (with_reducible refine (strings_IndexAny.calls s0_0 (⟨#[47, 92]⟩ : ByteArray) t289 _ ?side1 A2.out).mono ?_); (case side1 => first | exact HE.out | exact EnvOk.below HE.out (by repeat (first | (with_reducible first | exact HB.out | apply below_alloc | apply pw_below_drewN | apply below_drew1 | refine below_set ?_ (IsS53.ge HI0.out)) | exact HB.out))); rintro e w19 ⟨rfl, hb⟩; refine ⟨_, rfl, ?_⟩; have n0_ := Aside0.mk (IsS53.below (by repeat (first | (with_reducible first | exact HI0.out | apply IsS53.alloc | apply IsS53.drewN | apply IsS53.drew | apply IsS53.set_0 | apply IsS53.set_1 | apply IsS53.set_2 | apply IsS53.set_3 | apply IsS53.set_4 | apply IsS53.set_5 | apply IsS53.set_6 | apply IsS53.set_7 | apply IsS53.set_8) | exact HI0.out)) hb); have n1_ := Aside0.mk (KeepBut.trans (by repeat (first | (with_reducible first | exact HK.out | apply KeepBut.set_ | apply keep_drewN | apply keep_drew | apply keep_alloc) | exact HK.out)) (KeepBut.of_below hb g none) (.inl rfl)); have n2_ := Aside0.mk (below_step (by repeat (first | (with_reducible first | exact HB.out | apply below_alloc | apply pw_below_drewN | apply below_drew1 | refine below_set ?_ (IsS53.ge HI0.out)) | exact HB.out)) hb); clear HI0; clear HK; clear HB; have HI0 := n0_; have HK := n1_; have HB := n2_; clear n0_ n1_ n2_; (try clear hb); (try clear hb2); (try clear hk); (try clear hi); obtain ⟨HGz20, hgz20⟩ := HI0.out; have hcz20_0 := cellS53_0 HGz20; have hcz20_1 := cellS53_1 HGz20; have hcz20_2 := cellS53_2 HGz20; have hcz20_3 := cellS53_3 HGz20; have hcz20_4 := cellS53_4 HGz20; have hcz20_5 := cellS53_5 HGz20; have hcz20_6 := cellS53_6 HGz20; have hcz20_7 := cellS53_7 HGz20; have hcz20_8 := cellS53_8 HGz20; have hfz20_0 := blk_frozen HGz20 0; have hfz20_1 := blk_frozen HGz20 1; have hfz20_2 := blk_frozen HGz20 2; have hfz20_3 := blk_frozen HGz20 3; have hfz20_4 := blk_frozen HGz20 4; have hfz20_5 := blk_frozen HGz20 5; have hfz20_6 := blk_frozen HGz20 6; have hfz20_7 := blk_frozen HGz20 7; have hfz20_8 := blk_frozen HGz20 8; clear HGz20 hgz20) | ((with_reducible refine gate_callee (f := 81) rfl ?_); refine goesL_ (some 23) rfl rfl Tryz.func81 (by kernel_rfl) rfl #[.string s0_0, .string (⟨#[47, 92]⟩ : ByteArray)] rfl (by (try simp only [List.map_toArray, List.map_cons, List.map_nil]); first | done | rfl | (simp only [List.length_drop, List.length_take]; rfl)) ?_; (with_reducible refine (strings_TrimLeft.calls s0_0 (⟨#[47, 92]⟩ : ByteArray) t290 _ ?side1 A4.out).mono ?_); (case side1 => first | exact HE.out | exact EnvOk.below HE.out (by repeat (first | (with_reducible first | exact HB.out | apply below_alloc | apply pw_below_drewN | apply below_drew1 | refine below_set ?_ (IsS53.ge HI0.out)) | exact HB.out))); rintro e w21 ⟨rfl, hb⟩; refine ⟨_, rfl, ?_⟩; have n0_ := Aside0.mk (IsS53.below (by repeat (first | (with_reducible first | exact HI0.out | apply IsS53.alloc | apply IsS53.drewN | apply IsS53.drew | apply IsS53.set_0 | apply IsS53.set_1 | apply IsS53.set_2 | apply IsS53.set_3 | apply IsS53.set_4 | apply IsS53.set_5 | apply IsS53.set_6 | apply IsS53.set_7 | apply IsS53.set_8) | exact HI0.out)) hb); have n1_ := Aside0.mk (KeepBut.trans (by repeat (first | (with_reducible first | exact HK.out | apply KeepBut.set_ | apply keep_drewN | apply keep_drew | apply keep_alloc) | exact HK.out)) (KeepBut.of_below hb g none) (.inl rfl)); have n2_ := Aside0.mk (below_step (by repeat (first | (with_reducible first | exact HB.out | apply below_alloc | apply pw_below_drewN | apply below_drew1 | refine below_set ?_ (IsS53.ge HI0.out)) | exact HB.out)) hb); clear HI0; clear HK; clear HB; have HI0 := n0_; have HK := n1_; have HB := n2_; clear n0_ n1_ n2_; (try clear hb); (try clear hb2); (try clear hk); (try clear hi); obtain ⟨HGz22, hgz22⟩ := HI0.out; have hcz22_0 := cellS53_0 HGz22; have hcz22_1 := cellS53_1 HGz22; have hcz22_2 := cellS53_2 HGz22; have hcz22_3 := cellS53_3 HGz22; have hcz22_4 := cellS53_4 HGz22; have hcz22_5 := cellS53_5 HGz22; have hcz22_6 := cellS53_6 HGz22; have hcz22_7 := cellS53_7 HGz22; have hcz22_8 := cellS53_8 HGz22; have hfz22_0 := blk_frozen HGz22 0; have hfz22_1 := blk_frozen HGz22 1; have hfz22_2 := blk_frozen HGz22 2; have hfz22_3 := blk_frozen HGz22 3; have hfz22_4 := blk_frozen HGz22 4; have hfz22_5 := blk_frozen HGz22 5; have hfz22_6 := blk_frozen HGz22 6; have hfz22_7 := blk_frozen HGz22 7; have hfz22_8 := blk_frozen HGz22 8; clear HGz22 hgz22) | ((with_reducible refine gate_callee (f := 82) rfl ?_); refine goesL_ (some 30) rfl rfl Tryz.func82 (by kernel_rfl) rfl #[.pointer (some ⟨g, 0, none⟩), .string (⟨#[47, 92, 63, 35]⟩ : ByteArray)] rfl (by (try simp only [List.map_toArray, List.map_cons, List.map_nil]); first | done | rfl | (simp only [List.length_drop, List.length_take]; rfl)) ?_; (with_reducible refine (url_rest_take.calls g t290 s0_1 s0_2 s0_3 s0_4 s0_5 s0_6 s0_7 s0_8 (⟨#[47, 92, 63, 35]⟩ : ByteArray) t291 t292 t293 t294 t295 t296 t297 t298 t299 t300 w0 _ ?side1 ?side2 ?side3 A5.out).mono ?_); (case side1 => exact HE.out); (case side2 => repeat (first | (with_reducible first | exact HI0.out | apply IsS53.alloc | apply IsS53.drewN | apply IsS53.drew | apply IsS53.set_0 | apply IsS53.set_1 | apply IsS53.set_2 | apply IsS53.set_3 | apply IsS53.set_4 | apply IsS53.set_5 | apply IsS53.set_6 | apply IsS53.set_7 | apply IsS53.set_8) | exact HI0.out)); (case side3 => repeat (first | (with_reducible first | exact HB.out | apply below_alloc | apply pw_below_drewN | apply below_drew1 | refine below_set ?_ (IsS53.ge HI0.out)) | exact HB.out)); rintro e w23 ⟨rfl, hi, hb, hk⟩; refine ⟨_, rfl, ?_⟩; have n0_ := Aside0.mk (KeepBut.trans (by repeat (first | (with_reducible first | exact HK.out | apply KeepBut.set_ | apply keep_drewN | apply keep_drew | apply keep_alloc) | exact HK.out)) hk (.inl rfl)); have n1_ := Aside0.mk (hb); have n2_ := Aside0.mk (hi); clear HK; clear HB; clear HI0; have HK := n0_; have HB := n1_; have HI0 := n2_; clear n0_ n1_ n2_; (try clear hb); (try clear hb2); (try clear hk); (try clear hi)) | ((with_reducible refine gate_callee (f := 79) rfl ?_); refine goesL_ (some 32) rfl rfl Tryz.func79 (by kernel_rfl) rfl #[.string t291, .int .u8 64] rfl (by (try simp only [List.map_toArray, List.map_cons, List.map_nil]); first | done | rfl | (simp only [List.length_drop, List.length_take]; rfl)) ?_; (with_reducible refine (strings_IndexByte.calls t291 64 t301 _ ?side1 A6.out).mono ?_); (case side1 => first | exact HE.out | exact EnvOk.below HE.out (by repeat (first | (with_reducible first | exact HB.out | apply below_alloc | apply pw_below_drewN | apply below_drew1 | refine below_set ?_ (IsS53.ge HI0.out)) | exact HB.out))); rintro e w' ⟨rfl, ⟨nd, rfl⟩⟩; refine ⟨_, rfl, ?_⟩; (try (rw [drewN_self w23]; generalize hq_ : World.drewN w23 _ = w23; have n0_ : Aside0 (IsS53 w0 w23 g t292 t293 t294 t295 t296 t297 t298 t299 t300) := ⟨by rw [← hq_]; exact (by repeat (first | (with_reducible first | exact HI0.out | apply IsS53.alloc | apply IsS53.drewN | apply IsS53.drew | apply IsS53.set_0 | apply IsS53.set_1 | apply IsS53.set_2 | apply IsS53.set_3 | apply IsS53.set_4 | apply IsS53.set_5 | apply IsS53.set_6 | apply IsS53.set_7 | apply IsS53.set_8) | exact HI0.out))⟩; have n1_ : Aside0 (KeepBut w w23 g none) := ⟨by rw [← hq_]; exact (by repeat (first | (with_reducible first | exact HK.out | apply KeepBut.set_ | apply keep_drewN | apply keep_drew | apply keep_alloc) | exact HK.out))⟩; have n2_ : Aside0 (Below w0.heap.size w0 w23) := ⟨by rw [← hq_]; exact (by repeat (first | (with_reducible first | exact HB.out | apply below_alloc | apply pw_below_drewN | apply below_drew1 | refine below_set ?_ (IsS53.ge HI0.out)) | exact HB.out))⟩; clear HI0 HK HB hq_; have HI0 := n0_; have HK := n1_; have HB := n2_; clear n0_ n1_ n2_))) | ((with_reducible refine gate_callee (f := 76) rfl ?_); refine goesL_ (some 36) rfl rfl Tryz.func76 (by kernel_rfl) rfl #[.string t291, .string (⟨#[58]⟩ : ByteArray)] rfl (by (try simp only [List.map_toArray, List.map_cons, List.map_nil]); first | done | rfl | (simp only [List.length_drop, List.length_take]; rfl)) ?_; (with_reducible refine (strings_Cut.calls t291 (⟨#[58]⟩ : ByteArray) t302 t303 t304 _ ?side1 A14.out).mono ?_); (case side1 => first | exact HE.out | exact EnvOk.below HE.out (by repeat (first | (with_reducible first | exact HB.out | apply below_alloc | apply pw_below_drewN | apply below_drew1 | refine below_set ?_ (IsS53.ge HI0.out)) | exact HB.out))); rintro e w' ⟨rfl, ⟨nd, rfl⟩⟩; refine ⟨_, rfl, ?_⟩; (try (rw [drewN_self w23]; generalize hq_ : World.drewN w23 _ = w23; have n0_ : Aside0 (IsS53 w0 w23 g t292 t293 t294 t295 t296 t297 t298 t299 t300) := ⟨by rw [← hq_]; exact (by repeat (first | (with_reducible first | exact HI0.out | apply IsS53.alloc | apply IsS53.drewN | apply IsS53.drew | apply IsS53.set_0 | apply IsS53.set_1 | apply IsS53.set_2 | apply IsS53.set_3 | apply IsS53.set_4 | apply IsS53.set_5 | apply IsS53.set_6 | apply IsS53.set_7 | apply IsS53.set_8) | exact HI0.out))⟩; have n1_ : Aside0 (KeepBut w w23 g none) := ⟨by rw [← hq_]; exact (by repeat (first | (with_reducible first | exact HK.out | apply KeepBut.set_ | apply keep_drewN | apply keep_drew | apply keep_alloc) | exact HK.out))⟩; have n2_ : Aside0 (Below w0.heap.size w0 w23) := ⟨by rw [← hq_]; exact (by repeat (first | (with_reducible first | exact HB.out | apply below_alloc | apply pw_below_drewN | apply below_drew1 | refine below_set ?_ (IsS53.ge HI0.out)) | exact HB.out))⟩; clear HI0 HK HB hq_; have HI0 := n0_; have HK := n1_; have HB := n2_; clear n0_ n1_ n2_))) | ((with_reducible refine gate_callee (f := 19) rfl ?_); refine goesL_ (some 42) rfl rfl Tryz.func19 (by kernel_rfl) rfl #[.string t302] rfl (by (try simp only [List.map_toArray, List.map_cons, List.map_nil]); first | done | rfl | (simp only [List.length_drop, List.length_take]; rfl)) ?_; (with_reducible refine (url_Host.calls k t302 t305 t306 _ ?side1 A15.out).mono ?_); (case side1 => first | exact HE.out | exact EnvOk.below HE.out (by repeat (first | (with_reducible first | exact HB.out | apply below_alloc | apply pw_below_drewN | apply below_drew1 | refine below_set ?_ (IsS53.ge HI0.out)) | exact HB.out))); rintro e w24 ⟨rfl, hb⟩; refine ⟨_, rfl, ?_⟩; have n0_ := Aside0.mk (IsS53.below (by repeat (first | (with_reducible first | exact HI0.out | apply IsS53.alloc | apply IsS53.drewN | apply IsS53.drew | apply IsS53.set_0 | apply IsS53.set_1 | apply IsS53.set_2 | apply IsS53.set_3 | apply IsS53.set_4 | apply IsS53.set_5 | apply IsS53.set_6 | apply IsS53.set_7 | apply IsS53.set_8) | exact HI0.out)) hb); have n1_ := Aside0.mk (KeepBut.trans (by repeat (first | (with_reducible first | exact HK.out | apply KeepBut.set_ | apply keep_drewN | apply keep_drew | apply keep_alloc) | exact HK.out)) (KeepBut.of_below hb g none) (.inl rfl)); have n2_ := Aside0.mk (below_step (by repeat (first | (with_reducible first | exact HB.out | apply below_alloc | apply pw_below_drewN | apply below_drew1 | refine below_set ?_ (IsS53.ge HI0.out)) | exact HB.out)) hb); clear HI0; clear HK; clear HB; have HI0 := n0_; have HK := n1_; have HB := n2_; clear n0_ n1_ n2_; (try clear hb); (try clear hb2); (try clear hk); (try clear hi); obtain ⟨HGz25, hgz25⟩ := HI0.out; have hcz25_0 := cellS53_0 HGz25; have hcz25_1 := cellS53_1 HGz25; have hcz25_2 := cellS53_2 HGz25; have hcz25_3 := cellS53_3 HGz25; have hcz25_4 := cellS53_4 HGz25; have hcz25_5 := cellS53_5 HGz25; have hcz25_6 := cellS53_6 HGz25; have hcz25_7 := cellS53_7 HGz25; have hcz25_8 := cellS53_8 HGz25; have hfz25_0 := blk_frozen HGz25 0; have hfz25_1 := blk_frozen HGz25 1; have hfz25_2 := blk_frozen HGz25 2; have hfz25_3 := blk_frozen HGz25 3; have hfz25_4 := blk_frozen HGz25 4; have hfz25_5 := blk_frozen HGz25 5; have hfz25_6 := blk_frozen HGz25 6; have hfz25_7 := blk_frozen HGz25 7; have hfz25_8 := blk_frozen HGz25 8; clear HGz25 hgz25))
     go_ret
     exact ⟨by first | rfl | (simp [errW_none, errW_some] <;> rfl) | (simp [*, errW_none, errW_some] <;> rfl), by repeat (first | (with_reducible first | exact HI0.out | apply IsS53.alloc | apply IsS53.drewN | apply IsS53.drew | apply IsS53.set_0 | apply IsS53.set_1 | apply IsS53.set_2 | apply IsS53.set_3 | apply IsS53.set_4 | apply IsS53.set_5 | apply IsS53.set_6 | apply IsS53.set_7 | apply IsS53.set_8) | exact HI0.out), by repeat (first | (with_reducible first | exact HB.out | apply below_alloc | apply pw_below_drewN | apply below_drew1 | refine below_set ?_ (IsS53.ge HI0.out)) | exact HB.out), by repeat (first | (with_reducible first | exact HK.out | apply KeepBut.set_ | apply keep_drewN | apply keep_drew | apply keep_alloc) | exact HK.out)⟩
    ·rw [if_neg c17] at H
     have c17b0 : (t303.toList == ([] : List UInt8)) = false := beq_eq_false_iff_ne.mpr c17
     have c17b1 : (t303.toList != ([] : List UInt8)) = true := bne_iff_ne.mpr c17
     replace H := Option.bind_eq_some_iff.mp H
     obtain ⟨⟨t307, t308⟩, A260, H⟩ := H
     replace H : (if t308 = 0 then ((url_own.f t293).bind fun t309 => (if t307 = t309 then (some (0, t292, t293, t305, t295, t296, t297, t298, t299, t300)) else (some (0, t292, t293, t305, t307, t296, t297, t298, t299, t300)))) else (some (3, t292, t293, t305, t295, t296, t297, t298, t299, t300))) = some (r1, r2, r3, r4, r5, r6, r7, r8, r9, r10) := H
     have A26 := Aside0.mk A260
     clear A260
     by_cases c27 : t308 = 0
     ·rw [if_pos c27] at H
      have c27b0 : (t308 == 0) = true := beq_iff_eq.mpr c27
      have c27b1 : (t308 != 0) = false := bne_eq_false_iff_eq.mpr c27
      clear c27
      replace H := Option.bind_eq_some_iff.mp H
      obtain ⟨t309, A280, H⟩ := H
      replace H : (if t307 = t309 then (some (0, t292, t293, t305, t295, t296, t297, t298, t299, t300)) else (some (0, t292, t293, t305, t307, t296, t297, t298, t299, t300))) = some (r1, r2, r3, r4, r5, r6, r7, r8, r9, r10) := H
      have A28 := Aside0.mk A280
      clear A280
      by_cases c29 : t307 = t309
      ·rw [if_pos c29] at H
       have c29b0 : (t307 == t309) = true := beq_iff_eq.mpr c29
       have c29b1 : (t307 != t309) = false := bne_eq_false_iff_eq.mpr c29
       clear c29
       simp only [Option.some.injEq, Prod.mk.injEq] at H
       obtain ⟨rfl, rfl, rfl, rfl, rfl, rfl, rfl, rfl, rfl, rfl⟩ := H
       obtain ⟨HGz30, hgz30⟩ := HI0.out
       have hcz30_0 := cellS53_0 HGz30
       have hcz30_1 := cellS53_1 HGz30
       have hcz30_2 := cellS53_2 HGz30
       have hcz30_3 := cellS53_3 HGz30
       have hcz30_4 := cellS53_4 HGz30
       have hcz30_5 := cellS53_5 HGz30
       have hcz30_6 := cellS53_6 HGz30
       have hcz30_7 := cellS53_7 HGz30
       have hcz30_8 := cellS53_8 HGz30
       have hfz30_0 := blk_frozen HGz30 0
       have hfz30_1 := blk_frozen HGz30 1
       have hfz30_2 := blk_frozen HGz30 2
       have hfz30_3 := blk_frozen HGz30 3
       have hfz30_4 := blk_frozen HGz30 4
       have hfz30_5 := blk_frozen HGz30 5
       have hfz30_6 := blk_frozen HGz30 6
       have hfz30_7 := blk_frozen HGz30 7
       have hfz30_8 := blk_frozen HGz30 8
       clear HGz30 hgz30
       go_enter Tryz.func44, Tryz.ntmps44
       go_wp2_with (first | ((with_reducible refine gate_callee (f := 80) rfl ?_); refine goesL_ (some 15) rfl rfl Tryz.func80 (by kernel_rfl) rfl #[.string s0_0, .string (⟨#[47, 92]⟩ : ByteArray)] rfl (by (try simp only [List.map_toArray, List.map_cons, List.map_nil]); first | done | rfl | (simp only [List.length_drop, List.length_take]; rfl)) ?_; (with_reducible refine (strings_IndexAny.calls s0_0 (⟨#[47, 92]⟩ : ByteArray) t289 _ ?side1 A2.out).mono ?_); (case side1 => first | exact HE.out | exact EnvOk.below HE.out (by repeat (first | (with_reducible first | exact HB.out | apply below_alloc | apply pw_below_drewN | apply below_drew1 | refine below_set ?_ (IsS53.ge HI0.out)) | exact HB.out))); rintro e w31 ⟨rfl, hb⟩; refine ⟨_, rfl, ?_⟩; have n0_ := Aside0.mk (IsS53.below (by repeat (first | (with_reducible first | exact HI0.out | apply IsS53.alloc | apply IsS53.drewN | apply IsS53.drew | apply IsS53.set_0 | apply IsS53.set_1 | apply IsS53.set_2 | apply IsS53.set_3 | apply IsS53.set_4 | apply IsS53.set_5 | apply IsS53.set_6 | apply IsS53.set_7 | apply IsS53.set_8) | exact HI0.out)) hb); have n1_ := Aside0.mk (KeepBut.trans (by repeat (first | (with_reducible first | exact HK.out | apply KeepBut.set_ | apply keep_drewN | apply keep_drew | apply keep_alloc) | exact HK.out)) (KeepBut.of_below hb g none) (.inl rfl)); have n2_ := Aside0.mk (below_step (by repeat (first | (with_reducible first | exact HB.out | apply below_alloc | apply pw_below_drewN | apply below_drew1 | refine below_set ?_ (IsS53.ge HI0.out)) | exact HB.out)) hb); clear HI0; clear HK; clear HB; have HI0 := n0_; have HK := n1_; have HB := n2_; clear n0_ n1_ n2_; (try clear hb); (try clear hb2); (try clear hk); (try clear hi); obtain ⟨HGz32, hgz32⟩ := HI0.out; have hcz32_0 := cellS53_0 HGz32; have hcz32_1 := cellS53_1 HGz32; have hcz32_2 := cellS53_2 HGz32; have hcz32_3 := cellS53_3 HGz32; have hcz32_4 := cellS53_4 HGz32; have hcz32_5 := cellS53_5 HGz32; have hcz32_6 := cellS53_6 HGz32; have hcz32_7 := cellS53_7 HGz32; have hcz32_8 := cellS53_8 HGz32; have hfz32_0 := blk_frozen HGz32 0; have hfz32_1 := blk_frozen HGz32 1; have hfz32_2 := blk_frozen HGz32 2; have hfz32_3 := blk_frozen HGz32 3; have hfz32_4 := blk_frozen HGz32 4; have hfz32_5 := blk_frozen HGz32 5; have hfz32_6 := blk_frozen HGz32 6; have hfz32_7 := blk_frozen HGz32 7; have hfz32_8 := blk_frozen HGz32 8; clear HGz32 hgz32) | ((with_reducible refine gate_callee (f := 81) rfl ?_); refine goesL_ (some 23) rfl rfl Tryz.func81 (by kernel_rfl) rfl #[.string s0_0, .string (⟨#[47, 92]⟩ : ByteArray)] rfl (by (try simp only [List.map_toArray, List.map_cons, List.map_nil]); first | done | rfl | (simp only [List.length_drop, List.length_take]; rfl)) ?_; (with_reducible refine (strings_TrimLeft.calls s0_0 (⟨#[47, 92]⟩ : ByteArray) t290 _ ?side1 A4.out).mono ?_); (case side1 => first | exact HE.out | exact EnvOk.below HE.out (by repeat (first | (with_reducible first | exact HB.out | apply below_alloc | apply pw_below_drewN | apply below_drew1 | refine below_set ?_ (IsS53.ge HI0.out)) | exact HB.out))); rintro e w33 ⟨rfl, hb⟩; refine ⟨_, rfl, ?_⟩; have n0_ := Aside0.mk (IsS53.below (by repeat (first | (with_reducible first | exact HI0.out | apply IsS53.alloc | apply IsS53.drewN | apply IsS53.drew | apply IsS53.set_0 | apply IsS53.set_1 | apply IsS53.set_2 | apply IsS53.set_3 | apply IsS53.set_4 | apply IsS53.set_5 | apply IsS53.set_6 | apply IsS53.set_7 | apply IsS53.set_8) | exact HI0.out)) hb); have n1_ := Aside0.mk (KeepBut.trans (by repeat (first | (with_reducible first | exact HK.out | apply KeepBut.set_ | apply keep_drewN | apply keep_drew | apply keep_alloc) | exact HK.out)) (KeepBut.of_below hb g none) (.inl rfl)); have n2_ := Aside0.mk (below_step (by repeat (first | (with_reducible first | exact HB.out | apply below_alloc | apply pw_below_drewN | apply below_drew1 | refine below_set ?_ (IsS53.ge HI0.out)) | exact HB.out)) hb); clear HI0; clear HK; clear HB; have HI0 := n0_; have HK := n1_; have HB := n2_; clear n0_ n1_ n2_; (try clear hb); (try clear hb2); (try clear hk); (try clear hi); obtain ⟨HGz34, hgz34⟩ := HI0.out; have hcz34_0 := cellS53_0 HGz34; have hcz34_1 := cellS53_1 HGz34; have hcz34_2 := cellS53_2 HGz34; have hcz34_3 := cellS53_3 HGz34; have hcz34_4 := cellS53_4 HGz34; have hcz34_5 := cellS53_5 HGz34; have hcz34_6 := cellS53_6 HGz34; have hcz34_7 := cellS53_7 HGz34; have hcz34_8 := cellS53_8 HGz34; have hfz34_0 := blk_frozen HGz34 0; have hfz34_1 := blk_frozen HGz34 1; have hfz34_2 := blk_frozen HGz34 2; have hfz34_3 := blk_frozen HGz34 3; have hfz34_4 := blk_frozen HGz34 4; have hfz34_5 := blk_frozen HGz34 5; have hfz34_6 := blk_frozen HGz34 6; have hfz34_7 := blk_frozen HGz34 7; have hfz34_8 := blk_frozen HGz34 8; clear HGz34 hgz34) | ((with_reducible refine gate_callee (f := 82) rfl ?_); refine goesL_ (some 30) rfl rfl Tryz.func82 (by kernel_rfl) rfl #[.pointer (some ⟨g, 0, none⟩), .string (⟨#[47, 92, 63, 35]⟩ : ByteArray)] rfl (by (try simp only [List.map_toArray, List.map_cons, List.map_nil]); first | done | rfl | (simp only [List.length_drop, List.length_take]; rfl)) ?_; (with_reducible refine (url_rest_take.calls g t290 s0_1 s0_2 s0_3 s0_4 s0_5 s0_6 s0_7 s0_8 (⟨#[47, 92, 63, 35]⟩ : ByteArray) t291 t292 t293 t294 t295 t296 t297 t298 t299 t300 w0 _ ?side1 ?side2 ?side3 A5.out).mono ?_); (case side1 => exact HE.out); (case side2 => repeat (first | (with_reducible first | exact HI0.out | apply IsS53.alloc | apply IsS53.drewN | apply IsS53.drew | apply IsS53.set_0 | apply IsS53.set_1 | apply IsS53.set_2 | apply IsS53.set_3 | apply IsS53.set_4 | apply IsS53.set_5 | apply IsS53.set_6 | apply IsS53.set_7 | apply IsS53.set_8) | exact HI0.out)); (case side3 => repeat (first | (with_reducible first | exact HB.out | apply below_alloc | apply pw_below_drewN | apply below_drew1 | refine below_set ?_ (IsS53.ge HI0.out)) | exact HB.out)); rintro e w35 ⟨rfl, hi, hb, hk⟩; refine ⟨_, rfl, ?_⟩; have n0_ := Aside0.mk (KeepBut.trans (by repeat (first | (with_reducible first | exact HK.out | apply KeepBut.set_ | apply keep_drewN | apply keep_drew | apply keep_alloc) | exact HK.out)) hk (.inl rfl)); have n1_ := Aside0.mk (hb); have n2_ := Aside0.mk (hi); clear HK; clear HB; clear HI0; have HK := n0_; have HB := n1_; have HI0 := n2_; clear n0_ n1_ n2_; (try clear hb); (try clear hb2); (try clear hk); (try clear hi)) | ((with_reducible refine gate_callee (f := 79) rfl ?_); refine goesL_ (some 32) rfl rfl Tryz.func79 (by kernel_rfl) rfl #[.string t291, .int .u8 64] rfl (by (try simp only [List.map_toArray, List.map_cons, List.map_nil]); first | done | rfl | (simp only [List.length_drop, List.length_take]; rfl)) ?_; (with_reducible refine (strings_IndexByte.calls t291 64 t301 _ ?side1 A6.out).mono ?_); (case side1 => first | exact HE.out | exact EnvOk.below HE.out (by repeat (first | (with_reducible first | exact HB.out | apply below_alloc | apply pw_below_drewN | apply below_drew1 | refine below_set ?_ (IsS53.ge HI0.out)) | exact HB.out))); rintro e w' ⟨rfl, ⟨nd, rfl⟩⟩; refine ⟨_, rfl, ?_⟩; (try (rw [drewN_self w35]; generalize hq_ : World.drewN w35 _ = w35; have n0_ : Aside0 (IsS53 w0 w35 g t292 t293 t294 t295 t296 t297 t298 t299 t300) := ⟨by rw [← hq_]; exact (by repeat (first | (with_reducible first | exact HI0.out | apply IsS53.alloc | apply IsS53.drewN | apply IsS53.drew | apply IsS53.set_0 | apply IsS53.set_1 | apply IsS53.set_2 | apply IsS53.set_3 | apply IsS53.set_4 | apply IsS53.set_5 | apply IsS53.set_6 | apply IsS53.set_7 | apply IsS53.set_8) | exact HI0.out))⟩; have n1_ : Aside0 (KeepBut w w35 g none) := ⟨by rw [← hq_]; exact (by repeat (first | (with_reducible first | exact HK.out | apply KeepBut.set_ | apply keep_drewN | apply keep_drew | apply keep_alloc) | exact HK.out))⟩; have n2_ : Aside0 (Below w0.heap.size w0 w35) := ⟨by rw [← hq_]; exact (by repeat (first | (with_reducible first | exact HB.out | apply below_alloc | apply pw_below_drewN | apply below_drew1 | refine below_set ?_ (IsS53.ge HI0.out)) | exact HB.out))⟩; clear HI0 HK HB hq_; have HI0 := n0_; have HK := n1_; have HB := n2_; clear n0_ n1_ n2_))) | ((with_reducible refine gate_callee (f := 76) rfl ?_); refine goesL_ (some 36) rfl rfl Tryz.func76 (by kernel_rfl) rfl #[.string t291, .string (⟨#[58]⟩ : ByteArray)] rfl (by (try simp only [List.map_toArray, List.map_cons, List.map_nil]); first | done | rfl | (simp only [List.length_drop, List.length_take]; rfl)) ?_; (with_reducible refine (strings_Cut.calls t291 (⟨#[58]⟩ : ByteArray) t302 t303 t304 _ ?side1 A14.out).mono ?_); (case side1 => first | exact HE.out | exact EnvOk.below HE.out (by repeat (first | (with_reducible first | exact HB.out | apply below_alloc | apply pw_below_drewN | apply below_drew1 | refine below_set ?_ (IsS53.ge HI0.out)) | exact HB.out))); rintro e w' ⟨rfl, ⟨nd, rfl⟩⟩; refine ⟨_, rfl, ?_⟩; (try (rw [drewN_self w35]; generalize hq_ : World.drewN w35 _ = w35; have n0_ : Aside0 (IsS53 w0 w35 g t292 t293 t294 t295 t296 t297 t298 t299 t300) := ⟨by rw [← hq_]; exact (by repeat (first | (with_reducible first | exact HI0.out | apply IsS53.alloc | apply IsS53.drewN | apply IsS53.drew | apply IsS53.set_0 | apply IsS53.set_1 | apply IsS53.set_2 | apply IsS53.set_3 | apply IsS53.set_4 | apply IsS53.set_5 | apply IsS53.set_6 | apply IsS53.set_7 | apply IsS53.set_8) | exact HI0.out))⟩; have n1_ : Aside0 (KeepBut w w35 g none) := ⟨by rw [← hq_]; exact (by repeat (first | (with_reducible first | exact HK.out | apply KeepBut.set_ | apply keep_drewN | apply keep_drew | apply keep_alloc) | exact HK.out))⟩; have n2_ : Aside0 (Below w0.heap.size w0 w35) := ⟨by rw [← hq_]; exact (by repeat (first | (with_reducible first | exact HB.out | apply below_alloc | apply pw_below_drewN | apply below_drew1 | refine below_set ?_ (IsS53.ge HI0.out)) | exact HB.out))⟩; clear HI0 HK HB hq_; have HI0 := n0_; have HK := n1_; have HB := n2_; clear n0_ n1_ n2_))) | ((with_reducible refine gate_callee (f := 19) rfl ?_); refine goesL_ (some 42) rfl rfl Tryz.func19 (by kernel_rfl) rfl #[.string t302] rfl (by (try simp only [List.map_toArray, List.map_cons, List.map_nil]); first | done | rfl | (simp only [List.length_drop, List.length_take]; rfl)) ?_; (with_reducible refine (url_Host.calls k t302 t305 t306 _ ?side1 A15.out).mono ?_); (case side1 => first | exact HE.out | exact EnvOk.below HE.out (by repeat (first | (with_reducible first | exact HB.out | apply below_alloc | apply pw_below_drewN | apply below_drew1 | refine below_set ?_ (IsS53.ge HI0.out)) | exact HB.out))); rintro e w36 ⟨rfl, hb⟩; refine ⟨_, rfl, ?_⟩; have n0_ := Aside0.mk (IsS53.below (by repeat (first | (with_reducible first | exact HI0.out | apply IsS53.alloc | apply IsS53.drewN | apply IsS53.drew | apply IsS53.set_0 | apply IsS53.set_1 | apply IsS53.set_2 | apply IsS53.set_3 | apply IsS53.set_4 | apply IsS53.set_5 | apply IsS53.set_6 | apply IsS53.set_7 | apply IsS53.set_8) | exact HI0.out)) hb); have n1_ := Aside0.mk (KeepBut.trans (by repeat (first | (with_reducible first | exact HK.out | apply KeepBut.set_ | apply keep_drewN | apply keep_drew | apply keep_alloc) | exact HK.out)) (KeepBut.of_below hb g none) (.inl rfl)); have n2_ := Aside0.mk (below_step (by repeat (first | (with_reducible first | exact HB.out | apply below_alloc | apply pw_below_drewN | apply below_drew1 | refine below_set ?_ (IsS53.ge HI0.out)) | exact HB.out)) hb); clear HI0; clear HK; clear HB; have HI0 := n0_; have HK := n1_; have HB := n2_; clear n0_ n1_ n2_; (try clear hb); (try clear hb2); (try clear hk); (try clear hi); obtain ⟨HGz37, hgz37⟩ := HI0.out; have hcz37_0 := cellS53_0 HGz37; have hcz37_1 := cellS53_1 HGz37; have hcz37_2 := cellS53_2 HGz37; have hcz37_3 := cellS53_3 HGz37; have hcz37_4 := cellS53_4 HGz37; have hcz37_5 := cellS53_5 HGz37; have hcz37_6 := cellS53_6 HGz37; have hcz37_7 := cellS53_7 HGz37; have hcz37_8 := cellS53_8 HGz37; have hfz37_0 := blk_frozen HGz37 0; have hfz37_1 := blk_frozen HGz37 1; have hfz37_2 := blk_frozen HGz37 2; have hfz37_3 := blk_frozen HGz37 3; have hfz37_4 := blk_frozen HGz37 4; have hfz37_5 := blk_frozen HGz37 5; have hfz37_6 := blk_frozen HGz37 6; have hfz37_7 := blk_frozen HGz37 7; have hfz37_8 := blk_frozen HGz37 8; clear HGz37 hgz37) | ((with_reducible refine gate_callee (f := 83) rfl ?_); refine goesL_ (some 57) rfl rfl Tryz.func83 (by kernel_rfl) rfl #[.string t303, .int .i64 65535] rfl (by (try simp only [List.map_toArray, List.map_cons, List.map_nil]); first | done | rfl | (simp only [List.length_drop, List.length_take]; rfl)) ?_; (with_reducible refine (ascii_Number.calls k t303 65535 t307 t308 _ ?side1 A26.out).mono ?_); (case side1 => first | exact HE.out | exact EnvOk.below HE.out (by repeat (first | (with_reducible first | exact HB.out | apply below_alloc | apply pw_below_drewN | apply below_drew1 | refine below_set ?_ (IsS53.ge HI0.out)) | exact HB.out))); rintro e w' ⟨rfl, ⟨nd, rfl⟩⟩; refine ⟨_, rfl, ?_⟩) | ((with_reducible refine gate_callee (f := 84) rfl ?_); refine goesL_ (some 68) rfl rfl Tryz.func84 (by kernel_rfl) rfl #[.string t293] rfl (by (try simp only [List.map_toArray, List.map_cons, List.map_nil]); first | done | rfl | (simp only [List.length_drop, List.length_take]; rfl)) ?_; (with_reducible refine (url_own.calls t293 t309 _ ?side1 A28.out).mono ?_); (case side1 => first | exact HE.out | exact EnvOk.below HE.out (by repeat (first | (with_reducible first | exact HB.out | apply below_alloc | apply pw_below_drewN | apply below_drew1 | refine below_set ?_ (IsS53.ge HI0.out)) | exact HB.out))); rintro e w' ⟨rfl, ⟨nd, rfl⟩⟩; refine ⟨_, rfl, ?_⟩))
       go_ret
       exact ⟨by first | rfl | (simp [errW_none, errW_some] <;> rfl) | (simp [*, errW_none, errW_some] <;> rfl), by repeat (first | (with_reducible first | exact HI0.out | apply IsS53.alloc | apply IsS53.drewN | apply IsS53.drew | apply IsS53.set_0 | apply IsS53.set_1 | apply IsS53.set_2 | apply IsS53.set_3 | apply IsS53.set_4 | apply IsS53.set_5 | apply IsS53.set_6 | apply IsS53.set_7 | apply IsS53.set_8) | exact HI0.out), by repeat (first | (with_reducible first | exact HB.out | apply below_alloc | apply pw_below_drewN | apply below_drew1 | refine below_set ?_ (IsS53.ge HI0.out)) | exact HB.out), by repeat (first | (with_reducible first | exact HK.out | apply KeepBut.set_ | apply keep_drewN | apply keep_drew | apply keep_alloc) | exact HK.out)⟩
      ·rw [if_neg c29] at H
       have c29b0 : (t307 == t309) = false := beq_eq_false_iff_ne.mpr c29
       have c29b1 : (t307 != t309) = true := bne_iff_ne.mpr c29
       simp only [Option.some.injEq, Prod.mk.injEq] at H
       obtain ⟨rfl, rfl, rfl, rfl, rfl, rfl, rfl, rfl, rfl, rfl⟩ := H
       obtain ⟨HGz38, hgz38⟩ := HI0.out
       have hcz38_0 := cellS53_0 HGz38
       have hcz38_1 := cellS53_1 HGz38
       have hcz38_2 := cellS53_2 HGz38
       have hcz38_3 := cellS53_3 HGz38
       have hcz38_4 := cellS53_4 HGz38
       have hcz38_5 := cellS53_5 HGz38
       have hcz38_6 := cellS53_6 HGz38
       have hcz38_7 := cellS53_7 HGz38
       have hcz38_8 := cellS53_8 HGz38
       have hfz38_0 := blk_frozen HGz38 0
       have hfz38_1 := blk_frozen HGz38 1
       have hfz38_2 := blk_frozen HGz38 2
       have hfz38_3 := blk_frozen HGz38 3
       have hfz38_4 := blk_frozen HGz38 4
       have hfz38_5 := blk_frozen HGz38 5
       have hfz38_6 := blk_frozen HGz38 6
       have hfz38_7 := blk_frozen HGz38 7
       have hfz38_8 := blk_frozen HGz38 8
       clear HGz38 hgz38
       go_enter Tryz.func44, Tryz.ntmps44
       go_wp2_with (first | ((with_reducible refine gate_callee (f := 80) rfl ?_); refine goesL_ (some 15) rfl rfl Tryz.func80 (by kernel_rfl) rfl #[.string s0_0, .string (⟨#[47, 92]⟩ : ByteArray)] rfl (by (try simp only [List.map_toArray, List.map_cons, List.map_nil]); first | done | rfl | (simp only [List.length_drop, List.length_take]; rfl)) ?_; (with_reducible refine (strings_IndexAny.calls s0_0 (⟨#[47, 92]⟩ : ByteArray) t289 _ ?side1 A2.out).mono ?_); (case side1 => first | exact HE.out | exact EnvOk.below HE.out (by repeat (first | (with_reducible first | exact HB.out | apply below_alloc | apply pw_below_drewN | apply below_drew1 | refine below_set ?_ (IsS53.ge HI0.out)) | exact HB.out))); rintro e w39 ⟨rfl, hb⟩; refine ⟨_, rfl, ?_⟩; have n0_ := Aside0.mk (IsS53.below (by repeat (first | (with_reducible first | exact HI0.out | apply IsS53.alloc | apply IsS53.drewN | apply IsS53.drew | apply IsS53.set_0 | apply IsS53.set_1 | apply IsS53.set_2 | apply IsS53.set_3 | apply IsS53.set_4 | apply IsS53.set_5 | apply IsS53.set_6 | apply IsS53.set_7 | apply IsS53.set_8) | exact HI0.out)) hb); have n1_ := Aside0.mk (KeepBut.trans (by repeat (first | (with_reducible first | exact HK.out | apply KeepBut.set_ | apply keep_drewN | apply keep_drew | apply keep_alloc) | exact HK.out)) (KeepBut.of_below hb g none) (.inl rfl)); have n2_ := Aside0.mk (below_step (by repeat (first | (with_reducible first | exact HB.out | apply below_alloc | apply pw_below_drewN | apply below_drew1 | refine below_set ?_ (IsS53.ge HI0.out)) | exact HB.out)) hb); clear HI0; clear HK; clear HB; have HI0 := n0_; have HK := n1_; have HB := n2_; clear n0_ n1_ n2_; (try clear hb); (try clear hb2); (try clear hk); (try clear hi); obtain ⟨HGz40, hgz40⟩ := HI0.out; have hcz40_0 := cellS53_0 HGz40; have hcz40_1 := cellS53_1 HGz40; have hcz40_2 := cellS53_2 HGz40; have hcz40_3 := cellS53_3 HGz40; have hcz40_4 := cellS53_4 HGz40; have hcz40_5 := cellS53_5 HGz40; have hcz40_6 := cellS53_6 HGz40; have hcz40_7 := cellS53_7 HGz40; have hcz40_8 := cellS53_8 HGz40; have hfz40_0 := blk_frozen HGz40 0; have hfz40_1 := blk_frozen HGz40 1; have hfz40_2 := blk_frozen HGz40 2; have hfz40_3 := blk_frozen HGz40 3; have hfz40_4 := blk_frozen HGz40 4; have hfz40_5 := blk_frozen HGz40 5; have hfz40_6 := blk_frozen HGz40 6; have hfz40_7 := blk_frozen HGz40 7; have hfz40_8 := blk_frozen HGz40 8; clear HGz40 hgz40) | ((with_reducible refine gate_callee (f := 81) rfl ?_); refine goesL_ (some 23) rfl rfl Tryz.func81 (by kernel_rfl) rfl #[.string s0_0, .string (⟨#[47, 92]⟩ : ByteArray)] rfl (by (try simp only [List.map_toArray, List.map_cons, List.map_nil]); first | done | rfl | (simp only [List.length_drop, List.length_take]; rfl)) ?_; (with_reducible refine (strings_TrimLeft.calls s0_0 (⟨#[47, 92]⟩ : ByteArray) t290 _ ?side1 A4.out).mono ?_); (case side1 => first | exact HE.out | exact EnvOk.below HE.out (by repeat (first | (with_reducible first | exact HB.out | apply below_alloc | apply pw_below_drewN | apply below_drew1 | refine below_set ?_ (IsS53.ge HI0.out)) | exact HB.out))); rintro e w41 ⟨rfl, hb⟩; refine ⟨_, rfl, ?_⟩; have n0_ := Aside0.mk (IsS53.below (by repeat (first | (with_reducible first | exact HI0.out | apply IsS53.alloc | apply IsS53.drewN | apply IsS53.drew | apply IsS53.set_0 | apply IsS53.set_1 | apply IsS53.set_2 | apply IsS53.set_3 | apply IsS53.set_4 | apply IsS53.set_5 | apply IsS53.set_6 | apply IsS53.set_7 | apply IsS53.set_8) | exact HI0.out)) hb); have n1_ := Aside0.mk (KeepBut.trans (by repeat (first | (with_reducible first | exact HK.out | apply KeepBut.set_ | apply keep_drewN | apply keep_drew | apply keep_alloc) | exact HK.out)) (KeepBut.of_below hb g none) (.inl rfl)); have n2_ := Aside0.mk (below_step (by repeat (first | (with_reducible first | exact HB.out | apply below_alloc | apply pw_below_drewN | apply below_drew1 | refine below_set ?_ (IsS53.ge HI0.out)) | exact HB.out)) hb); clear HI0; clear HK; clear HB; have HI0 := n0_; have HK := n1_; have HB := n2_; clear n0_ n1_ n2_; (try clear hb); (try clear hb2); (try clear hk); (try clear hi); obtain ⟨HGz42, hgz42⟩ := HI0.out; have hcz42_0 := cellS53_0 HGz42; have hcz42_1 := cellS53_1 HGz42; have hcz42_2 := cellS53_2 HGz42; have hcz42_3 := cellS53_3 HGz42; have hcz42_4 := cellS53_4 HGz42; have hcz42_5 := cellS53_5 HGz42; have hcz42_6 := cellS53_6 HGz42; have hcz42_7 := cellS53_7 HGz42; have hcz42_8 := cellS53_8 HGz42; have hfz42_0 := blk_frozen HGz42 0; have hfz42_1 := blk_frozen HGz42 1; have hfz42_2 := blk_frozen HGz42 2; have hfz42_3 := blk_frozen HGz42 3; have hfz42_4 := blk_frozen HGz42 4; have hfz42_5 := blk_frozen HGz42 5; have hfz42_6 := blk_frozen HGz42 6; have hfz42_7 := blk_frozen HGz42 7; have hfz42_8 := blk_frozen HGz42 8; clear HGz42 hgz42) | ((with_reducible refine gate_callee (f := 82) rfl ?_); refine goesL_ (some 30) rfl rfl Tryz.func82 (by kernel_rfl) rfl #[.pointer (some ⟨g, 0, none⟩), .string (⟨#[47, 92, 63, 35]⟩ : ByteArray)] rfl (by (try simp only [List.map_toArray, List.map_cons, List.map_nil]); first | done | rfl | (simp only [List.length_drop, List.length_take]; rfl)) ?_; (with_reducible refine (url_rest_take.calls g t290 s0_1 s0_2 s0_3 s0_4 s0_5 s0_6 s0_7 s0_8 (⟨#[47, 92, 63, 35]⟩ : ByteArray) t291 t292 t293 t294 t295 t296 t297 t298 t299 t300 w0 _ ?side1 ?side2 ?side3 A5.out).mono ?_); (case side1 => exact HE.out); (case side2 => repeat (first | (with_reducible first | exact HI0.out | apply IsS53.alloc | apply IsS53.drewN | apply IsS53.drew | apply IsS53.set_0 | apply IsS53.set_1 | apply IsS53.set_2 | apply IsS53.set_3 | apply IsS53.set_4 | apply IsS53.set_5 | apply IsS53.set_6 | apply IsS53.set_7 | apply IsS53.set_8) | exact HI0.out)); (case side3 => repeat (first | (with_reducible first | exact HB.out | apply below_alloc | apply pw_below_drewN | apply below_drew1 | refine below_set ?_ (IsS53.ge HI0.out)) | exact HB.out)); rintro e w43 ⟨rfl, hi, hb, hk⟩; refine ⟨_, rfl, ?_⟩; have n0_ := Aside0.mk (KeepBut.trans (by repeat (first | (with_reducible first | exact HK.out | apply KeepBut.set_ | apply keep_drewN | apply keep_drew | apply keep_alloc) | exact HK.out)) hk (.inl rfl)); have n1_ := Aside0.mk (hb); have n2_ := Aside0.mk (hi); clear HK; clear HB; clear HI0; have HK := n0_; have HB := n1_; have HI0 := n2_; clear n0_ n1_ n2_; (try clear hb); (try clear hb2); (try clear hk); (try clear hi)) | ((with_reducible refine gate_callee (f := 79) rfl ?_); refine goesL_ (some 32) rfl rfl Tryz.func79 (by kernel_rfl) rfl #[.string t291, .int .u8 64] rfl (by (try simp only [List.map_toArray, List.map_cons, List.map_nil]); first | done | rfl | (simp only [List.length_drop, List.length_take]; rfl)) ?_; (with_reducible refine (strings_IndexByte.calls t291 64 t301 _ ?side1 A6.out).mono ?_); (case side1 => first | exact HE.out | exact EnvOk.below HE.out (by repeat (first | (with_reducible first | exact HB.out | apply below_alloc | apply pw_below_drewN | apply below_drew1 | refine below_set ?_ (IsS53.ge HI0.out)) | exact HB.out))); rintro e w' ⟨rfl, ⟨nd, rfl⟩⟩; refine ⟨_, rfl, ?_⟩; (try (rw [drewN_self w43]; generalize hq_ : World.drewN w43 _ = w43; have n0_ : Aside0 (IsS53 w0 w43 g t292 t293 t294 t295 t296 t297 t298 t299 t300) := ⟨by rw [← hq_]; exact (by repeat (first | (with_reducible first | exact HI0.out | apply IsS53.alloc | apply IsS53.drewN | apply IsS53.drew | apply IsS53.set_0 | apply IsS53.set_1 | apply IsS53.set_2 | apply IsS53.set_3 | apply IsS53.set_4 | apply IsS53.set_5 | apply IsS53.set_6 | apply IsS53.set_7 | apply IsS53.set_8) | exact HI0.out))⟩; have n1_ : Aside0 (KeepBut w w43 g none) := ⟨by rw [← hq_]; exact (by repeat (first | (with_reducible first | exact HK.out | apply KeepBut.set_ | apply keep_drewN | apply keep_drew | apply keep_alloc) | exact HK.out))⟩; have n2_ : Aside0 (Below w0.heap.size w0 w43) := ⟨by rw [← hq_]; exact (by repeat (first | (with_reducible first | exact HB.out | apply below_alloc | apply pw_below_drewN | apply below_drew1 | refine below_set ?_ (IsS53.ge HI0.out)) | exact HB.out))⟩; clear HI0 HK HB hq_; have HI0 := n0_; have HK := n1_; have HB := n2_; clear n0_ n1_ n2_))) | ((with_reducible refine gate_callee (f := 76) rfl ?_); refine goesL_ (some 36) rfl rfl Tryz.func76 (by kernel_rfl) rfl #[.string t291, .string (⟨#[58]⟩ : ByteArray)] rfl (by (try simp only [List.map_toArray, List.map_cons, List.map_nil]); first | done | rfl | (simp only [List.length_drop, List.length_take]; rfl)) ?_; (with_reducible refine (strings_Cut.calls t291 (⟨#[58]⟩ : ByteArray) t302 t303 t304 _ ?side1 A14.out).mono ?_); (case side1 => first | exact HE.out | exact EnvOk.below HE.out (by repeat (first | (with_reducible first | exact HB.out | apply below_alloc | apply pw_below_drewN | apply below_drew1 | refine below_set ?_ (IsS53.ge HI0.out)) | exact HB.out))); rintro e w' ⟨rfl, ⟨nd, rfl⟩⟩; refine ⟨_, rfl, ?_⟩; (try (rw [drewN_self w43]; generalize hq_ : World.drewN w43 _ = w43; have n0_ : Aside0 (IsS53 w0 w43 g t292 t293 t294 t295 t296 t297 t298 t299 t300) := ⟨by rw [← hq_]; exact (by repeat (first | (with_reducible first | exact HI0.out | apply IsS53.alloc | apply IsS53.drewN | apply IsS53.drew | apply IsS53.set_0 | apply IsS53.set_1 | apply IsS53.set_2 | apply IsS53.set_3 | apply IsS53.set_4 | apply IsS53.set_5 | apply IsS53.set_6 | apply IsS53.set_7 | apply IsS53.set_8) | exact HI0.out))⟩; have n1_ : Aside0 (KeepBut w w43 g none) := ⟨by rw [← hq_]; exact (by repeat (first | (with_reducible first | exact HK.out | apply KeepBut.set_ | apply keep_drewN | apply keep_drew | apply keep_alloc) | exact HK.out))⟩; have n2_ : Aside0 (Below w0.heap.size w0 w43) := ⟨by rw [← hq_]; exact (by repeat (first | (with_reducible first | exact HB.out | apply below_alloc | apply pw_below_drewN | apply below_drew1 | refine below_set ?_ (IsS53.ge HI0.out)) | exact HB.out))⟩; clear HI0 HK HB hq_; have HI0 := n0_; have HK := n1_; have HB := n2_; clear n0_ n1_ n2_))) | ((with_reducible refine gate_callee (f := 19) rfl ?_); refine goesL_ (some 42) rfl rfl Tryz.func19 (by kernel_rfl) rfl #[.string t302] rfl (by (try simp only [List.map_toArray, List.map_cons, List.map_nil]); first | done | rfl | (simp only [List.length_drop, List.length_take]; rfl)) ?_; (with_reducible refine (url_Host.calls k t302 t305 t306 _ ?side1 A15.out).mono ?_); (case side1 => first | exact HE.out | exact EnvOk.below HE.out (by repeat (first | (with_reducible first | exact HB.out | apply below_alloc | apply pw_below_drewN | apply below_drew1 | refine below_set ?_ (IsS53.ge HI0.out)) | exact HB.out))); rintro e w44 ⟨rfl, hb⟩; refine ⟨_, rfl, ?_⟩; have n0_ := Aside0.mk (IsS53.below (by repeat (first | (with_reducible first | exact HI0.out | apply IsS53.alloc | apply IsS53.drewN | apply IsS53.drew | apply IsS53.set_0 | apply IsS53.set_1 | apply IsS53.set_2 | apply IsS53.set_3 | apply IsS53.set_4 | apply IsS53.set_5 | apply IsS53.set_6 | apply IsS53.set_7 | apply IsS53.set_8) | exact HI0.out)) hb); have n1_ := Aside0.mk (KeepBut.trans (by repeat (first | (with_reducible first | exact HK.out | apply KeepBut.set_ | apply keep_drewN | apply keep_drew | apply keep_alloc) | exact HK.out)) (KeepBut.of_below hb g none) (.inl rfl)); have n2_ := Aside0.mk (below_step (by repeat (first | (with_reducible first | exact HB.out | apply below_alloc | apply pw_below_drewN | apply below_drew1 | refine below_set ?_ (IsS53.ge HI0.out)) | exact HB.out)) hb); clear HI0; clear HK; clear HB; have HI0 := n0_; have HK := n1_; have HB := n2_; clear n0_ n1_ n2_; (try clear hb); (try clear hb2); (try clear hk); (try clear hi); obtain ⟨HGz45, hgz45⟩ := HI0.out; have hcz45_0 := cellS53_0 HGz45; have hcz45_1 := cellS53_1 HGz45; have hcz45_2 := cellS53_2 HGz45; have hcz45_3 := cellS53_3 HGz45; have hcz45_4 := cellS53_4 HGz45; have hcz45_5 := cellS53_5 HGz45; have hcz45_6 := cellS53_6 HGz45; have hcz45_7 := cellS53_7 HGz45; have hcz45_8 := cellS53_8 HGz45; have hfz45_0 := blk_frozen HGz45 0; have hfz45_1 := blk_frozen HGz45 1; have hfz45_2 := blk_frozen HGz45 2; have hfz45_3 := blk_frozen HGz45 3; have hfz45_4 := blk_frozen HGz45 4; have hfz45_5 := blk_frozen HGz45 5; have hfz45_6 := blk_frozen HGz45 6; have hfz45_7 := blk_frozen HGz45 7; have hfz45_8 := blk_frozen HGz45 8; clear HGz45 hgz45) | ((with_reducible refine gate_callee (f := 83) rfl ?_); refine goesL_ (some 57) rfl rfl Tryz.func83 (by kernel_rfl) rfl #[.string t303, .int .i64 65535] rfl (by (try simp only [List.map_toArray, List.map_cons, List.map_nil]); first | done | rfl | (simp only [List.length_drop, List.length_take]; rfl)) ?_; (with_reducible refine (ascii_Number.calls k t303 65535 t307 t308 _ ?side1 A26.out).mono ?_); (case side1 => first | exact HE.out | exact EnvOk.below HE.out (by repeat (first | (with_reducible first | exact HB.out | apply below_alloc | apply pw_below_drewN | apply below_drew1 | refine below_set ?_ (IsS53.ge HI0.out)) | exact HB.out))); rintro e w' ⟨rfl, ⟨nd, rfl⟩⟩; refine ⟨_, rfl, ?_⟩) | ((with_reducible refine gate_callee (f := 84) rfl ?_); refine goesL_ (some 68) rfl rfl Tryz.func84 (by kernel_rfl) rfl #[.string t293] rfl (by (try simp only [List.map_toArray, List.map_cons, List.map_nil]); first | done | rfl | (simp only [List.length_drop, List.length_take]; rfl)) ?_; (with_reducible refine (url_own.calls t293 t309 _ ?side1 A28.out).mono ?_); (case side1 => first | exact HE.out | exact EnvOk.below HE.out (by repeat (first | (with_reducible first | exact HB.out | apply below_alloc | apply pw_below_drewN | apply below_drew1 | refine below_set ?_ (IsS53.ge HI0.out)) | exact HB.out))); rintro e w' ⟨rfl, ⟨nd, rfl⟩⟩; refine ⟨_, rfl, ?_⟩))
       go_ret
       exact ⟨by first | rfl | (simp [errW_none, errW_some] <;> rfl) | (simp [*, errW_none, errW_some] <;> rfl), by repeat (first | (with_reducible first | exact HI0.out | apply IsS53.alloc | apply IsS53.drewN | apply IsS53.drew | apply IsS53.set_0 | apply IsS53.set_1 | apply IsS53.set_2 | apply IsS53.set_3 | apply IsS53.set_4 | apply IsS53.set_5 | apply IsS53.set_6 | apply IsS53.set_7 | apply IsS53.set_8) | exact HI0.out), by repeat (first | (with_reducible first | exact HB.out | apply below_alloc | apply pw_below_drewN | apply below_drew1 | refine below_set ?_ (IsS53.ge HI0.out)) | exact HB.out), by repeat (first | (with_reducible first | exact HK.out | apply KeepBut.set_ | apply keep_drewN | apply keep_drew | apply keep_alloc) | exact HK.out)⟩
     ·rw [if_neg c27] at H
      have c27b0 : (t308 == 0) = false := beq_eq_false_iff_ne.mpr c27
      have c27b1 : (t308 != 0) = true := bne_iff_ne.mpr c27
      simp only [Option.some.injEq, Prod.mk.injEq] at H
      obtain ⟨rfl, rfl, rfl, rfl, rfl, rfl, rfl, rfl, rfl, rfl⟩ := H
      obtain ⟨HGz46, hgz46⟩ := HI0.out
      have hcz46_0 := cellS53_0 HGz46
      have hcz46_1 := cellS53_1 HGz46
      have hcz46_2 := cellS53_2 HGz46
      have hcz46_3 := cellS53_3 HGz46
      have hcz46_4 := cellS53_4 HGz46
      have hcz46_5 := cellS53_5 HGz46
      have hcz46_6 := cellS53_6 HGz46
      have hcz46_7 := cellS53_7 HGz46
      have hcz46_8 := cellS53_8 HGz46
      have hfz46_0 := blk_frozen HGz46 0
      have hfz46_1 := blk_frozen HGz46 1
      have hfz46_2 := blk_frozen HGz46 2
      have hfz46_3 := blk_frozen HGz46 3
      have hfz46_4 := blk_frozen HGz46 4
      have hfz46_5 := blk_frozen HGz46 5
      have hfz46_6 := blk_frozen HGz46 6
      have hfz46_7 := blk_frozen HGz46 7
      have hfz46_8 := blk_frozen HGz46 8
      clear HGz46 hgz46
      go_enter Tryz.func44, Tryz.ntmps44
      go_wp2_with (first | ((with_reducible refine gate_callee (f := 80) rfl ?_); refine goesL_ (some 15) rfl rfl Tryz.func80 (by kernel_rfl) rfl #[.string s0_0, .string (⟨#[47, 92]⟩ : ByteArray)] rfl (by (try simp only [List.map_toArray, List.map_cons, List.map_nil]); first | done | rfl | (simp only [List.length_drop, List.length_take]; rfl)) ?_; (with_reducible refine (strings_IndexAny.calls s0_0 (⟨#[47, 92]⟩ : ByteArray) t289 _ ?side1 A2.out).mono ?_); (case side1 => first | exact HE.out | exact EnvOk.below HE.out (by repeat (first | (with_reducible first | exact HB.out | apply below_alloc | apply pw_below_drewN | apply below_drew1 | refine below_set ?_ (IsS53.ge HI0.out)) | exact HB.out))); rintro e w47 ⟨rfl, hb⟩; refine ⟨_, rfl, ?_⟩; have n0_ := Aside0.mk (IsS53.below (by repeat (first | (with_reducible first | exact HI0.out | apply IsS53.alloc | apply IsS53.drewN | apply IsS53.drew | apply IsS53.set_0 | apply IsS53.set_1 | apply IsS53.set_2 | apply IsS53.set_3 | apply IsS53.set_4 | apply IsS53.set_5 | apply IsS53.set_6 | apply IsS53.set_7 | apply IsS53.set_8) | exact HI0.out)) hb); have n1_ := Aside0.mk (KeepBut.trans (by repeat (first | (with_reducible first | exact HK.out | apply KeepBut.set_ | apply keep_drewN | apply keep_drew | apply keep_alloc) | exact HK.out)) (KeepBut.of_below hb g none) (.inl rfl)); have n2_ := Aside0.mk (below_step (by repeat (first | (with_reducible first | exact HB.out | apply below_alloc | apply pw_below_drewN | apply below_drew1 | refine below_set ?_ (IsS53.ge HI0.out)) | exact HB.out)) hb); clear HI0; clear HK; clear HB; have HI0 := n0_; have HK := n1_; have HB := n2_; clear n0_ n1_ n2_; (try clear hb); (try clear hb2); (try clear hk); (try clear hi); obtain ⟨HGz48, hgz48⟩ := HI0.out; have hcz48_0 := cellS53_0 HGz48; have hcz48_1 := cellS53_1 HGz48; have hcz48_2 := cellS53_2 HGz48; have hcz48_3 := cellS53_3 HGz48; have hcz48_4 := cellS53_4 HGz48; have hcz48_5 := cellS53_5 HGz48; have hcz48_6 := cellS53_6 HGz48; have hcz48_7 := cellS53_7 HGz48; have hcz48_8 := cellS53_8 HGz48; have hfz48_0 := blk_frozen HGz48 0; have hfz48_1 := blk_frozen HGz48 1; have hfz48_2 := blk_frozen HGz48 2; have hfz48_3 := blk_frozen HGz48 3; have hfz48_4 := blk_frozen HGz48 4; have hfz48_5 := blk_frozen HGz48 5; have hfz48_6 := blk_frozen HGz48 6; have hfz48_7 := blk_frozen HGz48 7; have hfz48_8 := blk_frozen HGz48 8; clear HGz48 hgz48) | ((with_reducible refine gate_callee (f := 81) rfl ?_); refine goesL_ (some 23) rfl rfl Tryz.func81 (by kernel_rfl) rfl #[.string s0_0, .string (⟨#[47, 92]⟩ : ByteArray)] rfl (by (try simp only [List.map_toArray, List.map_cons, List.map_nil]); first | done | rfl | (simp only [List.length_drop, List.length_take]; rfl)) ?_; (with_reducible refine (strings_TrimLeft.calls s0_0 (⟨#[47, 92]⟩ : ByteArray) t290 _ ?side1 A4.out).mono ?_); (case side1 => first | exact HE.out | exact EnvOk.below HE.out (by repeat (first | (with_reducible first | exact HB.out | apply below_alloc | apply pw_below_drewN | apply below_drew1 | refine below_set ?_ (IsS53.ge HI0.out)) | exact HB.out))); rintro e w49 ⟨rfl, hb⟩; refine ⟨_, rfl, ?_⟩; have n0_ := Aside0.mk (IsS53.below (by repeat (first | (with_reducible first | exact HI0.out | apply IsS53.alloc | apply IsS53.drewN | apply IsS53.drew | apply IsS53.set_0 | apply IsS53.set_1 | apply IsS53.set_2 | apply IsS53.set_3 | apply IsS53.set_4 | apply IsS53.set_5 | apply IsS53.set_6 | apply IsS53.set_7 | apply IsS53.set_8) | exact HI0.out)) hb); have n1_ := Aside0.mk (KeepBut.trans (by repeat (first | (with_reducible first | exact HK.out | apply KeepBut.set_ | apply keep_drewN | apply keep_drew | apply keep_alloc) | exact HK.out)) (KeepBut.of_below hb g none) (.inl rfl)); have n2_ := Aside0.mk (below_step (by repeat (first | (with_reducible first | exact HB.out | apply below_alloc | apply pw_below_drewN | apply below_drew1 | refine below_set ?_ (IsS53.ge HI0.out)) | exact HB.out)) hb); clear HI0; clear HK; clear HB; have HI0 := n0_; have HK := n1_; have HB := n2_; clear n0_ n1_ n2_; (try clear hb); (try clear hb2); (try clear hk); (try clear hi); obtain ⟨HGz50, hgz50⟩ := HI0.out; have hcz50_0 := cellS53_0 HGz50; have hcz50_1 := cellS53_1 HGz50; have hcz50_2 := cellS53_2 HGz50; have hcz50_3 := cellS53_3 HGz50; have hcz50_4 := cellS53_4 HGz50; have hcz50_5 := cellS53_5 HGz50; have hcz50_6 := cellS53_6 HGz50; have hcz50_7 := cellS53_7 HGz50; have hcz50_8 := cellS53_8 HGz50; have hfz50_0 := blk_frozen HGz50 0; have hfz50_1 := blk_frozen HGz50 1; have hfz50_2 := blk_frozen HGz50 2; have hfz50_3 := blk_frozen HGz50 3; have hfz50_4 := blk_frozen HGz50 4; have hfz50_5 := blk_frozen HGz50 5; have hfz50_6 := blk_frozen HGz50 6; have hfz50_7 := blk_frozen HGz50 7; have hfz50_8 := blk_frozen HGz50 8; clear HGz50 hgz50) | ((with_reducible refine gate_callee (f := 82) rfl ?_); refine goesL_ (some 30) rfl rfl Tryz.func82 (by kernel_rfl) rfl #[.pointer (some ⟨g, 0, none⟩), .string (⟨#[47, 92, 63, 35]⟩ : ByteArray)] rfl (by (try simp only [List.map_toArray, List.map_cons, List.map_nil]); first | done | rfl | (simp only [List.length_drop, List.length_take]; rfl)) ?_; (with_reducible refine (url_rest_take.calls g t290 s0_1 s0_2 s0_3 s0_4 s0_5 s0_6 s0_7 s0_8 (⟨#[47, 92, 63, 35]⟩ : ByteArray) t291 t292 t293 t294 t295 t296 t297 t298 t299 t300 w0 _ ?side1 ?side2 ?side3 A5.out).mono ?_); (case side1 => exact HE.out); (case side2 => repeat (first | (with_reducible first | exact HI0.out | apply IsS53.alloc | apply IsS53.drewN | apply IsS53.drew | apply IsS53.set_0 | apply IsS53.set_1 | apply IsS53.set_2 | apply IsS53.set_3 | apply IsS53.set_4 | apply IsS53.set_5 | apply IsS53.set_6 | apply IsS53.set_7 | apply IsS53.set_8) | exact HI0.out)); (case side3 => repeat (first | (with_reducible first | exact HB.out | apply below_alloc | apply pw_below_drewN | apply below_drew1 | refine below_set ?_ (IsS53.ge HI0.out)) | exact HB.out)); rintro e w51 ⟨rfl, hi, hb, hk⟩; refine ⟨_, rfl, ?_⟩; have n0_ := Aside0.mk (KeepBut.trans (by repeat (first | (with_reducible first | exact HK.out | apply KeepBut.set_ | apply keep_drewN | apply keep_drew | apply keep_alloc) | exact HK.out)) hk (.inl rfl)); have n1_ := Aside0.mk (hb); have n2_ := Aside0.mk (hi); clear HK; clear HB; clear HI0; have HK := n0_; have HB := n1_; have HI0 := n2_; clear n0_ n1_ n2_; (try clear hb); (try clear hb2); (try clear hk); (try clear hi)) | ((with_reducible refine gate_callee (f := 79) rfl ?_); refine goesL_ (some 32) rfl rfl Tryz.func79 (by kernel_rfl) rfl #[.string t291, .int .u8 64] rfl (by (try simp only [List.map_toArray, List.map_cons, List.map_nil]); first | done | rfl | (simp only [List.length_drop, List.length_take]; rfl)) ?_; (with_reducible refine (strings_IndexByte.calls t291 64 t301 _ ?side1 A6.out).mono ?_); (case side1 => first | exact HE.out | exact EnvOk.below HE.out (by repeat (first | (with_reducible first | exact HB.out | apply below_alloc | apply pw_below_drewN | apply below_drew1 | refine below_set ?_ (IsS53.ge HI0.out)) | exact HB.out))); rintro e w' ⟨rfl, ⟨nd, rfl⟩⟩; refine ⟨_, rfl, ?_⟩; (try (rw [drewN_self w51]; generalize hq_ : World.drewN w51 _ = w51; have n0_ : Aside0 (IsS53 w0 w51 g t292 t293 t294 t295 t296 t297 t298 t299 t300) := ⟨by rw [← hq_]; exact (by repeat (first | (with_reducible first | exact HI0.out | apply IsS53.alloc | apply IsS53.drewN | apply IsS53.drew | apply IsS53.set_0 | apply IsS53.set_1 | apply IsS53.set_2 | apply IsS53.set_3 | apply IsS53.set_4 | apply IsS53.set_5 | apply IsS53.set_6 | apply IsS53.set_7 | apply IsS53.set_8) | exact HI0.out))⟩; have n1_ : Aside0 (KeepBut w w51 g none) := ⟨by rw [← hq_]; exact (by repeat (first | (with_reducible first | exact HK.out | apply KeepBut.set_ | apply keep_drewN | apply keep_drew | apply keep_alloc) | exact HK.out))⟩; have n2_ : Aside0 (Below w0.heap.size w0 w51) := ⟨by rw [← hq_]; exact (by repeat (first | (with_reducible first | exact HB.out | apply below_alloc | apply pw_below_drewN | apply below_drew1 | refine below_set ?_ (IsS53.ge HI0.out)) | exact HB.out))⟩; clear HI0 HK HB hq_; have HI0 := n0_; have HK := n1_; have HB := n2_; clear n0_ n1_ n2_))) | ((with_reducible refine gate_callee (f := 76) rfl ?_); refine goesL_ (some 36) rfl rfl Tryz.func76 (by kernel_rfl) rfl #[.string t291, .string (⟨#[58]⟩ : ByteArray)] rfl (by (try simp only [List.map_toArray, List.map_cons, List.map_nil]); first | done | rfl | (simp only [List.length_drop, List.length_take]; rfl)) ?_; (with_reducible refine (strings_Cut.calls t291 (⟨#[58]⟩ : ByteArray) t302 t303 t304 _ ?side1 A14.out).mono ?_); (case side1 => first | exact HE.out | exact EnvOk.below HE.out (by repeat (first | (with_reducible first | exact HB.out | apply below_alloc | apply pw_below_drewN | apply below_drew1 | refine below_set ?_ (IsS53.ge HI0.out)) | exact HB.out))); rintro e w' ⟨rfl, ⟨nd, rfl⟩⟩; refine ⟨_, rfl, ?_⟩; (try (rw [drewN_self w51]; generalize hq_ : World.drewN w51 _ = w51; have n0_ : Aside0 (IsS53 w0 w51 g t292 t293 t294 t295 t296 t297 t298 t299 t300) := ⟨by rw [← hq_]; exact (by repeat (first | (with_reducible first | exact HI0.out | apply IsS53.alloc | apply IsS53.drewN | apply IsS53.drew | apply IsS53.set_0 | apply IsS53.set_1 | apply IsS53.set_2 | apply IsS53.set_3 | apply IsS53.set_4 | apply IsS53.set_5 | apply IsS53.set_6 | apply IsS53.set_7 | apply IsS53.set_8) | exact HI0.out))⟩; have n1_ : Aside0 (KeepBut w w51 g none) := ⟨by rw [← hq_]; exact (by repeat (first | (with_reducible first | exact HK.out | apply KeepBut.set_ | apply keep_drewN | apply keep_drew | apply keep_alloc) | exact HK.out))⟩; have n2_ : Aside0 (Below w0.heap.size w0 w51) := ⟨by rw [← hq_]; exact (by repeat (first | (with_reducible first | exact HB.out | apply below_alloc | apply pw_below_drewN | apply below_drew1 | refine below_set ?_ (IsS53.ge HI0.out)) | exact HB.out))⟩; clear HI0 HK HB hq_; have HI0 := n0_; have HK := n1_; have HB := n2_; clear n0_ n1_ n2_))) | ((with_reducible refine gate_callee (f := 19) rfl ?_); refine goesL_ (some 42) rfl rfl Tryz.func19 (by kernel_rfl) rfl #[.string t302] rfl (by (try simp only [List.map_toArray, List.map_cons, List.map_nil]); first | done | rfl | (simp only [List.length_drop, List.length_take]; rfl)) ?_; (with_reducible refine (url_Host.calls k t302 t305 t306 _ ?side1 A15.out).mono ?_); (case side1 => first | exact HE.out | exact EnvOk.below HE.out (by repeat (first | (with_reducible first | exact HB.out | apply below_alloc | apply pw_below_drewN | apply below_drew1 | refine below_set ?_ (IsS53.ge HI0.out)) | exact HB.out))); rintro e w52 ⟨rfl, hb⟩; refine ⟨_, rfl, ?_⟩; have n0_ := Aside0.mk (IsS53.below (by repeat (first | (with_reducible first | exact HI0.out | apply IsS53.alloc | apply IsS53.drewN | apply IsS53.drew | apply IsS53.set_0 | apply IsS53.set_1 | apply IsS53.set_2 | apply IsS53.set_3 | apply IsS53.set_4 | apply IsS53.set_5 | apply IsS53.set_6 | apply IsS53.set_7 | apply IsS53.set_8) | exact HI0.out)) hb); have n1_ := Aside0.mk (KeepBut.trans (by repeat (first | (with_reducible first | exact HK.out | apply KeepBut.set_ | apply keep_drewN | apply keep_drew | apply keep_alloc) | exact HK.out)) (KeepBut.of_below hb g none) (.inl rfl)); have n2_ := Aside0.mk (below_step (by repeat (first | (with_reducible first | exact HB.out | apply below_alloc | apply pw_below_drewN | apply below_drew1 | refine below_set ?_ (IsS53.ge HI0.out)) | exact HB.out)) hb); clear HI0; clear HK; clear HB; have HI0 := n0_; have HK := n1_; have HB := n2_; clear n0_ n1_ n2_; (try clear hb); (try clear hb2); (try clear hk); (try clear hi); obtain ⟨HGz53, hgz53⟩ := HI0.out; have hcz53_0 := cellS53_0 HGz53; have hcz53_1 := cellS53_1 HGz53; have hcz53_2 := cellS53_2 HGz53; have hcz53_3 := cellS53_3 HGz53; have hcz53_4 := cellS53_4 HGz53; have hcz53_5 := cellS53_5 HGz53; have hcz53_6 := cellS53_6 HGz53; have hcz53_7 := cellS53_7 HGz53; have hcz53_8 := cellS53_8 HGz53; have hfz53_0 := blk_frozen HGz53 0; have hfz53_1 := blk_frozen HGz53 1; have hfz53_2 := blk_frozen HGz53 2; have hfz53_3 := blk_frozen HGz53 3; have hfz53_4 := blk_frozen HGz53 4; have hfz53_5 := blk_frozen HGz53 5; have hfz53_6 := blk_frozen HGz53 6; have hfz53_7 := blk_frozen HGz53 7; have hfz53_8 := blk_frozen HGz53 8; clear HGz53 hgz53) | ((with_reducible refine gate_callee (f := 83) rfl ?_); refine goesL_ (some 57) rfl rfl Tryz.func83 (by kernel_rfl) rfl #[.string t303, .int .i64 65535] rfl (by (try simp only [List.map_toArray, List.map_cons, List.map_nil]); first | done | rfl | (simp only [List.length_drop, List.length_take]; rfl)) ?_; (with_reducible refine (ascii_Number.calls k t303 65535 t307 t308 _ ?side1 A26.out).mono ?_); (case side1 => first | exact HE.out | exact EnvOk.below HE.out (by repeat (first | (with_reducible first | exact HB.out | apply below_alloc | apply pw_below_drewN | apply below_drew1 | refine below_set ?_ (IsS53.ge HI0.out)) | exact HB.out))); rintro e w' ⟨rfl, ⟨nd, rfl⟩⟩; refine ⟨_, rfl, ?_⟩))
      go_ret
      exact ⟨by first | rfl | (simp [errW_none, errW_some] <;> rfl) | (simp [*, errW_none, errW_some] <;> rfl), by repeat (first | (with_reducible first | exact HI0.out | apply IsS53.alloc | apply IsS53.drewN | apply IsS53.drew | apply IsS53.set_0 | apply IsS53.set_1 | apply IsS53.set_2 | apply IsS53.set_3 | apply IsS53.set_4 | apply IsS53.set_5 | apply IsS53.set_6 | apply IsS53.set_7 | apply IsS53.set_8) | exact HI0.out), by repeat (first | (with_reducible first | exact HB.out | apply below_alloc | apply pw_below_drewN | apply below_drew1 | refine below_set ?_ (IsS53.ge HI0.out)) | exact HB.out), by repeat (first | (with_reducible first | exact HK.out | apply KeepBut.set_ | apply keep_drewN | apply keep_drew | apply keep_alloc) | exact HK.out)⟩
   ·rw [if_neg c16] at H
    have c16b0 : (t306 == 0) = false := beq_eq_false_iff_ne.mpr c16
    have c16b1 : (t306 != 0) = true := bne_iff_ne.mpr c16
    simp only [Option.some.injEq, Prod.mk.injEq] at H
    obtain ⟨rfl, rfl, rfl, rfl, rfl, rfl, rfl, rfl, rfl, rfl⟩ := H
    obtain ⟨HGz54, hgz54⟩ := HI0.out
    have hcz54_0 := cellS53_0 HGz54
    have hcz54_1 := cellS53_1 HGz54
    have hcz54_2 := cellS53_2 HGz54
    have hcz54_3 := cellS53_3 HGz54
    have hcz54_4 := cellS53_4 HGz54
    have hcz54_5 := cellS53_5 HGz54
    have hcz54_6 := cellS53_6 HGz54
    have hcz54_7 := cellS53_7 HGz54
    have hcz54_8 := cellS53_8 HGz54
    have hfz54_0 := blk_frozen HGz54 0
    have hfz54_1 := blk_frozen HGz54 1
    have hfz54_2 := blk_frozen HGz54 2
    have hfz54_3 := blk_frozen HGz54 3
    have hfz54_4 := blk_frozen HGz54 4
    have hfz54_5 := blk_frozen HGz54 5
    have hfz54_6 := blk_frozen HGz54 6
    have hfz54_7 := blk_frozen HGz54 7
    have hfz54_8 := blk_frozen HGz54 8
    clear HGz54 hgz54
    go_enter Tryz.func44, Tryz.ntmps44
    go_wp2_with (first | ((with_reducible refine gate_callee (f := 80) rfl ?_); refine goesL_ (some 15) rfl rfl Tryz.func80 (by kernel_rfl) rfl #[.string s0_0, .string (⟨#[47, 92]⟩ : ByteArray)] rfl (by (try simp only [List.map_toArray, List.map_cons, List.map_nil]); first | done | rfl | (simp only [List.length_drop, List.length_take]; rfl)) ?_; (with_reducible refine (strings_IndexAny.calls s0_0 (⟨#[47, 92]⟩ : ByteArray) t289 _ ?side1 A2.out).mono ?_); (case side1 => first | exact HE.out | exact EnvOk.below HE.out (by repeat (first | (with_reducible first | exact HB.out | apply below_alloc | apply pw_below_drewN | apply below_drew1 | refine below_set ?_ (IsS53.ge HI0.out)) | exact HB.out))); rintro e w55 ⟨rfl, hb⟩; refine ⟨_, rfl, ?_⟩; have n0_ := Aside0.mk (IsS53.below (by repeat (first | (with_reducible first | exact HI0.out | apply IsS53.alloc | apply IsS53.drewN | apply IsS53.drew | apply IsS53.set_0 | apply IsS53.set_1 | apply IsS53.set_2 | apply IsS53.set_3 | apply IsS53.set_4 | apply IsS53.set_5 | apply IsS53.set_6 | apply IsS53.set_7 | apply IsS53.set_8) | exact HI0.out)) hb); have n1_ := Aside0.mk (KeepBut.trans (by repeat (first | (with_reducible first | exact HK.out | apply KeepBut.set_ | apply keep_drewN | apply keep_drew | apply keep_alloc) | exact HK.out)) (KeepBut.of_below hb g none) (.inl rfl)); have n2_ := Aside0.mk (below_step (by repeat (first | (with_reducible first | exact HB.out | apply below_alloc | apply pw_below_drewN | apply below_drew1 | refine below_set ?_ (IsS53.ge HI0.out)) | exact HB.out)) hb); clear HI0; clear HK; clear HB; have HI0 := n0_; have HK := n1_; have HB := n2_; clear n0_ n1_ n2_; (try clear hb); (try clear hb2); (try clear hk); (try clear hi); obtain ⟨HGz56, hgz56⟩ := HI0.out; have hcz56_0 := cellS53_0 HGz56; have hcz56_1 := cellS53_1 HGz56; have hcz56_2 := cellS53_2 HGz56; have hcz56_3 := cellS53_3 HGz56; have hcz56_4 := cellS53_4 HGz56; have hcz56_5 := cellS53_5 HGz56; have hcz56_6 := cellS53_6 HGz56; have hcz56_7 := cellS53_7 HGz56; have hcz56_8 := cellS53_8 HGz56; have hfz56_0 := blk_frozen HGz56 0; have hfz56_1 := blk_frozen HGz56 1; have hfz56_2 := blk_frozen HGz56 2; have hfz56_3 := blk_frozen HGz56 3; have hfz56_4 := blk_frozen HGz56 4; have hfz56_5 := blk_frozen HGz56 5; have hfz56_6 := blk_frozen HGz56 6; have hfz56_7 := blk_frozen HGz56 7; have hfz56_8 := blk_frozen HGz56 8; clear HGz56 hgz56) | ((with_reducible refine gate_callee (f := 81) rfl ?_); refine goesL_ (some 23) rfl rfl Tryz.func81 (by kernel_rfl) rfl #[.string s0_0, .string (⟨#[47, 92]⟩ : ByteArray)] rfl (by (try simp only [List.map_toArray, List.map_cons, List.map_nil]); first | done | rfl | (simp only [List.length_drop, List.length_take]; rfl)) ?_; (with_reducible refine (strings_TrimLeft.calls s0_0 (⟨#[47, 92]⟩ : ByteArray) t290 _ ?side1 A4.out).mono ?_); (case side1 => first | exact HE.out | exact EnvOk.below HE.out (by repeat (first | (with_reducible first | exact HB.out | apply below_alloc | apply pw_below_drewN | apply below_drew1 | refine below_set ?_ (IsS53.ge HI0.out)) | exact HB.out))); rintro e w57 ⟨rfl, hb⟩; refine ⟨_, rfl, ?_⟩; have n0_ := Aside0.mk (IsS53.below (by repeat (first | (with_reducible first | exact HI0.out | apply IsS53.alloc | apply IsS53.drewN | apply IsS53.drew | apply IsS53.set_0 | apply IsS53.set_1 | apply IsS53.set_2 | apply IsS53.set_3 | apply IsS53.set_4 | apply IsS53.set_5 | apply IsS53.set_6 | apply IsS53.set_7 | apply IsS53.set_8) | exact HI0.out)) hb); have n1_ := Aside0.mk (KeepBut.trans (by repeat (first | (with_reducible first | exact HK.out | apply KeepBut.set_ | apply keep_drewN | apply keep_drew | apply keep_alloc) | exact HK.out)) (KeepBut.of_below hb g none) (.inl rfl)); have n2_ := Aside0.mk (below_step (by repeat (first | (with_reducible first | exact HB.out | apply below_alloc | apply pw_below_drewN | apply below_drew1 | refine below_set ?_ (IsS53.ge HI0.out)) | exact HB.out)) hb); clear HI0; clear HK; clear HB; have HI0 := n0_; have HK := n1_; have HB := n2_; clear n0_ n1_ n2_; (try clear hb); (try clear hb2); (try clear hk); (try clear hi); obtain ⟨HGz58, hgz58⟩ := HI0.out; have hcz58_0 := cellS53_0 HGz58; have hcz58_1 := cellS53_1 HGz58; have hcz58_2 := cellS53_2 HGz58; have hcz58_3 := cellS53_3 HGz58; have hcz58_4 := cellS53_4 HGz58; have hcz58_5 := cellS53_5 HGz58; have hcz58_6 := cellS53_6 HGz58; have hcz58_7 := cellS53_7 HGz58; have hcz58_8 := cellS53_8 HGz58; have hfz58_0 := blk_frozen HGz58 0; have hfz58_1 := blk_frozen HGz58 1; have hfz58_2 := blk_frozen HGz58 2; have hfz58_3 := blk_frozen HGz58 3; have hfz58_4 := blk_frozen HGz58 4; have hfz58_5 := blk_frozen HGz58 5; have hfz58_6 := blk_frozen HGz58 6; have hfz58_7 := blk_frozen HGz58 7; have hfz58_8 := blk_frozen HGz58 8; clear HGz58 hgz58) | ((with_reducible refine gate_callee (f := 82) rfl ?_); refine goesL_ (some 30) rfl rfl Tryz.func82 (by kernel_rfl) rfl #[.pointer (some ⟨g, 0, none⟩), .string (⟨#[47, 92, 63, 35]⟩ : ByteArray)] rfl (by (try simp only [List.map_toArray, List.map_cons, List.map_nil]); first | done | rfl | (simp only [List.length_drop, List.length_take]; rfl)) ?_; (with_reducible refine (url_rest_take.calls g t290 s0_1 s0_2 s0_3 s0_4 s0_5 s0_6 s0_7 s0_8 (⟨#[47, 92, 63, 35]⟩ : ByteArray) t291 t292 t293 t294 t295 t296 t297 t298 t299 t300 w0 _ ?side1 ?side2 ?side3 A5.out).mono ?_); (case side1 => exact HE.out); (case side2 => repeat (first | (with_reducible first | exact HI0.out | apply IsS53.alloc | apply IsS53.drewN | apply IsS53.drew | apply IsS53.set_0 | apply IsS53.set_1 | apply IsS53.set_2 | apply IsS53.set_3 | apply IsS53.set_4 | apply IsS53.set_5 | apply IsS53.set_6 | apply IsS53.set_7 | apply IsS53.set_8) | exact HI0.out)); (case side3 => repeat (first | (with_reducible first | exact HB.out | apply below_alloc | apply pw_below_drewN | apply below_drew1 | refine below_set ?_ (IsS53.ge HI0.out)) | exact HB.out)); rintro e w59 ⟨rfl, hi, hb, hk⟩; refine ⟨_, rfl, ?_⟩; have n0_ := Aside0.mk (KeepBut.trans (by repeat (first | (with_reducible first | exact HK.out | apply KeepBut.set_ | apply keep_drewN | apply keep_drew | apply keep_alloc) | exact HK.out)) hk (.inl rfl)); have n1_ := Aside0.mk (hb); have n2_ := Aside0.mk (hi); clear HK; clear HB; clear HI0; have HK := n0_; have HB := n1_; have HI0 := n2_; clear n0_ n1_ n2_; (try clear hb); (try clear hb2); (try clear hk); (try clear hi)) | ((with_reducible refine gate_callee (f := 79) rfl ?_); refine goesL_ (some 32) rfl rfl Tryz.func79 (by kernel_rfl) rfl #[.string t291, .int .u8 64] rfl (by (try simp only [List.map_toArray, List.map_cons, List.map_nil]); first | done | rfl | (simp only [List.length_drop, List.length_take]; rfl)) ?_; (with_reducible refine (strings_IndexByte.calls t291 64 t301 _ ?side1 A6.out).mono ?_); (case side1 => first | exact HE.out | exact EnvOk.below HE.out (by repeat (first | (with_reducible first | exact HB.out | apply below_alloc | apply pw_below_drewN | apply below_drew1 | refine below_set ?_ (IsS53.ge HI0.out)) | exact HB.out))); rintro e w' ⟨rfl, ⟨nd, rfl⟩⟩; refine ⟨_, rfl, ?_⟩) | ((with_reducible refine gate_callee (f := 76) rfl ?_); refine goesL_ (some 36) rfl rfl Tryz.func76 (by kernel_rfl) rfl #[.string t291, .string (⟨#[58]⟩ : ByteArray)] rfl (by (try simp only [List.map_toArray, List.map_cons, List.map_nil]); first | done | rfl | (simp only [List.length_drop, List.length_take]; rfl)) ?_; (with_reducible refine (strings_Cut.calls t291 (⟨#[58]⟩ : ByteArray) t302 t303 t304 _ ?side1 A14.out).mono ?_); (case side1 => first | exact HE.out | exact EnvOk.below HE.out (by repeat (first | (with_reducible first | exact HB.out | apply below_alloc | apply pw_below_drewN | apply below_drew1 | refine below_set ?_ (IsS53.ge HI0.out)) | exact HB.out))); rintro e w' ⟨rfl, ⟨nd, rfl⟩⟩; refine ⟨_, rfl, ?_⟩) | ((with_reducible refine gate_callee (f := 19) rfl ?_); refine goesL_ (some 42) rfl rfl Tryz.func19 (by kernel_rfl) rfl #[.string t302] rfl (by (try simp only [List.map_toArray, List.map_cons, List.map_nil]); first | done | rfl | (simp only [List.length_drop, List.length_take]; rfl)) ?_; (with_reducible refine (url_Host.calls k t302 t305 t306 _ ?side1 A15.out).mono ?_); (case side1 => first | exact HE.out | exact EnvOk.below HE.out (by repeat (first | (with_reducible first | exact HB.out | apply below_alloc | apply pw_below_drewN | apply below_drew1 | refine below_set ?_ (IsS53.ge HI0.out)) | exact HB.out))); rintro e w60 ⟨rfl, hb⟩; refine ⟨_, rfl, ?_⟩; have n0_ := Aside0.mk (IsS53.below (by repeat (first | (with_reducible first | exact HI0.out | apply IsS53.alloc | apply IsS53.drewN | apply IsS53.drew | apply IsS53.set_0 | apply IsS53.set_1 | apply IsS53.set_2 | apply IsS53.set_3 | apply IsS53.set_4 | apply IsS53.set_5 | apply IsS53.set_6 | apply IsS53.set_7 | apply IsS53.set_8) | exact HI0.out)) hb); have n1_ := Aside0.mk (KeepBut.trans (by repeat (first | (with_reducible first | exact HK.out | apply KeepBut.set_ | apply keep_drewN | apply keep_drew | apply keep_alloc) | exact HK.out)) (KeepBut.of_below hb g none) (.inl rfl)); have n2_ := Aside0.mk (below_step (by repeat (first | (with_reducible first | exact HB.out | apply below_alloc | apply pw_below_drewN | apply below_drew1 | refine below_set ?_ (IsS53.ge HI0.out)) | exact HB.out)) hb); clear HI0; clear HK; clear HB; have HI0 := n0_; have HK := n1_; have HB := n2_; clear n0_ n1_ n2_; (try clear hb); (try clear hb2); (try clear hk); (try clear hi)))
    go_ret
    exact ⟨by first | rfl | (simp [errW_none, errW_some] <;> rfl) | (simp [*, errW_none, errW_some] <;> rfl), by repeat (first | (with_reducible first | exact HI0.out | apply IsS53.alloc | apply IsS53.drewN | apply IsS53.drew | apply IsS53.set_0 | apply IsS53.set_1 | apply IsS53.set_2 | apply IsS53.set_3 | apply IsS53.set_4 | apply IsS53.set_5 | apply IsS53.set_6 | apply IsS53.set_7 | apply IsS53.set_8) | exact HI0.out), by repeat (first | (with_reducible first | exact HB.out | apply below_alloc | apply pw_below_drewN | apply below_drew1 | refine below_set ?_ (IsS53.ge HI0.out)) | exact HB.out), by repeat (first | (with_reducible first | exact HK.out | apply KeepBut.set_ | apply keep_drewN | apply keep_drew | apply keep_alloc) | exact HK.out)⟩
 ·rw [if_neg c3] at H
  have c3b0 : (t289 == 0) = false := beq_eq_false_iff_ne.mpr c3
  have c3b1 : (t289 != 0) = true := bne_iff_ne.mpr c3
  simp only [Option.some.injEq, Prod.mk.injEq] at H
  obtain ⟨rfl, rfl, rfl, rfl, rfl, rfl, rfl, rfl, rfl, rfl⟩ := H
  obtain ⟨HGz61, hgz61⟩ := HI0.out
  have hcz61_0 := cellS53_0 HGz61
  have hcz61_1 := cellS53_1 HGz61
  have hcz61_2 := cellS53_2 HGz61
  have hcz61_3 := cellS53_3 HGz61
  have hcz61_4 := cellS53_4 HGz61
  have hcz61_5 := cellS53_5 HGz61
  have hcz61_6 := cellS53_6 HGz61
  have hcz61_7 := cellS53_7 HGz61
  have hcz61_8 := cellS53_8 HGz61
  have hfz61_0 := blk_frozen HGz61 0
  have hfz61_1 := blk_frozen HGz61 1
  have hfz61_2 := blk_frozen HGz61 2
  have hfz61_3 := blk_frozen HGz61 3
  have hfz61_4 := blk_frozen HGz61 4
  have hfz61_5 := blk_frozen HGz61 5
  have hfz61_6 := blk_frozen HGz61 6
  have hfz61_7 := blk_frozen HGz61 7
  have hfz61_8 := blk_frozen HGz61 8
  clear HGz61 hgz61
  go_enter Tryz.func44, Tryz.ntmps44
  go_wp2_with (first | ((with_reducible refine gate_callee (f := 80) rfl ?_); refine goesL_ (some 15) rfl rfl Tryz.func80 (by kernel_rfl) rfl #[.string s0_0, .string (⟨#[47, 92]⟩ : ByteArray)] rfl (by (try simp only [List.map_toArray, List.map_cons, List.map_nil]); first | done | rfl | (simp only [List.length_drop, List.length_take]; rfl)) ?_; (with_reducible refine (strings_IndexAny.calls s0_0 (⟨#[47, 92]⟩ : ByteArray) t289 _ ?side1 A2.out).mono ?_); (case side1 => first | exact HE.out | exact EnvOk.below HE.out (by repeat (first | (with_reducible first | exact HB.out | apply below_alloc | apply pw_below_drewN | apply below_drew1 | refine below_set ?_ (IsS53.ge HI0.out)) | exact HB.out))); rintro e w62 ⟨rfl, hb⟩; refine ⟨_, rfl, ?_⟩; have n0_ := Aside0.mk (IsS53.below (by repeat (first | (with_reducible first | exact HI0.out | apply IsS53.alloc | apply IsS53.drewN | apply IsS53.drew | apply IsS53.set_0 | apply IsS53.set_1 | apply IsS53.set_2 | apply IsS53.set_3 | apply IsS53.set_4 | apply IsS53.set_5 | apply IsS53.set_6 | apply IsS53.set_7 | apply IsS53.set_8) | exact HI0.out)) hb); have n1_ := Aside0.mk (KeepBut.trans (by repeat (first | (with_reducible first | exact HK.out | apply KeepBut.set_ | apply keep_drewN | apply keep_drew | apply keep_alloc) | exact HK.out)) (KeepBut.of_below hb g none) (.inl rfl)); have n2_ := Aside0.mk (below_step (by repeat (first | (with_reducible first | exact HB.out | apply below_alloc | apply pw_below_drewN | apply below_drew1 | refine below_set ?_ (IsS53.ge HI0.out)) | exact HB.out)) hb); clear HI0; clear HK; clear HB; have HI0 := n0_; have HK := n1_; have HB := n2_; clear n0_ n1_ n2_; (try clear hb); (try clear hb2); (try clear hk); (try clear hi)))
  go_ret
  exact ⟨by first | rfl | (simp [errW_none, errW_some] <;> rfl) | (simp [*, errW_none, errW_some] <;> rfl), by repeat (first | (with_reducible first | exact HI0.out | apply IsS53.alloc | apply IsS53.drewN | apply IsS53.drew | apply IsS53.set_0 | apply IsS53.set_1 | apply IsS53.set_2 | apply IsS53.set_3 | apply IsS53.set_4 | apply IsS53.set_5 | apply IsS53.set_6 | apply IsS53.set_7 | apply IsS53.set_8) | exact HI0.out), by repeat (first | (with_reducible first | exact HB.out | apply below_alloc | apply pw_below_drewN | apply below_drew1 | refine below_set ?_ (IsS53.ge HI0.out)) | exact HB.out), by repeat (first | (with_reducible first | exact HK.out | apply KeepBut.set_ | apply keep_drewN | apply keep_drew | apply keep_alloc) | exact HK.out)⟩
-- EXTERN: function 104 (percent_Mark)
def url_dots.f (a0 : ByteArray) : Option (Int) := (ascii_Lower.f a0).bind fun t310 => ((strings_ReplaceAll.f t310 (⟨#[37, 50, 101]⟩ : ByteArray) (⟨#[46]⟩ : ByteArray)).bind fun t311 => (if t311.toList = ([46] : List UInt8) then (some 1) else (if t311.toList = ([46, 46] : List UInt8) then (some 2) else (some 0))))
set_option maxHeartbeats 8000000 in
set_option maxRecDepth 100000 in
theorem url_dots.calls (a0 : ByteArray) (r : Int) (w : World) (hE : EnvOk w) (h : url_dots.f a0 = some r) :
  Calls Tryz.prog 62 #[.string a0] w fun e w' => e = .returned (.int .i64 r) ∧ Below w.heap.size w w' := by
 have HE := Aside0.mk hE
 clear hE
 have HB := Aside0.mk (Below.refl w.heap.size w)
 have H : ((ascii_Lower.f a0).bind fun t310 => ((strings_ReplaceAll.f t310 (⟨#[37, 50, 101]⟩ : ByteArray) (⟨#[46]⟩ : ByteArray)).bind fun t311 => (if t311.toList = ([46] : List UInt8) then (some 1) else (if t311.toList = ([46, 46] : List UInt8) then (some 2) else (some 0))))) = some r := h
 clear h
 replace H := Option.bind_eq_some_iff.mp H
 obtain ⟨t310, A20, H⟩ := H
 replace H : ((strings_ReplaceAll.f t310 (⟨#[37, 50, 101]⟩ : ByteArray) (⟨#[46]⟩ : ByteArray)).bind fun t311 => (if t311.toList = ([46] : List UInt8) then (some 1) else (if t311.toList = ([46, 46] : List UInt8) then (some 2) else (some 0)))) = some r := H
 have A2 := Aside0.mk A20
 clear A20
 replace H := Option.bind_eq_some_iff.mp H
 obtain ⟨t311, A30, H⟩ := H
 replace H : (if t311.toList = ([46] : List UInt8) then (some 1) else (if t311.toList = ([46, 46] : List UInt8) then (some 2) else (some 0))) = some r := H
 have A3 := Aside0.mk A30
 clear A30
 by_cases c4 : t311.toList = ([46] : List UInt8)
 ·rw [if_pos c4] at H
  have c4b0 : (t311.toList == ([46] : List UInt8)) = true := beq_iff_eq.mpr c4
  have c4b1 : (t311.toList != ([46] : List UInt8)) = false := bne_eq_false_iff_eq.mpr c4
  clear c4
  obtain rfl := Option.some.inj H
  go_enter Tryz.func62, Tryz.ntmps62
  go_wp2_with (first | ((with_reducible refine gate_callee (f := 52) rfl ?_); refine goesL_ (some 4) rfl rfl Tryz.func52 (by kernel_rfl) rfl #[.string a0] rfl (by (try simp only [List.map_toArray, List.map_cons, List.map_nil]); first | done | rfl | (simp only [List.length_drop, List.length_take]; rfl)) ?_; (with_reducible refine (ascii_Lower.calls a0 t310 _ ?side1 A2.out).mono ?_); (case side1 => first | exact HE.out | exact EnvOk.below HE.out (by repeat (first | (with_reducible first | exact HB.out | apply below_alloc | apply pw_below_drewN | apply below_drew1) | exact HB.out))); rintro e w5 ⟨rfl, hb⟩; refine ⟨_, rfl, ?_⟩; have n0_ := Aside0.mk (below_step (by repeat (first | (with_reducible first | exact HB.out | apply below_alloc | apply pw_below_drewN | apply below_drew1) | exact HB.out)) hb); clear HB; have HB := n0_; clear n0_; (try clear hb); (try clear hb2); (try clear hk); (try clear hi)) | ((with_reducible refine gate_callee (f := 59) rfl ?_); refine goesL_ (some 5) rfl rfl Tryz.func59 (by kernel_rfl) rfl #[.string t310, .string (⟨#[37, 50, 101]⟩ : ByteArray), .string (⟨#[46]⟩ : ByteArray)] rfl (by (try simp only [List.map_toArray, List.map_cons, List.map_nil]); first | done | rfl | (simp only [List.length_drop, List.length_take]; rfl)) ?_; (with_reducible refine (strings_ReplaceAll.calls t310 (⟨#[37, 50, 101]⟩ : ByteArray) (⟨#[46]⟩ : ByteArray) t311 _ ?side1 A3.out).mono ?_); (case side1 => first | exact HE.out | exact EnvOk.below HE.out (by repeat (first | (with_reducible first | exact HB.out | apply below_alloc | apply pw_below_drewN | apply below_drew1) | exact HB.out))); rintro e w6 ⟨rfl, hb⟩; refine ⟨_, rfl, ?_⟩; have n0_ := Aside0.mk (below_step (by repeat (first | (with_reducible first | exact HB.out | apply below_alloc | apply pw_below_drewN | apply below_drew1) | exact HB.out)) hb); clear HB; have HB := n0_; clear n0_; (try clear hb); (try clear hb2); (try clear hk); (try clear hi)))
  go_ret
  exact ⟨by first | rfl | (simp [errW_none, errW_some] <;> rfl) | (simp [*, errW_none, errW_some] <;> rfl), by repeat (first | (with_reducible first | exact HB.out | apply below_alloc | apply pw_below_drewN | apply below_drew1) | exact HB.out)⟩
 ·rw [if_neg c4] at H
  have c4b0 : (t311.toList == ([46] : List UInt8)) = false := beq_eq_false_iff_ne.mpr c4
  have c4b1 : (t311.toList != ([46] : List UInt8)) = true := bne_iff_ne.mpr c4
  by_cases c7 : t311.toList = ([46, 46] : List UInt8)
  ·rw [if_pos c7] at H
   have c7b0 : (t311.toList == ([46, 46] : List UInt8)) = true := beq_iff_eq.mpr c7
   have c7b1 : (t311.toList != ([46, 46] : List UInt8)) = false := bne_eq_false_iff_eq.mpr c7
   clear c7
   obtain rfl := Option.some.inj H
   go_enter Tryz.func62, Tryz.ntmps62
   go_wp2_with (first | ((with_reducible refine gate_callee (f := 52) rfl ?_); refine goesL_ (some 4) rfl rfl Tryz.func52 (by kernel_rfl) rfl #[.string a0] rfl (by (try simp only [List.map_toArray, List.map_cons, List.map_nil]); first | done | rfl | (simp only [List.length_drop, List.length_take]; rfl)) ?_; (with_reducible refine (ascii_Lower.calls a0 t310 _ ?side1 A2.out).mono ?_); (case side1 => first | exact HE.out | exact EnvOk.below HE.out (by repeat (first | (with_reducible first | exact HB.out | apply below_alloc | apply pw_below_drewN | apply below_drew1) | exact HB.out))); rintro e w8 ⟨rfl, hb⟩; refine ⟨_, rfl, ?_⟩; have n0_ := Aside0.mk (below_step (by repeat (first | (with_reducible first | exact HB.out | apply below_alloc | apply pw_below_drewN | apply below_drew1) | exact HB.out)) hb); clear HB; have HB := n0_; clear n0_; (try clear hb); (try clear hb2); (try clear hk); (try clear hi)) | ((with_reducible refine gate_callee (f := 59) rfl ?_); refine goesL_ (some 5) rfl rfl Tryz.func59 (by kernel_rfl) rfl #[.string t310, .string (⟨#[37, 50, 101]⟩ : ByteArray), .string (⟨#[46]⟩ : ByteArray)] rfl (by (try simp only [List.map_toArray, List.map_cons, List.map_nil]); first | done | rfl | (simp only [List.length_drop, List.length_take]; rfl)) ?_; (with_reducible refine (strings_ReplaceAll.calls t310 (⟨#[37, 50, 101]⟩ : ByteArray) (⟨#[46]⟩ : ByteArray) t311 _ ?side1 A3.out).mono ?_); (case side1 => first | exact HE.out | exact EnvOk.below HE.out (by repeat (first | (with_reducible first | exact HB.out | apply below_alloc | apply pw_below_drewN | apply below_drew1) | exact HB.out))); rintro e w9 ⟨rfl, hb⟩; refine ⟨_, rfl, ?_⟩; have n0_ := Aside0.mk (below_step (by repeat (first | (with_reducible first | exact HB.out | apply below_alloc | apply pw_below_drewN | apply below_drew1) | exact HB.out)) hb); clear HB; have HB := n0_; clear n0_; (try clear hb); (try clear hb2); (try clear hk); (try clear hi)))
   go_ret
   exact ⟨by first | rfl | (simp [errW_none, errW_some] <;> rfl) | (simp [*, errW_none, errW_some] <;> rfl), by repeat (first | (with_reducible first | exact HB.out | apply below_alloc | apply pw_below_drewN | apply below_drew1) | exact HB.out)⟩
  ·rw [if_neg c7] at H
   have c7b0 : (t311.toList == ([46, 46] : List UInt8)) = false := beq_eq_false_iff_ne.mpr c7
   have c7b1 : (t311.toList != ([46, 46] : List UInt8)) = true := bne_iff_ne.mpr c7
   obtain rfl := Option.some.inj H
   go_enter Tryz.func62, Tryz.ntmps62
   go_wp2_with (first | ((with_reducible refine gate_callee (f := 52) rfl ?_); refine goesL_ (some 4) rfl rfl Tryz.func52 (by kernel_rfl) rfl #[.string a0] rfl (by (try simp only [List.map_toArray, List.map_cons, List.map_nil]); first | done | rfl | (simp only [List.length_drop, List.length_take]; rfl)) ?_; (with_reducible refine (ascii_Lower.calls a0 t310 _ ?side1 A2.out).mono ?_); (case side1 => first | exact HE.out | exact EnvOk.below HE.out (by repeat (first | (with_reducible first | exact HB.out | apply below_alloc | apply pw_below_drewN | apply below_drew1) | exact HB.out))); rintro e w10 ⟨rfl, hb⟩; refine ⟨_, rfl, ?_⟩; have n0_ := Aside0.mk (below_step (by repeat (first | (with_reducible first | exact HB.out | apply below_alloc | apply pw_below_drewN | apply below_drew1) | exact HB.out)) hb); clear HB; have HB := n0_; clear n0_; (try clear hb); (try clear hb2); (try clear hk); (try clear hi)) | ((with_reducible refine gate_callee (f := 59) rfl ?_); refine goesL_ (some 5) rfl rfl Tryz.func59 (by kernel_rfl) rfl #[.string t310, .string (⟨#[37, 50, 101]⟩ : ByteArray), .string (⟨#[46]⟩ : ByteArray)] rfl (by (try simp only [List.map_toArray, List.map_cons, List.map_nil]); first | done | rfl | (simp only [List.length_drop, List.length_take]; rfl)) ?_; (with_reducible refine (strings_ReplaceAll.calls t310 (⟨#[37, 50, 101]⟩ : ByteArray) (⟨#[46]⟩ : ByteArray) t311 _ ?side1 A3.out).mono ?_); (case side1 => first | exact HE.out | exact EnvOk.below HE.out (by repeat (first | (with_reducible first | exact HB.out | apply below_alloc | apply pw_below_drewN | apply below_drew1) | exact HB.out))); rintro e w11 ⟨rfl, hb⟩; refine ⟨_, rfl, ?_⟩; have n0_ := Aside0.mk (below_step (by repeat (first | (with_reducible first | exact HB.out | apply below_alloc | apply pw_below_drewN | apply below_drew1) | exact HB.out)) hb); clear HB; have HB := n0_; clear n0_; (try clear hb); (try clear hb2); (try clear hk); (try clear hi)))
   go_ret
   exact ⟨by first | rfl | (simp [errW_none, errW_some] <;> rfl) | (simp [*, errW_none, errW_some] <;> rfl), by repeat (first | (with_reducible first | exact HB.out | apply below_alloc | apply pw_below_drewN | apply below_drew1) | exact HB.out)⟩
-- EXTERN: function 24 (cringleref04_Path)
end Go.Proofs.YtnmglnglbdpjjaaGreatDoor.X
