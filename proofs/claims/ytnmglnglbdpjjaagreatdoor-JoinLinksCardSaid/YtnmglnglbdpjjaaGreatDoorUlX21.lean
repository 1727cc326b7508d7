/- Printed by a program of ours: functions as plain Lean, and what a call of each does. -/
import Derived.Test.YtnmglnglbdpjjaaGreatDoorUlWords
import Derived.Test.YtnmglnglbdpjjaaGreatDoorUlX0
import Derived.Test.YtnmglnglbdpjjaaGreatDoorUlX1
import Derived.Test.YtnmglnglbdpjjaaGreatDoorUlX13
import Derived.Test.YtnmglnglbdpjjaaGreatDoorUlX14
import Derived.Test.YtnmglnglbdpjjaaGreatDoorUlH0e
import Derived.Test.YtnmglnglbdpjjaaGreatDoorUlH4
import Derived.Test.YtnmglnglbdpjjaaGreatDoorUlZw
namespace Go.Proofs.YtnmglnglbdpjjaaGreatDoor.X
open Go.RowKit Go.Yw.PrintWords Go.Yw.PrintLast Go.Yw.PrintMore
attribute [local go_sem] Yxd Yae Yoe Yqe Yld Yjd Yyd Yzd
set_option linter.unusedVariables false
set_option linter.unusedSimpArgs false
attribute [local go_sem high] eqA25
mutual
def Yxa.l0 : Nat → ByteArray → ByteArray → ByteArray → Int → ByteArray → ByteArray → ByteArray → Bool → Bool → Option (ByteArray × ByteArray × Int × ByteArray × ByteArray × ByteArray × Bool × Bool × Int)
 | 0, _, _, _, _, _, _, _, _, _ => none
 | k + 1, x6, eJ, hG, hH, hM, hO, hU, hX, hY => if (x6.size : Int) > 2048 then (some ((⟨#[]⟩ : ByteArray), (⟨#[]⟩ : ByteArray), 0, (⟨#[]⟩ : ByteArray), (⟨#[]⟩ : ByteArray), (⟨#[]⟩ : ByteArray), false, false, 5)) else ((Yla.f k x6).bind fun dU => (if dU.2.2 = true then (Yxa.j1 k x6 dU.1 dU.2.1 dU.2.2 false eJ hG hH hM hO hU hX hY) else ((Yvb.f k x6).bind fun uH => (Yxa.j1 k x6 dU.1 dU.2.1 dU.2.2 (uH == 2) eJ hG hH hM hO hU hX hY))))
def Yxa.j1 : Nat → ByteArray → ByteArray → ByteArray → Bool → Bool → ByteArray → ByteArray → Int → ByteArray → ByteArray → ByteArray → Bool → Bool → Option (ByteArray × ByteArray × Int × ByteArray × ByteArray × ByteArray × Bool × Bool × Int)
 | 0, _, _, _, _, _, _, _, _, _, _, _, _, _ => none
 | k + 1, x6, x7, x8, x9, x26, eJ, hG, hH, hM, hO, hU, hX, hY => if x26 = true then (if eJ.size + 1 ≤ 9223372036854775807 then (if (eJ ++ (⟨#[58]⟩ : ByteArray)).size + x6.size ≤ 9223372036854775807 then ((Yqd.f k ((eJ ++ (⟨#[58]⟩ : ByteArray)) ++ x6)).bind fun kO => (some (kO.1, kO.2.1, kO.2.2.1, kO.2.2.2.1, kO.2.2.2.2.1, kO.2.2.2.2.2.1, kO.2.2.2.2.2.2.1, kO.2.2.2.2.2.2.2.1, kO.2.2.2.2.2.2.2.2))) else (none)) else (none)) else (if x9 = true then ((Ycg.f x7 eJ).bind fun aGK => (if aGK = true then ((Yvb.f k x8).bind fun aEn => (Yxa.j2 k x6 x8 (decide (aEn > 0)) eJ hG hH hM hO hU hX hY)) else (Yxa.j2 k x6 x8 true eJ hG hH hM hO hU hX hY))) else ((Ysf.f eJ hG hH hM hO hU hX hY x6).bind fun kP => (some (kP.1, kP.2.1, kP.2.2.1, kP.2.2.2.1, kP.2.2.2.2.1, kP.2.2.2.2.2.1, kP.2.2.2.2.2.2.1, kP.2.2.2.2.2.2.2.1, kP.2.2.2.2.2.2.2.2))))
def Yxa.j2 : Nat → ByteArray → ByteArray → Bool → ByteArray → ByteArray → Int → ByteArray → ByteArray → ByteArray → Bool → Bool → Option (ByteArray × ByteArray × Int × ByteArray × ByteArray × ByteArray × Bool × Bool × Int)
 | 0, _, _, _, _, _, _, _, _, _, _, _ => none
 | k + 1, x6, x8, x50, eJ, hG, hH, hM, hO, hU, hX, hY => if x50 = true then ((Yqd.f k x6).bind fun kQ => (some (kQ.1, kQ.2.1, kQ.2.2.1, kQ.2.2.2.1, kQ.2.2.2.2.1, kQ.2.2.2.2.2.1, kQ.2.2.2.2.2.2.1, kQ.2.2.2.2.2.2.2.1, kQ.2.2.2.2.2.2.2.2))) else ((Yvd.f x8).bind fun aEo => (Yxa.l0 k aEo eJ hG hH hM hO hU hX hY))
end
def Yxa.f (k : Nat) (aE aJ : ByteArray) (aN : Int) (aG aM aK : ByteArray) (aU aV : Bool) (a1 : ByteArray) : Option (ByteArray × ByteArray × Int × ByteArray × ByteArray × ByteArray × Bool × Bool × Int) := (Yxi.f k aE aJ aN aG aM aK aU aV).bind fun aCr => (if aCr = true then ((Yvd.f a1).bind fun zW => (Yxa.l0 k zW aE aJ aN aG aM aK aU aV)) else (some ((⟨#[]⟩ : ByteArray), (⟨#[]⟩ : ByteArray), 0, (⟨#[]⟩ : ByteArray), (⟨#[]⟩ : ByteArray), (⟨#[]⟩ : ByteArray), false, false, 1)))
set_option maxHeartbeats 8000000 in
set_option maxRecDepth 100000 in
theorem Yxa.calls (k : Nat) (aE aJ : ByteArray) (aN : Int) (aG aM aK : ByteArray) (aU aV : Bool) (a1 r1 r2 : ByteArray) (r3 : Int) (r4 r5 r6 : ByteArray) (r7 r8 : Bool) (r9 : Int) (w : World) (hE : EnvOk w) (h : Yxa.f k aE aJ aN aG aM aK aU aV a1 = some (r1, r2, r3, r4, r5, r6, r7, r8, r9)) :
  Calls Tryz.prog 33 #[.agg #[.string aE, .string aJ, .int .i64 aN, .string aG, .string aM, .string aK, .bool aU, .bool aV], .string a1] w fun e w' => e = .returned (.tuple #[.agg #[.string r1, .string r2, .int .i64 r3, .string r4, .string r5, .string r6, .bool r7, .bool r8], .int .i64 r9]) ∧ Below w.heap.size w w' := by
 have bQ := Tryz.underlying25
 have HE := Ya.mk hE
 clear hE
 have HB := Ya.mk (Below.refl w.heap.size w)
 have H : ((Yxi.f k aE aJ aN aG aM aK aU aV).bind fun aCr => (if aCr = true then ((Yvd.f a1).bind fun zW => (Yxa.l0 k zW aE aJ aN aG aM aK aU aV)) else (some ((⟨#[]⟩ : ByteArray), (⟨#[]⟩ : ByteArray), 0, (⟨#[]⟩ : ByteArray), (⟨#[]⟩ : ByteArray), (⟨#[]⟩ : ByteArray), false, false, 1)))) = some (r1, r2, r3, r4, r5, r6, r7, r8, r9) := h
 clear h
 replace H := Option.bind_eq_some_iff.mp H
 obtain ⟨aCr, iY, H⟩ := H
 try dsimp -simprocs only at H
 have A3 := Ya.mk iY
 clear iY
 by_cases c4 : aCr = true
 rotate_left
 ·replace c4 := Bool.eq_false_iff.mpr c4
  subst c4
  rw [if_neg (show ¬ (false = true) by decide)] at H
  simp only [Option.some.injEq, Prod.mk.injEq] at H
  obtain ⟨rfl, rfl, rfl, rfl, rfl, rfl, rfl, rfl, rfl⟩ := H
  go_enter Tryz.func33, Tryz.ntmps33
  go_wp2_with (first | ((with_reducible refine Yad (N := 2) rfl ?_); refine Yzc ?hg (N := 2) ?hd (cs := #[.string aE, .string aJ, .int .i64 aN, .string aG, .string aM, .string aK, .bool aU, .bool aV]) (t := 25) ?hr ?_; (case hd => rfl); (case hg => rfl); (case hr => first | (go_simp; done) | (go_simp; rfl)); intro bJ hg w52 hbox hb; have aH := Ya.mk (Yt Za hb); have aR := Ya.mk (hbox); have bK := Ya.mk ((by rw [hg]; exact (Yia Za) : w.heap.size ≤ bJ)); have dM := Ya.mk ((by rw [hg]; exact (Yia Za) : w.heap.size ≤ bJ)); clear HB; have HB := aH; have aQ := aR; have aKu := bK; have aAr := dM; clear aH aR bK dM; clear hb hbox hg) | ((with_reducible refine Yad (N := 4) rfl ?_); refine Yzc ?hg (N := 4) ?hd (cs := #[.string (⟨#[]⟩ : ByteArray), .string (⟨#[]⟩ : ByteArray), .int .i64 0, .string (⟨#[]⟩ : ByteArray), .string (⟨#[]⟩ : ByteArray), .string (⟨#[]⟩ : ByteArray), .bool false, .bool false]) (t := 25) ?hr ?_; (case hd => rfl); (case hg => rfl); (case hr => first | (go_simp; done) | (go_simp; rfl)); intro bM hg w53 hbox hb; have aH := Ya.mk (Ykb (g := bJ) (o := .cells #[.string aE, .string aJ, .int .i64 aN, .string aG, .string aM, .string aK, .bool aU, .bool aV] 25 (0, 0)) Zo hb); have aR := Ya.mk (Yt Zca hb); have bK := Ya.mk (hbox); have dM := Ya.mk ((by rw [hg]; exact (Yia Zca) : w.heap.size ≤ bM)); have pY := Ya.mk ((by rw [hg]; exact (Yia Zca) : w.heap.size ≤ bM)); have pZ := Ya.mk ((by rw [hg]; exact Nat.ne_of_lt (Yje (g := bJ) (o := .cells #[.string aE, .string aJ, .int .i64 aN, .string aG, .string aM, .string aK, .bool aU, .bool aV] 25 (0, 0)) Zo) : bJ ≠ bM)); have qA := Ya.mk ((by rw [hg]; exact Nat.ne_of_gt (Yje (g := bJ) (o := .cells #[.string aE, .string aJ, .int .i64 aN, .string aG, .string aM, .string aK, .bool aU, .bool aV] 25 (0, 0)) Zo) : bM ≠ bJ)); clear aQ; clear HB; have aQ := aH; have HB := aR; have aW := bK; have aKv := dM; have aEu := pY; have dX := pZ; have dY := qA; clear aH aR bK dM pY pZ qA; clear hb hbox hg; have aXg := dX.out; have aXh := dY.out; have aTa : w53.cell? ⟨bJ, 0, none⟩ = some (.string aE) := (Yf aQ.out 0).trans rfl; have aTb : w53.cell? ⟨bJ, 1, none⟩ = some (.string aJ) := (Yf aQ.out 1).trans rfl; have aTc : w53.cell? ⟨bJ, 2, none⟩ = some (.int .i64 aN) := (Yf aQ.out 2).trans rfl; have aTd : w53.cell? ⟨bJ, 3, none⟩ = some (.string aG) := (Yf aQ.out 3).trans rfl; have aTe : w53.cell? ⟨bJ, 4, none⟩ = some (.string aM) := (Yf aQ.out 4).trans rfl; have aTf : w53.cell? ⟨bJ, 5, none⟩ = some (.string aK) := (Yf aQ.out 5).trans rfl; have aTg : w53.cell? ⟨bJ, 6, none⟩ = some (.bool aU) := (Yf aQ.out 6).trans rfl; have aTh : w53.cell? ⟨bJ, 7, none⟩ = some (.bool aV) := (Yf aQ.out 7).trans rfl; have aTi := Ye aQ.out 0; have aTj := Ye aQ.out 1; have aTk := Ye aQ.out 2; have aTl := Ye aQ.out 3; have aTm := Ye aQ.out 4; have aTn := Ye aQ.out 5; have aTo := Ye aQ.out 6; have aTp := Ye aQ.out 7) | ((with_reducible refine Yi (f := 27) rfl ?_); refine Yaa (some 11) rfl rfl Tryz.func27 Zi rfl #[.agg #[.string aE, .string aJ, .int .i64 aN, .string aG, .string aM, .string aK, .bool aU, .bool aV]] rfl Zb ?_; (with_reducible refine (Yxi.calls k aE aJ aN aG aM aK aU aV false _ ?side1 A3.out).mono ?_); (case side1 => first | exact HE.out | exact EnvOk.below HE.out Zj); rintro e w56 ⟨rfl, hb⟩; refine ⟨_, rfl, ?_⟩; have aH := Ya.mk (Ykb (g := bJ) (o := .cells #[.string aE, .string aJ, .int .i64 aN, .string aG, .string aM, .string aK, .bool aU, .bool aV] 25 (0, 0)) Zo hb); have aR := Ya.mk (Ykb (g := bM) (o := .cells #[.string (⟨#[]⟩ : ByteArray), .string (⟨#[]⟩ : ByteArray), .int .i64 0, .string (⟨#[]⟩ : ByteArray), .string (⟨#[]⟩ : ByteArray), .string (⟨#[]⟩ : ByteArray), .bool false, .bool false] 25 (0, 0)) Zr hb); have bK := Ya.mk (Yt Zj hb); clear aQ; clear aW; clear HB; have aQ := aH; have aW := aR; have HB := bK; clear aH aR bK; (try clear hb); (try clear bU); (try clear hk); (try clear hi); have aTq : w56.cell? ⟨bM, 0, none⟩ = some (.string (⟨#[]⟩ : ByteArray)) := (Yf aW.out 0).trans rfl; have aTr : w56.cell? ⟨bM, 1, none⟩ = some (.string (⟨#[]⟩ : ByteArray)) := (Yf aW.out 1).trans rfl; have aTs : w56.cell? ⟨bM, 2, none⟩ = some (.int .i64 0) := (Yf aW.out 2).trans rfl; have aTt : w56.cell? ⟨bM, 3, none⟩ = some (.string (⟨#[]⟩ : ByteArray)) := (Yf aW.out 3).trans rfl; have aTu : w56.cell? ⟨bM, 4, none⟩ = some (.string (⟨#[]⟩ : ByteArray)) := (Yf aW.out 4).trans rfl; have aTv : w56.cell? ⟨bM, 5, none⟩ = some (.string (⟨#[]⟩ : ByteArray)) := (Yf aW.out 5).trans rfl; have aTw : w56.cell? ⟨bM, 6, none⟩ = some (.bool false) := (Yf aW.out 6).trans rfl; have aTx : w56.cell? ⟨bM, 7, none⟩ = some (.bool false) := (Yf aW.out 7).trans rfl; have aTy := Ye aW.out 0; have aTz := Ye aW.out 1; have aTA := Ye aW.out 2; have aTB := Ye aW.out 3; have aTC := Ye aW.out 4; have aTD := Ye aW.out 5; have aTE := Ye aW.out 6; have aTF := Ye aW.out 7))
  refine bodyPost_ret (Yni rfl _ _ bM 25 #[.string (⟨#[]⟩ : ByteArray), .string (⟨#[]⟩ : ByteArray), .int .i64 0, .string (⟨#[]⟩ : ByteArray), .string (⟨#[]⟩ : ByteArray), .string (⟨#[]⟩ : ByteArray), .bool false, .bool false] (0, 0) _ rfl (by (with_reducible repeat (first | refine Yh ?_ _ | refine Yp ?_ | refine Yn ?_ _)); refine Yna (cs := #[.string (⟨#[]⟩ : ByteArray), .string (⟨#[]⟩ : ByteArray), .int .i64 0, .string (⟨#[]⟩ : ByteArray), .string (⟨#[]⟩ : ByteArray), .string (⟨#[]⟩ : ByteArray), .bool false, .bool false]) ?_ 7 _ rfl; (with_reducible repeat (first | refine Yh ?_ _ | refine Yp ?_ | refine Yn ?_ _)); refine Yna (cs := #[.string (⟨#[]⟩ : ByteArray), .string (⟨#[]⟩ : ByteArray), .int .i64 0, .string (⟨#[]⟩ : ByteArray), .string (⟨#[]⟩ : ByteArray), .string (⟨#[]⟩ : ByteArray), .bool false, .bool false]) ?_ 6 _ rfl; (with_reducible repeat (first | refine Yh ?_ _ | refine Yp ?_ | refine Yn ?_ _)); refine Yna (cs := #[.string (⟨#[]⟩ : ByteArray), .string (⟨#[]⟩ : ByteArray), .int .i64 0, .string (⟨#[]⟩ : ByteArray), .string (⟨#[]⟩ : ByteArray), .string (⟨#[]⟩ : ByteArray), .bool false, .bool false]) ?_ 5 _ rfl; (with_reducible repeat (first | refine Yh ?_ _ | refine Yp ?_ | refine Yn ?_ _)); refine Yna (cs := #[.string (⟨#[]⟩ : ByteArray), .string (⟨#[]⟩ : ByteArray), .int .i64 0, .string (⟨#[]⟩ : ByteArray), .string (⟨#[]⟩ : ByteArray), .string (⟨#[]⟩ : ByteArray), .bool false, .bool false]) ?_ 4 _ rfl; (with_reducible repeat (first | refine Yh ?_ _ | refine Yp ?_ | refine Yn ?_ _)); refine Yna (cs := #[.string (⟨#[]⟩ : ByteArray), .string (⟨#[]⟩ : ByteArray), .int .i64 0, .string (⟨#[]⟩ : ByteArray), .string (⟨#[]⟩ : ByteArray), .string (⟨#[]⟩ : ByteArray), .bool false, .bool false]) ?_ 3 _ rfl; (with_reducible repeat (first | refine Yh ?_ _ | refine Yp ?_ | refine Yn ?_ _)); refine Yna (cs := #[.string (⟨#[]⟩ : ByteArray), .string (⟨#[]⟩ : ByteArray), .int .i64 0, .string (⟨#[]⟩ : ByteArray), .string (⟨#[]⟩ : ByteArray), .string (⟨#[]⟩ : ByteArray), .bool false, .bool false]) ?_ 2 _ rfl; (with_reducible repeat (first | refine Yh ?_ _ | refine Yp ?_ | refine Yn ?_ _)); refine Yna (cs := #[.string (⟨#[]⟩ : ByteArray), .string (⟨#[]⟩ : ByteArray), .int .i64 0, .string (⟨#[]⟩ : ByteArray), .string (⟨#[]⟩ : ByteArray), .string (⟨#[]⟩ : ByteArray), .bool false, .bool false]) ?_ 1 _ rfl; (with_reducible repeat (first | refine Yh ?_ _ | refine Yp ?_ | refine Yn ?_ _)); refine Yna (cs := #[.string (⟨#[]⟩ : ByteArray), .string (⟨#[]⟩ : ByteArray), .int .i64 0, .string (⟨#[]⟩ : ByteArray), .string (⟨#[]⟩ : ByteArray), .string (⟨#[]⟩ : ByteArray), .bool false, .bool false]) ?_ 0 _ rfl; (with_reducible repeat (first | refine Yh ?_ _ | refine Yp ?_ | refine Yn ?_ _)); exact aW.out) Tryz.underlying25 rfl Zi) rfl ?_
  exact ⟨Zl, Zj⟩
 subst c4
 rw [if_pos rfl] at H
 replace H := Option.bind_eq_some_iff.mp H
 obtain ⟨zW, tD, H⟩ := H
 try dsimp -simprocs only at H
 have A5 := Ya.mk tD
 clear tD
 have H' := Ya.mk H
 clear H
 go_enter Tryz.func33, Tryz.ntmps33
 go_wp2_with (first | ((with_reducible refine Yad (N := 2) rfl ?_); refine Yzc ?hg (N := 2) ?hd (cs := #[.string aE, .string aJ, .int .i64 aN, .string aG, .string aM, .string aK, .bool aU, .bool aV]) (t := 25) ?hr ?_; (case hd => rfl); (case hg => rfl); (case hr => first | (go_simp; done) | (go_simp; rfl)); intro bJ hg w6 hbox hb; have aH := Ya.mk (Yt Za hb); have aR := Ya.mk (hbox); have bK := Ya.mk ((by rw [hg]; exact (Yia Za) : w.heap.size ≤ bJ)); have dM := Ya.mk ((by rw [hg]; exact (Yia Za) : w.heap.size ≤ bJ)); clear HB; have HB := aH; have aQ := aR; have aKu := bK; have aAr := dM; clear aH aR bK dM; clear hb hbox hg) | ((with_reducible refine Yad (N := 4) rfl ?_); refine Yzc ?hg (N := 4) ?hd (cs := #[.string (⟨#[]⟩ : ByteArray), .string (⟨#[]⟩ : ByteArray), .int .i64 0, .string (⟨#[]⟩ : ByteArray), .string (⟨#[]⟩ : ByteArray), .string (⟨#[]⟩ : ByteArray), .bool false, .bool false]) (t := 25) ?hr ?_; (case hd => rfl); (case hg => rfl); (case hr => first | (go_simp; done) | (go_simp; rfl)); intro bM hg w7 hbox hb; have aH := Ya.mk (Ykb (g := bJ) (o := .cells #[.string aE, .string aJ, .int .i64 aN, .string aG, .string aM, .string aK, .bool aU, .bool aV] 25 (0, 0)) Zo hb); have aR := Ya.mk (Yt Zca hb); have bK := Ya.mk (hbox); have dM := Ya.mk ((by rw [hg]; exact (Yia Zca) : w.heap.size ≤ bM)); have pY := Ya.mk ((by rw [hg]; exact (Yia Zca) : w.heap.size ≤ bM)); have pZ := Ya.mk ((by rw [hg]; exact Nat.ne_of_lt (Yje (g := bJ) (o := .cells #[.string aE, .string aJ, .int .i64 aN, .string aG, .string aM, .string aK, .bool aU, .bool aV] 25 (0, 0)) Zo) : bJ ≠ bM)); have qA := Ya.mk ((by rw [hg]; exact Nat.ne_of_gt (Yje (g := bJ) (o := .cells #[.string aE, .string aJ, .int .i64 aN, .string aG, .string aM, .string aK, .bool aU, .bool aV] 25 (0, 0)) Zo) : bM ≠ bJ)); clear aQ; clear HB; have aQ := aH; have HB := aR; have aW := bK; have aKv := dM; have aEu := pY; have dX := pZ; have dY := qA; clear aH aR bK dM pY pZ qA; clear hb hbox hg; have aYb := dX.out; have aYc := dY.out; have rL : w7.cell? ⟨bJ, 0, none⟩ = some (.string aE) := (Yf aQ.out 0).trans rfl; have rM : w7.cell? ⟨bJ, 1, none⟩ = some (.string aJ) := (Yf aQ.out 1).trans rfl; have rN : w7.cell? ⟨bJ, 2, none⟩ = some (.int .i64 aN) := (Yf aQ.out 2).trans rfl; have rO : w7.cell? ⟨bJ, 3, none⟩ = some (.string aG) := (Yf aQ.out 3).trans rfl; have rP : w7.cell? ⟨bJ, 4, none⟩ = some (.string aM) := (Yf aQ.out 4).trans rfl; have rQ : w7.cell? ⟨bJ, 5, none⟩ = some (.string aK) := (Yf aQ.out 5).trans rfl; have rR : w7.cell? ⟨bJ, 6, none⟩ = some (.bool aU) := (Yf aQ.out 6).trans rfl; have rS : w7.cell? ⟨bJ, 7, none⟩ = some (.bool aV) := (Yf aQ.out 7).trans rfl; have rT := Ye aQ.out 0; have rU := Ye aQ.out 1; have rV := Ye aQ.out 2; have rW := Ye aQ.out 3; have rX := Ye aQ.out 4; have rY := Ye aQ.out 5; have rZ := Ye aQ.out 6; have sA := Ye aQ.out 7) | ((with_reducible refine Yi (f := 27) rfl ?_); refine Yaa (some 11) rfl rfl Tryz.func27 Zi rfl #[.agg #[.string aE, .string aJ, .int .i64 aN, .string aG, .string aM, .string aK, .bool aU, .bool aV]] rfl Zb ?_; (with_reducible refine (Yxi.calls k aE aJ aN aG aM aK aU aV true _ ?side1 A3.out).mono ?_); (case side1 => first | exact HE.out | exact EnvOk.below HE.out Zj); rintro e pJ ⟨rfl, hb⟩; refine ⟨_, rfl, ?_⟩; have aH := Ya.mk (Ykb (g := bJ) (o := .cells #[.string aE, .string aJ, .int .i64 aN, .string aG, .string aM, .string aK, .bool aU, .bool aV] 25 (0, 0)) Zo hb); have aR := Ya.mk (Ykb (g := bM) (o := .cells #[.string (⟨#[]⟩ : ByteArray), .string (⟨#[]⟩ : ByteArray), .int .i64 0, .string (⟨#[]⟩ : ByteArray), .string (⟨#[]⟩ : ByteArray), .string (⟨#[]⟩ : ByteArray), .bool false, .bool false] 25 (0, 0)) Zr hb); have bK := Ya.mk (Yt Zj hb); clear aQ; clear aW; clear HB; have aQ := aH; have aW := aR; have HB := bK; clear aH aR bK; (try clear hb); (try clear bU); (try clear hk); (try clear hi)) | ((with_reducible refine Yi (f := 21) rfl ?_); refine Yaa (some 15) rfl rfl Tryz.func21 Zi rfl #[.string a1] rfl Zb ?_; (with_reducible refine (Yvd.calls a1 zW _ ?side1 A5.out).mono ?_); (case side1 => first | exact HE.out | exact EnvOk.below HE.out Zj); rintro e w11 ⟨rfl, hb⟩; refine ⟨_, rfl, ?_⟩; have aH := Ya.mk (Ykb (g := bJ) (o := .cells #[.string aE, .string aJ, .int .i64 aN, .string aG, .string aM, .string aK, .bool aU, .bool aV] 25 (0, 0)) Zo hb); have aR := Ya.mk (Ykb (g := bM) (o := .cells #[.string (⟨#[]⟩ : ByteArray), .string (⟨#[]⟩ : ByteArray), .int .i64 0, .string (⟨#[]⟩ : ByteArray), .string (⟨#[]⟩ : ByteArray), .string (⟨#[]⟩ : ByteArray), .bool false, .bool false] 25 (0, 0)) Zr hb); have bK := Ya.mk (Yt Zj hb); clear aQ; clear aW; clear HB; have aQ := aH; have aW := aR; have HB := bK; clear aH aR bK; (try clear hb); (try clear bU); (try clear hk); (try clear hi)))
 go_loopg [6] k (fun kq v6 w' => ∃ (aC : ByteArray) (bT : ByteArray) (bP : ByteArray) (bL : Int) (bI : ByteArray) (bD : ByteArray) (bC : ByteArray) (aY : Bool) (aT : Bool), v6 = .string aC ∧ Ya (Yxa.l0 kq aC aE aJ aN aG aM aK aU aV = some (r1, r2, r3, r4, r5, r6, r7, r8, r9)) ∧ Ya (kq ≤ k) ∧ Ya (w'.heap[bJ]? = some (.cells #[.string aE, .string aJ, .int .i64 aN, .string aG, .string aM, .string aK, .bool aU, .bool aV] 25 (0, 0))) ∧ Ya (w'.heap[bM]? = some (.cells #[.string bT, .string bP, .int .i64 bL, .string bI, .string bD, .string bC, .bool aY, .bool aT] 25 (0, 0))) ∧ Ya (Below w.heap.size w w'))
 case atStart => exact ⟨(zW), ((⟨#[]⟩ : ByteArray)), ((⟨#[]⟩ : ByteArray)), (0), ((⟨#[]⟩ : ByteArray)), ((⟨#[]⟩ : ByteArray)), ((⟨#[]⟩ : ByteArray)), (false), (false), Zf, H', ⟨Nat.le_refl _⟩, ⟨Zo⟩, ⟨Zr⟩, ⟨Zj⟩⟩
 case round =>
  clear H'
  try clear c2
  try clear p2
  try clear c3
  try clear c4
  try clear c8
  try clear rL
  try clear rM
  try clear rN
  try clear rO
  try clear rP
  try clear rQ
  try clear rR
  try clear rS
  try clear rT
  try clear rU
  try clear rV
  try clear rW
  try clear rX
  try clear rY
  try clear rZ
  try clear sA
  obtain ⟨aC, bT, bP, bL, bI, bD, bC, aY, aT, rfl, HA, cU, aQ, aW, HB⟩ := hrel
  cases gk with
  | zero => exact absurd HA.out (by simp [Yxa.l0])
  | succ k1 =>
   have H := HA.out
   clear HA
   simp only [Yxa.l0] at H
   by_cases dD : (aC.size : Int) > 2048
   ·rw [if_pos dD] at H
    have dS : decide (2048 < (aC.size : Int)) = true := decide_eq_true dD
    have oA : decide (2048 < aC.size) = true := decide_eq_true Zk
    clear dD
    simp only [Option.some.injEq, Prod.mk.injEq] at H
    obtain ⟨rfl, rfl, rfl, rfl, rfl, rfl, rfl, rfl, rfl⟩ := H
    have aXi := dY.out
    have aXj := dX.out
    have mJ : wr.cell? ⟨bM, 0, none⟩ = some (.string bT) := (Yf aW.out 0).trans rfl
    have mK : wr.cell? ⟨bM, 1, none⟩ = some (.string bP) := (Yf aW.out 1).trans rfl
    have mL : wr.cell? ⟨bM, 2, none⟩ = some (.int .i64 bL) := (Yf aW.out 2).trans rfl
    have mM : wr.cell? ⟨bM, 3, none⟩ = some (.string bI) := (Yf aW.out 3).trans rfl
    have mN : wr.cell? ⟨bM, 4, none⟩ = some (.string bD) := (Yf aW.out 4).trans rfl
    have mO : wr.cell? ⟨bM, 5, none⟩ = some (.string bC) := (Yf aW.out 5).trans rfl
    have mP : wr.cell? ⟨bM, 6, none⟩ = some (.bool aY) := (Yf aW.out 6).trans rfl
    have mQ : wr.cell? ⟨bM, 7, none⟩ = some (.bool aT) := (Yf aW.out 7).trans rfl
    have mR := Ye aW.out 0
    have mS := Ye aW.out 1
    have mT := Ye aW.out 2
    have mU := Ye aW.out 3
    have mV := Ye aW.out 4
    have mW := Ye aW.out 5
    have mX := Ye aW.out 6
    have mY := Ye aW.out 7
    go_wp2
    refine bodyPost_ret (Yni rfl _ _ bM 25 #[.string (⟨#[]⟩ : ByteArray), .string (⟨#[]⟩ : ByteArray), .int .i64 0, .string (⟨#[]⟩ : ByteArray), .string (⟨#[]⟩ : ByteArray), .string (⟨#[]⟩ : ByteArray), .bool false, .bool false] (0, 0) _ rfl (by (with_reducible repeat (first | refine Yh ?_ _ | refine Yp ?_ | refine Yn ?_ _)); refine Yna (cs := #[.string (⟨#[]⟩ : ByteArray), .string (⟨#[]⟩ : ByteArray), .int .i64 0, .string (⟨#[]⟩ : ByteArray), .string (⟨#[]⟩ : ByteArray), .string (⟨#[]⟩ : ByteArray), .bool false, .bool aT]) ?_ 7 _ rfl; (with_reducible repeat (first | refine Yh ?_ _ | refine Yp ?_ | refine Yn ?_ _)); refine Yna (cs := #[.string (⟨#[]⟩ : ByteArray), .string (⟨#[]⟩ : ByteArray), .int .i64 0, .string (⟨#[]⟩ : ByteArray), .string (⟨#[]⟩ : ByteArray), .string (⟨#[]⟩ : ByteArray), .bool aY, .bool aT]) ?_ 6 _ rfl; (with_reducible repeat (first | refine Yh ?_ _ | refine Yp ?_ | refine Yn ?_ _)); refine Yna (cs := #[.string (⟨#[]⟩ : ByteArray), .string (⟨#[]⟩ : ByteArray), .int .i64 0, .string (⟨#[]⟩ : ByteArray), .string (⟨#[]⟩ : ByteArray), .string bC, .bool aY, .bool aT]) ?_ 5 _ rfl; (with_reducible repeat (first | refine Yh ?_ _ | refine Yp ?_ | refine Yn ?_ _)); refine Yna (cs := #[.string (⟨#[]⟩ : ByteArray), .string (⟨#[]⟩ : ByteArray), .int .i64 0, .string (⟨#[]⟩ : ByteArray), .string bD, .string bC, .bool aY, .bool aT]) ?_ 4 _ rfl; (with_reducible repeat (first | refine Yh ?_ _ | refine Yp ?_ | refine Yn ?_ _)); refine Yna (cs := #[.string (⟨#[]⟩ : ByteArray), .string (⟨#[]⟩ : ByteArray), .int .i64 0, .string bI, .string bD, .string bC, .bool aY, .bool aT]) ?_ 3 _ rfl; (with_reducible repeat (first | refine Yh ?_ _ | refine Yp ?_ | refine Yn ?_ _)); refine Yna (cs := #[.string (⟨#[]⟩ : ByteArray), .string (⟨#[]⟩ : ByteArray), .int .i64 bL, .string bI, .string bD, .string bC, .bool aY, .bool aT]) ?_ 2 _ rfl; (with_reducible repeat (first | refine Yh ?_ _ | refine Yp ?_ | refine Yn ?_ _)); refine Yna (cs := #[.string (⟨#[]⟩ : ByteArray), .string bP, .int .i64 bL, .string bI, .string bD, .string bC, .bool aY, .bool aT]) ?_ 1 _ rfl; (with_reducible repeat (first | refine Yh ?_ _ | refine Yp ?_ | refine Yn ?_ _)); refine Yna (cs := #[.string bT, .string bP, .int .i64 bL, .string bI, .string bD, .string bC, .bool aY, .bool aT]) ?_ 0 _ rfl; (with_reducible repeat (first | refine Yh ?_ _ | refine Yp ?_ | refine Yn ?_ _)); exact aW.out) Tryz.underlying25 rfl Zi) rfl ?_
    exact ⟨Zl, Zj⟩
   rw [if_neg dD] at H
   have dS : decide (2048 < (aC.size : Int)) = false := decide_eq_false dD
   have oA : decide (2048 < aC.size) = false := decide_eq_false Zk
   clear dD
   replace H := Option.bind_eq_some_iff.mp H
   obtain ⟨⟨zX, zY, aEp⟩, tC, H⟩ := H
   try dsimp -simprocs only at H
   have A15 := Ya.mk tC
   clear tC
   have aGL := Ya.mk H
   clear H
   go_upto_region 7 with (first | ((with_reducible refine Yi (f := 70) rfl ?_); refine Yaa (some 22) rfl rfl Tryz.func70 Zi rfl #[.string aC] rfl Zb ?_; (with_reducible refine (Yla.calls k1 aC zX zY aEp _ ?side1 A15.out).mono ?_); (case side1 => first | exact HE.out | exact EnvOk.below HE.out Zj); rintro e w' ⟨rfl, ⟨nd, rfl⟩⟩; refine ⟨_, rfl, ?_⟩))
   (try simp only [Act.put, List.setIfInBounds_toArray, List.set_cons_zero, List.set_cons_succ])
   go_cut [26] (fun v26 wc => ∃ (kq : Nat) (sC : Bool), v26 = .bool sC ∧ Ya (Yxa.j1 kq aC zX zY aEp sC aE aJ aN aG aM aK aU aV = some (r1, r2, r3, r4, r5, r6, r7, r8, r9)) ∧ Ya (kq ≤ k1) ∧ Ya (wc.heap[bJ]? = some (.cells #[.string aE, .string aJ, .int .i64 aN, .string aG, .string aM, .string aK, .bool aU, .bool aV] 25 (0, 0))) ∧ Ya (wc.heap[bM]? = some (.cells #[.string bT, .string bP, .int .i64 bL, .string bI, .string bD, .string bC, .bool aY, .bool aT] 25 (0, 0))) ∧ Ya (Below w.heap.size w wc))
   case first =>
    have H := aGL.out
    clear aGL
    by_cases eF : aEp = true
    ·subst eF
     rw [if_pos rfl] at H
     have H' := Ya.mk H
     clear H
     go_wp2
     go_meet
     case rel => exact ⟨_, (false), Zf, H', ⟨Zia⟩, ⟨Zo⟩, ⟨Zr⟩, ⟨Zj⟩⟩
    replace eF := Bool.eq_false_iff.mpr eF
    subst eF
    rw [if_neg (show ¬ (false = true) by decide)] at H
    replace H := Option.bind_eq_some_iff.mp H
    obtain ⟨uH, aCk, H⟩ := H
    try dsimp -simprocs only at H
    have A18 := Ya.mk aCk
    clear aCk
    have H' := Ya.mk H
    clear H
    go_wp2_with (first | (go_at_call 71; (with_reducible refine (Yvb.calls k1 aC uH _ ?side1 A18.out).mono ?_); (case side1 => first | exact HE.out | exact EnvOk.below HE.out Zj); rintro e w19 ⟨rfl, hb⟩; have aH := Ya.mk (Ykb (g := bJ) (o := .cells #[.string aE, .string aJ, .int .i64 aN, .string aG, .string aM, .string aK, .bool aU, .bool aV] 25 (0, 0)) Zo hb); have aR := Ya.mk (Ykb (g := bM) (o := .cells #[.string bT, .string bP, .int .i64 bL, .string bI, .string bD, .string bC, .bool aY, .bool aT] 25 (0, 0)) Zr hb); have bK := Ya.mk (Yt Zj hb); clear aQ; clear aW; clear HB; have aQ := aH; have aW := aR; have HB := bK; clear aH aR bK; (try clear hb); (try clear bU); (try clear hk); (try clear hi)))
    go_meet
    case rel => exact ⟨_, ((uH == 2)), Zf, H', ⟨Zia⟩, ⟨Zo⟩, ⟨Zr⟩, ⟨Zj⟩⟩
   case rest =>
    clear aGL
    try clear c1
    try clear c2
    try clear p2
    try clear c3
    try clear c4
    try clear c7
    try clear c8
    try clear dD
    try clear dS
    try clear oA
    try clear eL
    try clear eF
    try clear mJ
    try clear mK
    try clear mL
    try clear mM
    try clear mN
    try clear mO
    try clear mP
    try clear mQ
    try clear rL
    try clear rM
    try clear rN
    try clear rO
    try clear rP
    try clear rQ
    try clear rR
    try clear rS
    try clear mR
    try clear mS
    try clear mT
    try clear mU
    try clear mV
    try clear mW
    try clear mX
    try clear mY
    try clear rT
    try clear rU
    try clear rV
    try clear rW
    try clear rX
    try clear rY
    try clear rZ
    try clear sA
    try clear p2
    obtain ⟨kq, sC, rfl, HA, aEq, aQ, aW, HB⟩ := hcut
    cases kq with
    | zero => exact absurd HA.out (by simp [Yxa.j1])
    | succ aGM =>
     have H := HA.out
     clear HA
     simp only [Yxa.j1] at H
     by_cases gV : sC = true
     ·subst gV
      rw [if_pos rfl] at H
      by_cases mH : aE.size + 1 ≤ 9223372036854775807
      rotate_left
      ·rw [if_neg mH] at H
       exact absurd H Zv
      rw [if_pos mH] at H
      have yW := eq_true mH
      have aBP : decide (aE.size + 1 ≤ 9223372036854775807) = true := decide_eq_true mH
      try have aKw : (9223372036854775807 < aE.size + 1) = False := eq_false (Nat.not_lt.2 mH)
      by_cases iD : (aE ++ (⟨#[58]⟩ : ByteArray)).size + aC.size ≤ 9223372036854775807
      rotate_left
      ·rw [if_neg iD] at H
       exact absurd H Zv
      rw [if_pos iD] at H
      have lJ := eq_true iD
      have oH : decide ((aE ++ (⟨#[58]⟩ : ByteArray)).size + aC.size ≤ 9223372036854775807) = true := decide_eq_true iD
      try have aKx : (9223372036854775807 < (aE ++ (⟨#[58]⟩ : ByteArray)).size + aC.size) = False := eq_false (Nat.not_lt.2 iD)
      replace H := Option.bind_eq_some_iff.mp H
      obtain ⟨⟨sD, uI, vN, zZ, aCs, aEr, aGN, aKy, aWn⟩, aBE, H⟩ := H
      try dsimp -simprocs only at H
      have A23 := Ya.mk aBE
      clear aBE
      simp only [Option.some.injEq, Prod.mk.injEq] at H
      obtain ⟨rfl, rfl, rfl, rfl, rfl, rfl, rfl, rfl, rfl⟩ := H
      have aXk := dX.out
      have aXl := dY.out
      have qM : wc.cell? ⟨bJ, 0, none⟩ = some (.string aE) := (Yf aQ.out 0).trans rfl
      have qN : wc.cell? ⟨bJ, 1, none⟩ = some (.string aJ) := (Yf aQ.out 1).trans rfl
      have qO : wc.cell? ⟨bJ, 2, none⟩ = some (.int .i64 aN) := (Yf aQ.out 2).trans rfl
      have qP : wc.cell? ⟨bJ, 3, none⟩ = some (.string aG) := (Yf aQ.out 3).trans rfl
      have qQ : wc.cell? ⟨bJ, 4, none⟩ = some (.string aM) := (Yf aQ.out 4).trans rfl
      have qR : wc.cell? ⟨bJ, 5, none⟩ = some (.string aK) := (Yf aQ.out 5).trans rfl
      have qS : wc.cell? ⟨bJ, 6, none⟩ = some (.bool aU) := (Yf aQ.out 6).trans rfl
      have qT : wc.cell? ⟨bJ, 7, none⟩ = some (.bool aV) := (Yf aQ.out 7).trans rfl
      have qU := Ye aQ.out 0
      have qV := Ye aQ.out 1
      have qW := Ye aQ.out 2
      have qX := Ye aQ.out 3
      have qY := Ye aQ.out 4
      have qZ := Ye aQ.out 5
      have rA := Ye aQ.out 6
      have rB := Ye aQ.out 7
      go_wp2_with (first | ((with_reducible refine Yi (f := 15) rfl ?_); refine Yaa (some 39) rfl rfl Tryz.func15 Zi rfl #[.string ((aE ++ (⟨#[58]⟩ : ByteArray)) ++ aC)] rfl Zb ?_; (with_reducible refine (Yqd.calls aGM ((aE ++ (⟨#[58]⟩ : ByteArray)) ++ aC) sD uI vN zZ aCs aEr aGN aKy aWn _ ?side1 A23.out).mono ?_); (case side1 => first | exact HE.out | exact EnvOk.below HE.out Zj); rintro e w26 ⟨rfl, hb⟩; refine ⟨_, rfl, ?_⟩; have aH := Ya.mk (Ykb (g := bJ) (o := .cells #[.string aE, .string aJ, .int .i64 aN, .string aG, .string aM, .string aK, .bool aU, .bool aV] 25 (0, 0)) Zo hb); have aR := Ya.mk (Ykb (g := bM) (o := .cells #[.string bT, .string bP, .int .i64 bL, .string bI, .string bD, .string bC, .bool aY, .bool aT] 25 (0, 0)) Zr hb); have bK := Ya.mk (Yt Zj hb); clear aQ; clear aW; clear HB; have aQ := aH; have aW := aR; have HB := bK; clear aH aR bK; (try clear hb); (try clear bU); (try clear hk); (try clear hi); have wD : w26.cell? ⟨bM, 0, none⟩ = some (.string bT) := (Yf aW.out 0).trans rfl; have wE : w26.cell? ⟨bM, 1, none⟩ = some (.string bP) := (Yf aW.out 1).trans rfl; have wF : w26.cell? ⟨bM, 2, none⟩ = some (.int .i64 bL) := (Yf aW.out 2).trans rfl; have wG : w26.cell? ⟨bM, 3, none⟩ = some (.string bI) := (Yf aW.out 3).trans rfl; have wH : w26.cell? ⟨bM, 4, none⟩ = some (.string bD) := (Yf aW.out 4).trans rfl; have wI : w26.cell? ⟨bM, 5, none⟩ = some (.string bC) := (Yf aW.out 5).trans rfl; have wJ : w26.cell? ⟨bM, 6, none⟩ = some (.bool aY) := (Yf aW.out 6).trans rfl; have wK : w26.cell? ⟨bM, 7, none⟩ = some (.bool aT) := (Yf aW.out 7).trans rfl; have wL := Ye aW.out 0; have wM := Ye aW.out 1; have wN := Ye aW.out 2; have wO := Ye aW.out 3; have wP := Ye aW.out 4; have wQ := Ye aW.out 5; have wR := Ye aW.out 6; have wS := Ye aW.out 7))
      refine bodyPost_ret (Yni rfl _ _ bM 25 #[.string sD, .string uI, .int .i64 vN, .string zZ, .string aCs, .string aEr, .bool aGN, .bool aKy] (0, 0) _ rfl (by (with_reducible repeat (first | refine Yh ?_ _ | refine Yp ?_ | refine Yn ?_ _)); refine Yna (cs := #[.string sD, .string uI, .int .i64 vN, .string zZ, .string aCs, .string aEr, .bool aGN, .bool aT]) ?_ 7 _ rfl; (with_reducible repeat (first | refine Yh ?_ _ | refine Yp ?_ | refine Yn ?_ _)); refine Yna (cs := #[.string sD, .string uI, .int .i64 vN, .string zZ, .string aCs, .string aEr, .bool aY, .bool aT]) ?_ 6 _ rfl; (with_reducible repeat (first | refine Yh ?_ _ | refine Yp ?_ | refine Yn ?_ _)); refine Yna (cs := #[.string sD, .string uI, .int .i64 vN, .string zZ, .string aCs, .string bC, .bool aY, .bool aT]) ?_ 5 _ rfl; (with_reducible repeat (first | refine Yh ?_ _ | refine Yp ?_ | refine Yn ?_ _)); refine Yna (cs := #[.string sD, .string uI, .int .i64 vN, .string zZ, .string bD, .string bC, .bool aY, .bool aT]) ?_ 4 _ rfl; (with_reducible repeat (first | refine Yh ?_ _ | refine Yp ?_ | refine Yn ?_ _)); refine Yna (cs := #[.string sD, .string uI, .int .i64 vN, .string bI, .string bD, .string bC, .bool aY, .bool aT]) ?_ 3 _ rfl; (with_reducible repeat (first | refine Yh ?_ _ | refine Yp ?_ | refine Yn ?_ _)); refine Yna (cs := #[.string sD, .string uI, .int .i64 bL, .string bI, .string bD, .string bC, .bool aY, .bool aT]) ?_ 2 _ rfl; (with_reducible repeat (first | refine Yh ?_ _ | refine Yp ?_ | refine Yn ?_ _)); refine Yna (cs := #[.string sD, .string bP, .int .i64 bL, .string bI, .string bD, .string bC, .bool aY, .bool aT]) ?_ 1 _ rfl; (with_reducible repeat (first | refine Yh ?_ _ | refine Yp ?_ | refine Yn ?_ _)); refine Yna (cs := #[.string bT, .string bP, .int .i64 bL, .string bI, .string bD, .string bC, .bool aY, .bool aT]) ?_ 0 _ rfl; (with_reducible repeat (first | refine Yh ?_ _ | refine Yp ?_ | refine Yn ?_ _)); exact aW.out) Tryz.underlying25 rfl Zi) rfl ?_
      exact ⟨Zl, Zj⟩
     replace gV := Bool.eq_false_iff.mpr gV
     subst gV
     rw [if_neg (show ¬ (false = true) by decide)] at H
     by_cases c28 : aEp = true
     rotate_left
     ·replace c28 := Bool.eq_false_iff.mpr c28
      subst c28
      rw [if_neg (show ¬ (false = true) by decide)] at H
      replace H := Option.bind_eq_some_iff.mp H
      obtain ⟨⟨sE, uJ, vO, aAa, aCt, aEs, aGO, aKz, aWo⟩, aKA, H⟩ := H
      try dsimp -simprocs only at H
      have A47 := Ya.mk aKA
      clear aKA
      simp only [Option.some.injEq, Prod.mk.injEq] at H
      obtain ⟨rfl, rfl, rfl, rfl, rfl, rfl, rfl, rfl, rfl⟩ := H
      have aXm := dX.out
      have aXn := dY.out
      have aTG : wc.cell? ⟨bJ, 0, none⟩ = some (.string aE) := (Yf aQ.out 0).trans rfl
      have aTH : wc.cell? ⟨bJ, 1, none⟩ = some (.string aJ) := (Yf aQ.out 1).trans rfl
      have aTI : wc.cell? ⟨bJ, 2, none⟩ = some (.int .i64 aN) := (Yf aQ.out 2).trans rfl
      have aTJ : wc.cell? ⟨bJ, 3, none⟩ = some (.string aG) := (Yf aQ.out 3).trans rfl
      have aTK : wc.cell? ⟨bJ, 4, none⟩ = some (.string aM) := (Yf aQ.out 4).trans rfl
      have aTL : wc.cell? ⟨bJ, 5, none⟩ = some (.string aK) := (Yf aQ.out 5).trans rfl
      have aTM : wc.cell? ⟨bJ, 6, none⟩ = some (.bool aU) := (Yf aQ.out 6).trans rfl
      have aTN : wc.cell? ⟨bJ, 7, none⟩ = some (.bool aV) := (Yf aQ.out 7).trans rfl
      have aTO := Ye aQ.out 0
      have aTP := Ye aQ.out 1
      have aTQ := Ye aQ.out 2
      have aTR := Ye aQ.out 3
      have aTS := Ye aQ.out 4
      have aTT := Ye aQ.out 5
      have aTU := Ye aQ.out 6
      have aTV := Ye aQ.out 7
      go_wp2_with (first | ((with_reducible refine Yi (f := 72) rfl ?_); refine Yaa (some 47) rfl rfl Tryz.func72 Zi rfl #[.agg #[.string aE, .string aJ, .int .i64 aN, .string aG, .string aM, .string aK, .bool aU, .bool aV], .string aC] rfl Zb ?_; (with_reducible refine (Ysf.calls aE aJ aN aG aM aK aU aV aC sE uJ vO aAa aCt aEs aGO aKz aWo _ ?side1 A47.out).mono ?_); (case side1 => first | exact HE.out | exact EnvOk.below HE.out Zj); rintro e w50 ⟨rfl, hb⟩; refine ⟨_, rfl, ?_⟩; have aH := Ya.mk (Ykb (g := bJ) (o := .cells #[.string aE, .string aJ, .int .i64 aN, .string aG, .string aM, .string aK, .bool aU, .bool aV] 25 (0, 0)) Zo hb); have aR := Ya.mk (Ykb (g := bM) (o := .cells #[.string bT, .string bP, .int .i64 bL, .string bI, .string bD, .string bC, .bool aY, .bool aT] 25 (0, 0)) Zr hb); have bK := Ya.mk (Yt Zj hb); clear aQ; clear aW; clear HB; have aQ := aH; have aW := aR; have HB := bK; clear aH aR bK; (try clear hb); (try clear bU); (try clear hk); (try clear hi); have aTW : w50.cell? ⟨bM, 0, none⟩ = some (.string bT) := (Yf aW.out 0).trans rfl; have aTX : w50.cell? ⟨bM, 1, none⟩ = some (.string bP) := (Yf aW.out 1).trans rfl; have aTY : w50.cell? ⟨bM, 2, none⟩ = some (.int .i64 bL) := (Yf aW.out 2).trans rfl; have aTZ : w50.cell? ⟨bM, 3, none⟩ = some (.string bI) := (Yf aW.out 3).trans rfl; have aUa : w50.cell? ⟨bM, 4, none⟩ = some (.string bD) := (Yf aW.out 4).trans rfl; have aUb : w50.cell? ⟨bM, 5, none⟩ = some (.string bC) := (Yf aW.out 5).trans rfl; have aUc : w50.cell? ⟨bM, 6, none⟩ = some (.bool aY) := (Yf aW.out 6).trans rfl; have aUd : w50.cell? ⟨bM, 7, none⟩ = some (.bool aT) := (Yf aW.out 7).trans rfl; have aUe := Ye aW.out 0; have aUf := Ye aW.out 1; have aUg := Ye aW.out 2; have aUh := Ye aW.out 3; have aUi := Ye aW.out 4; have aUj := Ye aW.out 5; have aUk := Ye aW.out 6; have aUl := Ye aW.out 7))
      refine bodyPost_ret (Yni rfl _ _ bM 25 #[.string sE, .string uJ, .int .i64 vO, .string aAa, .string aCt, .string aEs, .bool aGO, .bool aKz] (0, 0) _ rfl (by (with_reducible repeat (first | refine Yh ?_ _ | refine Yp ?_ | refine Yn ?_ _)); refine Yna (cs := #[.string sE, .string uJ, .int .i64 vO, .string aAa, .string aCt, .string aEs, .bool aGO, .bool aT]) ?_ 7 _ rfl; (with_reducible repeat (first | refine Yh ?_ _ | refine Yp ?_ | refine Yn ?_ _)); refine Yna (cs := #[.string sE, .string uJ, .int .i64 vO, .string aAa, .string aCt, .string aEs, .bool aY, .bool aT]) ?_ 6 _ rfl; (with_reducible repeat (first | refine Yh ?_ _ | refine Yp ?_ | refine Yn ?_ _)); refine Yna (cs := #[.string sE, .string uJ, .int .i64 vO, .string aAa, .string aCt, .string bC, .bool aY, .bool aT]) ?_ 5 _ rfl; (with_reducible repeat (first | refine Yh ?_ _ | refine Yp ?_ | refine Yn ?_ _)); refine Yna (cs := #[.string sE, .string uJ, .int .i64 vO, .string aAa, .string bD, .string bC, .bool aY, .bool aT]) ?_ 4 _ rfl; (with_reducible repeat (first | refine Yh ?_ _ | refine Yp ?_ | refine Yn ?_ _)); refine Yna (cs := #[.string sE, .string uJ, .int .i64 vO, .string bI, .string bD, .string bC, .bool aY, .bool aT]) ?_ 3 _ rfl; (with_reducible repeat (first | refine Yh ?_ _ | refine Yp ?_ | refine Yn ?_ _)); refine Yna (cs := #[.string sE, .string uJ, .int .i64 bL, .string bI, .string bD, .string bC, .bool aY, .bool aT]) ?_ 2 _ rfl; (with_reducible repeat (first | refine Yh ?_ _ | refine Yp ?_ | refine Yn ?_ _)); refine Yna (cs := #[.string sE, .string bP, .int .i64 bL, .string bI, .string bD, .string bC, .bool aY, .bool aT]) ?_ 1 _ rfl; (with_reducible repeat (first | refine Yh ?_ _ | refine Yp ?_ | refine Yn ?_ _)); refine Yna (cs := #[.string bT, .string bP, .int .i64 bL, .string bI, .string bD, .string bC, .bool aY, .bool aT]) ?_ 0 _ rfl; (with_reducible repeat (first | refine Yh ?_ _ | refine Yp ?_ | refine Yn ?_ _)); exact aW.out) Tryz.underlying25 rfl Zi) rfl ?_
      exact ⟨Zl, Zj⟩
     subst c28
     rw [if_pos rfl] at H
     have aGP := Ya.mk H
     clear H
     go_upto_region 11 with (fail)
     go_cut [50] (fun v50 wc => ∃ (kq : Nat) (sF : Bool), v50 = .bool sF ∧ Ya (Yxa.j2 kq aC zY sF aE aJ aN aG aM aK aU aV = some (r1, r2, r3, r4, r5, r6, r7, r8, r9)) ∧ Ya (kq ≤ aGM) ∧ Ya (wc.heap[bJ]? = some (.cells #[.string aE, .string aJ, .int .i64 aN, .string aG, .string aM, .string aK, .bool aU, .bool aV] 25 (0, 0))) ∧ Ya (wc.heap[bM]? = some (.cells #[.string bT, .string bP, .int .i64 bL, .string bI, .string bD, .string bC, .bool aY, .bool aT] 25 (0, 0))) ∧ Ya (Below w.heap.size w wc))
     case first =>
      have H := aGP.out
      clear aGP
      replace H := Option.bind_eq_some_iff.mp H
      obtain ⟨aGK, aBL, H⟩ := H
      try dsimp -simprocs only at H
      have iY := Ya.mk aBL
      clear aBL
      by_cases rD : aGK = true
      rotate_left
      ·replace rD := Bool.eq_false_iff.mpr rD
       subst rD
       rw [if_neg (show ¬ (false = true) by decide)] at H
       have H' := Ya.mk H
       clear H
       have aXo := dX.out
       have aXp := dY.out
       have xJ : wc.cell? ⟨bJ, 0, none⟩ = some (.string aE) := (Yf aQ.out 0).trans rfl
       have xK : wc.cell? ⟨bJ, 1, none⟩ = some (.string aJ) := (Yf aQ.out 1).trans rfl
       have xL : wc.cell? ⟨bJ, 2, none⟩ = some (.int .i64 aN) := (Yf aQ.out 2).trans rfl
       have xM : wc.cell? ⟨bJ, 3, none⟩ = some (.string aG) := (Yf aQ.out 3).trans rfl
       have xN : wc.cell? ⟨bJ, 4, none⟩ = some (.string aM) := (Yf aQ.out 4).trans rfl
       have xO : wc.cell? ⟨bJ, 5, none⟩ = some (.string aK) := (Yf aQ.out 5).trans rfl
       have xP : wc.cell? ⟨bJ, 6, none⟩ = some (.bool aU) := (Yf aQ.out 6).trans rfl
       have xQ : wc.cell? ⟨bJ, 7, none⟩ = some (.bool aV) := (Yf aQ.out 7).trans rfl
       have xR := Ye aQ.out 0
       have xS := Ye aQ.out 1
       have xT := Ye aQ.out 2
       have xU := Ye aQ.out 3
       have xV := Ye aQ.out 4
       have xW := Ye aQ.out 5
       have xX := Ye aQ.out 6
       have xY := Ye aQ.out 7
       go_wp2_with (first | ((with_reducible refine Yi (f := 73) rfl ?_); refine Yaa (some 54) rfl rfl Tryz.func73 Zi rfl #[.string zX, .string aE] rfl Zb ?_; (with_reducible refine (Ycg.calls zX aE false _ ?side1 iY.out).mono ?_); (case side1 => first | exact HE.out | exact EnvOk.below HE.out Zj); rintro e w39 ⟨rfl, hb⟩; refine ⟨_, rfl, ?_⟩; have aH := Ya.mk (Ykb (g := bJ) (o := .cells #[.string aE, .string aJ, .int .i64 aN, .string aG, .string aM, .string aK, .bool aU, .bool aV] 25 (0, 0)) Zo hb); have aR := Ya.mk (Ykb (g := bM) (o := .cells #[.string bT, .string bP, .int .i64 bL, .string bI, .string bD, .string bC, .bool aY, .bool aT] 25 (0, 0)) Zr hb); have bK := Ya.mk (Yt Zj hb); clear aQ; clear aW; clear HB; have aQ := aH; have aW := aR; have HB := bK; clear aH aR bK; (try clear hb); (try clear bU); (try clear hk); (try clear hi)))
       go_meet
       case rel => exact ⟨_, (true), Zf, H', ⟨by have := cU.out; have := aEq.out; first | omega | exact Nat.le_refl _⟩, ⟨Zo⟩, ⟨Zr⟩, ⟨Zj⟩⟩
      subst rD
      rw [if_pos rfl] at H
      replace H := Option.bind_eq_some_iff.mp H
      obtain ⟨aEn, aKB, H⟩ := H
      try dsimp -simprocs only at H
      have A32 := Ya.mk aKB
      clear aKB
      have H' := Ya.mk H
      clear H
      have aXq := dX.out
      have aXr := dY.out
      have xZ : wc.cell? ⟨bJ, 0, none⟩ = some (.string aE) := (Yf aQ.out 0).trans rfl
      have yA : wc.cell? ⟨bJ, 1, none⟩ = some (.string aJ) := (Yf aQ.out 1).trans rfl
      have yB : wc.cell? ⟨bJ, 2, none⟩ = some (.int .i64 aN) := (Yf aQ.out 2).trans rfl
      have yC : wc.cell? ⟨bJ, 3, none⟩ = some (.string aG) := (Yf aQ.out 3).trans rfl
      have yD : wc.cell? ⟨bJ, 4, none⟩ = some (.string aM) := (Yf aQ.out 4).trans rfl
      have yE : wc.cell? ⟨bJ, 5, none⟩ = some (.string aK) := (Yf aQ.out 5).trans rfl
      have yF : wc.cell? ⟨bJ, 6, none⟩ = some (.bool aU) := (Yf aQ.out 6).trans rfl
      have yG : wc.cell? ⟨bJ, 7, none⟩ = some (.bool aV) := (Yf aQ.out 7).trans rfl
      have yH := Ye aQ.out 0
      have yI := Ye aQ.out 1
      have yJ := Ye aQ.out 2
      have yK := Ye aQ.out 3
      have yL := Ye aQ.out 4
      have yM := Ye aQ.out 5
      have yN := Ye aQ.out 6
      have yO := Ye aQ.out 7
      go_wp2_with (first | ((with_reducible refine Yi (f := 73) rfl ?_); refine Yaa (some 54) rfl rfl Tryz.func73 Zi rfl #[.string zX, .string aE] rfl Zb ?_; (with_reducible refine (Ycg.calls zX aE true _ ?side1 iY.out).mono ?_); (case side1 => first | exact HE.out | exact EnvOk.below HE.out Zj); rintro e yP ⟨rfl, hb⟩; refine ⟨_, rfl, ?_⟩; have aH := Ya.mk (Ykb (g := bJ) (o := .cells #[.string aE, .string aJ, .int .i64 aN, .string aG, .string aM, .string aK, .bool aU, .bool aV] 25 (0, 0)) Zo hb); have aR := Ya.mk (Ykb (g := bM) (o := .cells #[.string bT, .string bP, .int .i64 bL, .string bI, .string bD, .string bC, .bool aY, .bool aT] 25 (0, 0)) Zr hb); have bK := Ya.mk (Yt Zj hb); clear aQ; clear aW; clear HB; have aQ := aH; have aW := aR; have HB := bK; clear aH aR bK; (try clear hb); (try clear bU); (try clear hk); (try clear hi)) | (go_at_call 71; (with_reducible refine (Yvb.calls aGM zY aEn _ ?side1 A32.out).mono ?_); (case side1 => first | exact HE.out | exact EnvOk.below HE.out Zj); rintro e w36 ⟨rfl, hb⟩; have aH := Ya.mk (Ykb (g := bJ) (o := .cells #[.string aE, .string aJ, .int .i64 aN, .string aG, .string aM, .string aK, .bool aU, .bool aV] 25 (0, 0)) Zo hb); have aR := Ya.mk (Ykb (g := bM) (o := .cells #[.string bT, .string bP, .int .i64 bL, .string bI, .string bD, .string bC, .bool aY, .bool aT] 25 (0, 0)) Zr hb); have bK := Ya.mk (Yt Zj hb); clear aQ; clear aW; clear HB; have aQ := aH; have aW := aR; have HB := bK; clear aH aR bK; (try clear hb); (try clear bU); (try clear hk); (try clear hi)))
      go_meet
      case rel => exact ⟨_, (decide (aEn > 0)), Zf, H', ⟨by have := cU.out; have := aEq.out; first | omega | exact Nat.le_refl _⟩, ⟨Zo⟩, ⟨Zr⟩, ⟨Zj⟩⟩
     case rest =>
      clear aGP
      try clear c1
      try clear c2
      try clear p2
      try clear c3
      try clear c4
      try clear c7
      try clear c8
      try clear dD
      try clear dS
      try clear oA
      try clear eL
      try clear dG
      try clear eF
      try clear gV
      try clear mH
      try clear yW
      try clear aBP
      try clear aKw
      try clear iD
      try clear lJ
      try clear oH
      try clear aKx
      try clear jX
      try clear c27
      try clear c28
      try clear rD
      try clear c33
      try clear c37
      try clear mJ
      try clear mK
      try clear mL
      try clear mM
      try clear mN
      try clear mO
      try clear mP
      try clear mQ
      try clear qM
      try clear qN
      try clear qO
      try clear qP
      try clear qQ
      try clear qR
      try clear qS
      try clear qT
      try clear wD
      try clear wE
      try clear wF
      try clear wG
      try clear wH
      try clear wI
      try clear wJ
      try clear wK
      try clear xZ
      try clear yA
      try clear yB
      try clear yC
      try clear yD
      try clear yE
      try clear yF
      try clear yG
      try clear xJ
      try clear xK
      try clear xL
      try clear xM
      try clear xN
      try clear xO
      try clear xP
      try clear xQ
      try clear rL
      try clear rM
      try clear rN
      try clear rO
      try clear rP
      try clear rQ
      try clear rR
      try clear rS
      try clear mR
      try clear mS
      try clear mT
      try clear mU
      try clear mV
      try clear mW
      try clear mX
      try clear mY
      try clear qU
      try clear qV
      try clear qW
      try clear qX
      try clear qY
      try clear qZ
      try clear rA
      try clear rB
      try clear wL
      try clear wM
      try clear wN
      try clear wO
      try clear wP
      try clear wQ
      try clear wR
      try clear wS
      try clear yH
      try clear yI
      try clear yJ
      try clear yK
      try clear yL
      try clear yM
      try clear yN
      try clear yO
      try clear xR
      try clear xS
      try clear xT
      try clear xU
      try clear xV
      try clear xW
      try clear xX
      try clear xY
      try clear rT
      try clear rU
      try clear rV
      try clear rW
      try clear rX
      try clear rY
      try clear rZ
      try clear sA
      try clear p2
      obtain ⟨kq, sF, rfl, HA, aKC, aQ, aW, HB⟩ := hcut
      cases kq with
      | zero => exact absurd HA.out (by simp [Yxa.j2])
      | succ aKD =>
       have H := HA.out
       clear HA
       simp only [Yxa.j2] at H
       by_cases c40 : sF = true
       rotate_left
       ·replace c40 := Bool.eq_false_iff.mpr c40
        subst c40
        rw [if_neg (show ¬ (false = true) by decide)] at H
        replace H := Option.bind_eq_some_iff.mp H
        obtain ⟨aEo, aKE, H⟩ := H
        try dsimp -simprocs only at H
        have A45 := Ya.mk aKE
        clear aKE
        have H' := Ya.mk H
        clear H
        go_wp2_with (first | ((with_reducible refine Yi (f := 21) rfl ?_); refine Yaa (some 66) rfl rfl Tryz.func21 Zi rfl #[.string zY] rfl Zb ?_; (with_reducible refine (Yvd.calls zY aEo _ ?side1 A45.out).mono ?_); (case side1 => first | exact HE.out | exact EnvOk.below HE.out Zj); rintro e w46 ⟨rfl, hb⟩; refine ⟨_, rfl, ?_⟩; have aH := Ya.mk (Ykb (g := bJ) (o := .cells #[.string aE, .string aJ, .int .i64 aN, .string aG, .string aM, .string aK, .bool aU, .bool aV] 25 (0, 0)) Zo hb); have aR := Ya.mk (Ykb (g := bM) (o := .cells #[.string bT, .string bP, .int .i64 bL, .string bI, .string bD, .string bC, .bool aY, .bool aT] 25 (0, 0)) Zr hb); have bK := Ya.mk (Yt Zj hb); clear aQ; clear aW; clear HB; have aQ := aH; have aW := aR; have HB := bK; clear aH aR bK; (try clear hb); (try clear bU); (try clear hk); (try clear hi)))
        go_roundg aKD
        case measure => have := cU.out; have := aEq.out; have := aKC.out; omega
        case rel => exact ⟨(aEo), (bT), (bP), (bL), (bI), (bD), (bC), (aY), (aT), Zf, H', ⟨by have := cU.out; have := aEq.out; have := aKC.out; omega⟩, ⟨Zo⟩, ⟨Zr⟩, ⟨Zj⟩⟩
       subst c40
       rw [if_pos rfl] at H
       replace H := Option.bind_eq_some_iff.mp H
       obtain ⟨⟨sG, uK, vP, aAb, aCu, aEt, aGQ, aKF, aWp⟩, aKG, H⟩ := H
       try dsimp -simprocs only at H
       have A41 := Ya.mk aKG
       clear aKG
       simp only [Option.some.injEq, Prod.mk.injEq] at H
       obtain ⟨rfl, rfl, rfl, rfl, rfl, rfl, rfl, rfl, rfl⟩ := H
       go_wp2_with (first | ((with_reducible refine Yi (f := 15) rfl ?_); refine Yaa (some 62) rfl rfl Tryz.func15 Zi rfl #[.string aC] rfl Zb ?_; (with_reducible refine (Yqd.calls aKD aC sG uK vP aAb aCu aEt aGQ aKF aWp _ ?side1 A41.out).mono ?_); (case side1 => first | exact HE.out | exact EnvOk.below HE.out Zj); rintro e w42 ⟨rfl, hb⟩; refine ⟨_, rfl, ?_⟩; have aH := Ya.mk (Ykb (g := bJ) (o := .cells #[.string aE, .string aJ, .int .i64 aN, .string aG, .string aM, .string aK, .bool aU, .bool aV] 25 (0, 0)) Zo hb); have aR := Ya.mk (Ykb (g := bM) (o := .cells #[.string bT, .string bP, .int .i64 bL, .string bI, .string bD, .string bC, .bool aY, .bool aT] 25 (0, 0)) Zr hb); have bK := Ya.mk (Yt Zj hb); clear aQ; clear aW; clear HB; have aQ := aH; have aW := aR; have HB := bK; clear aH aR bK; (try clear hb); (try clear bU); (try clear hk); (try clear hi); have aXs := dY.out; have aXt := dX.out; have aUm : w42.cell? ⟨bM, 0, none⟩ = some (.string bT) := (Yf aW.out 0).trans rfl; have aUn : w42.cell? ⟨bM, 1, none⟩ = some (.string bP) := (Yf aW.out 1).trans rfl; have aUo : w42.cell? ⟨bM, 2, none⟩ = some (.int .i64 bL) := (Yf aW.out 2).trans rfl; have aUp : w42.cell? ⟨bM, 3, none⟩ = some (.string bI) := (Yf aW.out 3).trans rfl; have aUq : w42.cell? ⟨bM, 4, none⟩ = some (.string bD) := (Yf aW.out 4).trans rfl; have aUr : w42.cell? ⟨bM, 5, none⟩ = some (.string bC) := (Yf aW.out 5).trans rfl; have aUs : w42.cell? ⟨bM, 6, none⟩ = some (.bool aY) := (Yf aW.out 6).trans rfl; have aUt : w42.cell? ⟨bM, 7, none⟩ = some (.bool aT) := (Yf aW.out 7).trans rfl; have aUu := Ye aW.out 0; have aUv := Ye aW.out 1; have aUw := Ye aW.out 2; have aUx := Ye aW.out 3; have aUy := Ye aW.out 4; have aUz := Ye aW.out 5; have aUA := Ye aW.out 6; have aUB := Ye aW.out 7))
       refine bodyPost_ret (Yni rfl _ _ bM 25 #[.string sG, .string uK, .int .i64 vP, .string aAb, .string aCu, .string aEt, .bool aGQ, .bool aKF] (0, 0) _ rfl (by (with_reducible repeat (first | refine Yh ?_ _ | refine Yp ?_ | refine Yn ?_ _)); refine Yna (cs := #[.string sG, .string uK, .int .i64 vP, .string aAb, .string aCu, .string aEt, .bool aGQ, .bool aT]) ?_ 7 _ rfl; (with_reducible repeat (first | refine Yh ?_ _ | refine Yp ?_ | refine Yn ?_ _)); refine Yna (cs := #[.string sG, .string uK, .int .i64 vP, .string aAb, .string aCu, .string aEt, .bool aY, .bool aT]) ?_ 6 _ rfl; (with_reducible repeat (first | refine Yh ?_ _ | refine Yp ?_ | refine Yn ?_ _)); refine Yna (cs := #[.string sG, .string uK, .int .i64 vP, .string aAb, .string aCu, .string bC, .bool aY, .bool aT]) ?_ 5 _ rfl; (with_reducible repeat (first | refine Yh ?_ _ | refine Yp ?_ | refine Yn ?_ _)); refine Yna (cs := #[.string sG, .string uK, .int .i64 vP, .string aAb, .string bD, .string bC, .bool aY, .bool aT]) ?_ 4 _ rfl; (with_reducible repeat (first | refine Yh ?_ _ | refine Yp ?_ | refine Yn ?_ _)); refine Yna (cs := #[.string sG, .string uK, .int .i64 vP, .string bI, .string bD, .string bC, .bool aY, .bool aT]) ?_ 3 _ rfl; (with_reducible repeat (first | refine Yh ?_ _ | refine Yp ?_ | refine Yn ?_ _)); refine Yna (cs := #[.string sG, .string uK, .int .i64 bL, .string bI, .string bD, .string bC, .bool aY, .bool aT]) ?_ 2 _ rfl; (with_reducible repeat (first | refine Yh ?_ _ | refine Yp ?_ | refine Yn ?_ _)); refine Yna (cs := #[.string sG, .string bP, .int .i64 bL, .string bI, .string bD, .string bC, .bool aY, .bool aT]) ?_ 1 _ rfl; (with_reducible repeat (first | refine Yh ?_ _ | refine Yp ?_ | refine Yn ?_ _)); refine Yna (cs := #[.string bT, .string bP, .int .i64 bL, .string bI, .string bD, .string bC, .bool aY, .bool aT]) ?_ 0 _ rfl; (with_reducible repeat (first | refine Yh ?_ _ | refine Yp ?_ | refine Yn ?_ _)); exact aW.out) Tryz.underlying25 rfl Zi) rfl ?_
       exact ⟨Zl, Zj⟩
end Go.Proofs.YtnmglnglbdpjjaaGreatDoor.X
