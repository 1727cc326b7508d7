/- Printed by a program of ours: functions as plain Lean, and what a call of each does. -/
import Derived.Test.YtnmglnglbdpjjaaGreatDoorUkWords
import Derived.Test.YtnmglnglbdpjjaaGreatDoorUkX0
import Derived.Test.YtnmglnglbdpjjaaGreatDoorUkX1
import Derived.Test.YtnmglnglbdpjjaaGreatDoorUkX13
import Derived.Test.YtnmglnglbdpjjaaGreatDoorUkX14
import Derived.Test.YtnmglnglbdpjjaaGreatDoorUkQa
import Derived.Test.YtnmglnglbdpjjaaGreatDoorUkH4
import Derived.Test.YtnmglnglbdpjjaaGreatDoorUkZw
namespace Go.Proofs.YtnmglnglbdpjjaaGreatDoor.X
open Go.RowKit Go.Yw.PrintWords Go.Yw.PrintLast Go.Yw.PrintMore
attribute [local go_sem] Yde Yee Ywe Yve Ypd Yod Yce Ybe
set_option linter.unusedVariables false
set_option linter.unusedSimpArgs false
attribute [local go_sem high] eqA25
mutual
def Ywa.l0 : Nat → ByteArray → ByteArray → ByteArray → Int → ByteArray → ByteArray → ByteArray → Bool → Bool → Option (ByteArray × ByteArray × Int × ByteArray × ByteArray × ByteArray × Bool × Bool × Int)
 | 0, _, _, _, _, _, _, _, _, _ => none
 | k + 1, x6, eL, hX, hY, hZ, iA, iB, iC, iD => if (x6.size : Int) > 2048 then (some ((⟨#[]⟩ : ByteArray), (⟨#[]⟩ : ByteArray), 0, (⟨#[]⟩ : ByteArray), (⟨#[]⟩ : ByteArray), (⟨#[]⟩ : ByteArray), false, false, 5)) else ((Yja.f k x6).bind fun dX => (if dX.2.2 = true then (Ywa.j1 k x6 dX.1 dX.2.1 dX.2.2 false eL hX hY hZ iA iB iC iD) else ((Yob.f k x6).bind fun uX => (Ywa.j1 k x6 dX.1 dX.2.1 dX.2.2 (uX == 2) eL hX hY hZ iA iB iC iD))))
def Ywa.j1 : Nat → ByteArray → ByteArray → ByteArray → Bool → Bool → ByteArray → ByteArray → Int → ByteArray → ByteArray → ByteArray → Bool → Bool → Option (ByteArray × ByteArray × Int × ByteArray × ByteArray × ByteArray × Bool × Bool × Int)
 | 0, _, _, _, _, _, _, _, _, _, _, _, _, _ => none
 | k + 1, x6, x7, x8, x9, x26, eL, hX, hY, hZ, iA, iB, iC, iD => if x26 = true then (if eL.size + 1 ≤ 9223372036854775807 then (if (eL ++ (⟨#[58]⟩ : ByteArray)).size + x6.size ≤ 9223372036854775807 then ((Ysd.f k ((eL ++ (⟨#[58]⟩ : ByteArray)) ++ x6)).bind fun kY => (some (kY.1, kY.2.1, kY.2.2.1, kY.2.2.2.1, kY.2.2.2.2.1, kY.2.2.2.2.2.1, kY.2.2.2.2.2.2.1, kY.2.2.2.2.2.2.2.1, kY.2.2.2.2.2.2.2.2))) else (none)) else (none)) else (if x9 = true then ((Yhg.f x7 eL).bind fun aHe => (if aHe = true then ((Yob.f k x8).bind fun aEE => (Ywa.j2 k x6 x8 (decide (aEE > 0)) eL hX hY hZ iA iB iC iD)) else (Ywa.j2 k x6 x8 true eL hX hY hZ iA iB iC iD))) else ((Yvf.f eL hX hY hZ iA iB iC iD x6).bind fun kZ => (some (kZ.1, kZ.2.1, kZ.2.2.1, kZ.2.2.2.1, kZ.2.2.2.2.1, kZ.2.2.2.2.2.1, kZ.2.2.2.2.2.2.1, kZ.2.2.2.2.2.2.2.1, kZ.2.2.2.2.2.2.2.2))))
def Ywa.j2 : Nat → ByteArray → ByteArray → Bool → ByteArray → ByteArray → Int → ByteArray → ByteArray → ByteArray → Bool → Bool → Option (ByteArray × ByteArray × Int × ByteArray × ByteArray × ByteArray × Bool × Bool × Int)
 | 0, _, _, _, _, _, _, _, _, _, _, _ => none
 | k + 1, x6, x8, x50, eL, hX, hY, hZ, iA, iB, iC, iD => if x50 = true then ((Ysd.f k x6).bind fun lA => (some (lA.1, lA.2.1, lA.2.2.1, lA.2.2.2.1, lA.2.2.2.2.1, lA.2.2.2.2.2.1, lA.2.2.2.2.2.2.1, lA.2.2.2.2.2.2.2.1, lA.2.2.2.2.2.2.2.2))) else ((Yxd.f x8).bind fun aEF => (Ywa.l0 k aEF eL hX hY hZ iA iB iC iD))
end
def Ywa.f (k : Nat) (aC aH : ByteArray) (aJ : Int) (aG aI aK : ByteArray) (aQ aR : Bool) (a1 : ByteArray) : Option (ByteArray × ByteArray × Int × ByteArray × ByteArray × ByteArray × Bool × Bool × Int) := (Ynd.f k aC aH aJ aG aI aK aQ aR).bind fun aCQ => (if aCQ = true then ((Yxd.f a1).bind fun aAF => (Ywa.l0 k aAF aC aH aJ aG aI aK aQ aR)) else (some ((⟨#[]⟩ : ByteArray), (⟨#[]⟩ : ByteArray), 0, (⟨#[]⟩ : ByteArray), (⟨#[]⟩ : ByteArray), (⟨#[]⟩ : ByteArray), false, false, 1)))
set_option maxHeartbeats 8000000 in
set_option maxRecDepth 100000 in
theorem Ywa.calls (k : Nat) (aC aH : ByteArray) (aJ : Int) (aG aI aK : ByteArray) (aQ aR : Bool) (a1 r1 r2 : ByteArray) (r3 : Int) (r4 r5 r6 : ByteArray) (r7 r8 : Bool) (r9 : Int) (w : World) (hE : EnvOk w) (h : Ywa.f k aC aH aJ aG aI aK aQ aR a1 = some (r1, r2, r3, r4, r5, r6, r7, r8, r9)) :
  Calls Tryz.prog 33 #[.agg #[.string aC, .string aH, .int .i64 aJ, .string aG, .string aI, .string aK, .bool aQ, .bool aR], .string a1] w fun e w' => e = .returned (.tuple #[.agg #[.string r1, .string r2, .int .i64 r3, .string r4, .string r5, .string r6, .bool r7, .bool r8], .int .i64 r9]) ∧ Below w.heap.size w w' := by
 have cB := Tryz.underlying25
 have HE := Ya.mk hE
 clear hE
 have HB := Ya.mk (Below.refl w.heap.size w)
 have H : ((Ynd.f k aC aH aJ aG aI aK aQ aR).bind fun aCQ => (if aCQ = true then ((Yxd.f a1).bind fun aAF => (Ywa.l0 k aAF aC aH aJ aG aI aK aQ aR)) else (some ((⟨#[]⟩ : ByteArray), (⟨#[]⟩ : ByteArray), 0, (⟨#[]⟩ : ByteArray), (⟨#[]⟩ : ByteArray), (⟨#[]⟩ : ByteArray), false, false, 1)))) = some (r1, r2, r3, r4, r5, r6, r7, r8, r9) := h
 clear h
 replace H := Option.bind_eq_some_iff.mp H
 obtain ⟨aCQ, jB, H⟩ := H
 try dsimp -simprocs only at H
 have A3 := Ya.mk jB
 clear jB
 by_cases c4 : aCQ = true
 rotate_left
 ·replace c4 := Bool.eq_false_iff.mpr c4
  subst c4
  rw [if_neg (show ¬ (false = true) by decide)] at H
  simp only [Option.some.injEq, Prod.mk.injEq] at H
  obtain ⟨rfl, rfl, rfl, rfl, rfl, rfl, rfl, rfl, rfl⟩ := H
  go_enter Tryz.func33, Tryz.ntmps33
  go_wp2_with (first | ((with_reducible refine Ywc (N := 2) rfl ?_); refine Yrc ?hg (N := 2) ?hd (cs := #[.string aC, .string aH, .int .i64 aJ, .string aG, .string aI, .string aK, .bool aQ, .bool aR]) (t := 25) ?hr ?_; (case hd => rfl); (case hg => rfl); (case hr => first | (go_simp; done) | (go_simp; rfl)); intro bJ hg w52 hbox hb; have aM := Ya.mk (Ys Za hb); have aU := Ya.mk (hbox); have bI := Ya.mk ((by rw [hg]; exact (Yda Za) : w.heap.size ≤ bJ)); have dE := Ya.mk ((by rw [hg]; exact (Yda Za) : w.heap.size ≤ bJ)); clear HB; have HB := aM; have aT := aU; have aLb := bI; have aBd := dE; clear aM aU bI dE; clear hb hbox hg) | ((with_reducible refine Ywc (N := 4) rfl ?_); refine Yrc ?hg (N := 4) ?hd (cs := #[.string (⟨#[]⟩ : ByteArray), .string (⟨#[]⟩ : ByteArray), .int .i64 0, .string (⟨#[]⟩ : ByteArray), .string (⟨#[]⟩ : ByteArray), .string (⟨#[]⟩ : ByteArray), .bool false, .bool false]) (t := 25) ?hr ?_; (case hd => rfl); (case hg => rfl); (case hr => first | (go_simp; done) | (go_simp; rfl)); intro bL hg w53 hbox hb; have aM := Ya.mk (Ydb (g := bJ) (o := .cells #[.string aC, .string aH, .int .i64 aJ, .string aG, .string aI, .string aK, .bool aQ, .bool aR] 25 (0, 0)) Zo hb); have aU := Ya.mk (Ys Zca hb); have bI := Ya.mk (hbox); have dE := Ya.mk ((by rw [hg]; exact (Yda Zca) : w.heap.size ≤ bL)); have pE := Ya.mk ((by rw [hg]; exact (Yda Zca) : w.heap.size ≤ bL)); have pF := Ya.mk ((by rw [hg]; exact Nat.ne_of_lt (Yqf (g := bJ) (o := .cells #[.string aC, .string aH, .int .i64 aJ, .string aG, .string aI, .string aK, .bool aQ, .bool aR] 25 (0, 0)) Zo) : bJ ≠ bL)); have pG := Ya.mk ((by rw [hg]; exact Nat.ne_of_gt (Yqf (g := bJ) (o := .cells #[.string aC, .string aH, .int .i64 aJ, .string aG, .string aI, .string aK, .bool aQ, .bool aR] 25 (0, 0)) Zo) : bL ≠ bJ)); clear aT; clear HB; have aT := aM; have HB := aU; have aW := bI; have aLc := dE; have aEL := pE; have dZ := pF; have eA := pG; clear aM aU bI dE pE pF pG; clear hb hbox hg; have aXP := dZ.out; have aXQ := eA.out; have aTJ : w53.cell? ⟨bJ, 0, none⟩ = some (.string aC) := (Yf aT.out 0).trans rfl; have aTK : w53.cell? ⟨bJ, 1, none⟩ = some (.string aH) := (Yf aT.out 1).trans rfl; have aTL : w53.cell? ⟨bJ, 2, none⟩ = some (.int .i64 aJ) := (Yf aT.out 2).trans rfl; have aTM : w53.cell? ⟨bJ, 3, none⟩ = some (.string aG) := (Yf aT.out 3).trans rfl; have aTN : w53.cell? ⟨bJ, 4, none⟩ = some (.string aI) := (Yf aT.out 4).trans rfl; have aTO : w53.cell? ⟨bJ, 5, none⟩ = some (.string aK) := (Yf aT.out 5).trans rfl; have aTP : w53.cell? ⟨bJ, 6, none⟩ = some (.bool aQ) := (Yf aT.out 6).trans rfl; have aTQ : w53.cell? ⟨bJ, 7, none⟩ = some (.bool aR) := (Yf aT.out 7).trans rfl; have aTR := Ye aT.out 0; have aTS := Ye aT.out 1; have aTT := Ye aT.out 2; have aTU := Ye aT.out 3; have aTV := Ye aT.out 4; have aTW := Ye aT.out 5; have aTX := Ye aT.out 6; have aTY := Ye aT.out 7) | ((with_reducible refine Yh (f := 27) rfl ?_); refine Yba (some 11) rfl rfl Tryz.func27 Zi rfl #[.agg #[.string aC, .string aH, .int .i64 aJ, .string aG, .string aI, .string aK, .bool aQ, .bool aR]] rfl Zb ?_; (with_reducible refine (Ynd.calls k aC aH aJ aG aI aK aQ aR false _ ?side1 A3.out).mono ?_); (case side1 => first | exact HE.out | exact EnvOk.below HE.out Zj); rintro e w56 ⟨rfl, hb⟩; refine ⟨_, rfl, ?_⟩; have aM := Ya.mk (Ydb (g := bJ) (o := .cells #[.string aC, .string aH, .int .i64 aJ, .string aG, .string aI, .string aK, .bool aQ, .bool aR] 25 (0, 0)) Zo hb); have aU := Ya.mk (Ydb (g := bL) (o := .cells #[.string (⟨#[]⟩ : ByteArray), .string (⟨#[]⟩ : ByteArray), .int .i64 0, .string (⟨#[]⟩ : ByteArray), .string (⟨#[]⟩ : ByteArray), .string (⟨#[]⟩ : ByteArray), .bool false, .bool false] 25 (0, 0)) Zr hb); have bI := Ya.mk (Ys Zj hb); clear aT; clear aW; clear HB; have aT := aM; have aW := aU; have HB := bI; clear aM aU bI; (try clear hb); (try clear cC); (try clear hk); (try clear hi); have aTZ : w56.cell? ⟨bL, 0, none⟩ = some (.string (⟨#[]⟩ : ByteArray)) := (Yf aW.out 0).trans rfl; have aUa : w56.cell? ⟨bL, 1, none⟩ = some (.string (⟨#[]⟩ : ByteArray)) := (Yf aW.out 1).trans rfl; have aUb : w56.cell? ⟨bL, 2, none⟩ = some (.int .i64 0) := (Yf aW.out 2).trans rfl; have aUc : w56.cell? ⟨bL, 3, none⟩ = some (.string (⟨#[]⟩ : ByteArray)) := (Yf aW.out 3).trans rfl; have aUd : w56.cell? ⟨bL, 4, none⟩ = some (.string (⟨#[]⟩ : ByteArray)) := (Yf aW.out 4).trans rfl; have aUe : w56.cell? ⟨bL, 5, none⟩ = some (.string (⟨#[]⟩ : ByteArray)) := (Yf aW.out 5).trans rfl; have aUf : w56.cell? ⟨bL, 6, none⟩ = some (.bool false) := (Yf aW.out 6).trans rfl; have aUg : w56.cell? ⟨bL, 7, none⟩ = some (.bool false) := (Yf aW.out 7).trans rfl; have aUh := Ye aW.out 0; have aUi := Ye aW.out 1; have aUj := Ye aW.out 2; have aUk := Ye aW.out 3; have aUl := Ye aW.out 4; have aUm := Ye aW.out 5; have aUn := Ye aW.out 6; have aUo := Ye aW.out 7))
  refine bodyPost_ret (Yki rfl _ _ bL 25 #[.string (⟨#[]⟩ : ByteArray), .string (⟨#[]⟩ : ByteArray), .int .i64 0, .string (⟨#[]⟩ : ByteArray), .string (⟨#[]⟩ : ByteArray), .string (⟨#[]⟩ : ByteArray), .bool false, .bool false] (0, 0) _ rfl (by (with_reducible repeat (first | refine Ym ?_ _ | refine Yr ?_ | refine Yj ?_ _)); refine Yoa (cs := #[.string (⟨#[]⟩ : ByteArray), .string (⟨#[]⟩ : ByteArray), .int .i64 0, .string (⟨#[]⟩ : ByteArray), .string (⟨#[]⟩ : ByteArray), .string (⟨#[]⟩ : ByteArray), .bool false, .bool false]) ?_ 7 _ rfl; (with_reducible repeat (first | refine Ym ?_ _ | refine Yr ?_ | refine Yj ?_ _)); refine Yoa (cs := #[.string (⟨#[]⟩ : ByteArray), .string (⟨#[]⟩ : ByteArray), .int .i64 0, .string (⟨#[]⟩ : ByteArray), .string (⟨#[]⟩ : ByteArray), .string (⟨#[]⟩ : ByteArray), .bool false, .bool false]) ?_ 6 _ rfl; (with_reducible repeat (first | refine Ym ?_ _ | refine Yr ?_ | refine Yj ?_ _)); refine Yoa (cs := #[.string (⟨#[]⟩ : ByteArray), .string (⟨#[]⟩ : ByteArray), .int .i64 0, .string (⟨#[]⟩ : ByteArray), .string (⟨#[]⟩ : ByteArray), .string (⟨#[]⟩ : ByteArray), .bool false, .bool false]) ?_ 5 _ rfl; (with_reducible repeat (first | refine Ym ?_ _ | refine Yr ?_ | refine Yj ?_ _)); refine Yoa (cs := #[.string (⟨#[]⟩ : ByteArray), .string (⟨#[]⟩ : ByteArray), .int .i64 0, .string (⟨#[]⟩ : ByteArray), .string (⟨#[]⟩ : ByteArray), .string (⟨#[]⟩ : ByteArray), .bool false, .bool false]) ?_ 4 _ rfl; (with_reducible repeat (first | refine Ym ?_ _ | refine Yr ?_ | refine Yj ?_ _)); refine Yoa (cs := #[.string (⟨#[]⟩ : ByteArray), .string (⟨#[]⟩ : ByteArray), .int .i64 0, .string (⟨#[]⟩ : ByteArray), .string (⟨#[]⟩ : ByteArray), .string (⟨#[]⟩ : ByteArray), .bool false, .bool false]) ?_ 3 _ rfl; (with_reducible repeat (first | refine Ym ?_ _ | refine Yr ?_ | refine Yj ?_ _)); refine Yoa (cs := #[.string (⟨#[]⟩ : ByteArray), .string (⟨#[]⟩ : ByteArray), .int .i64 0, .string (⟨#[]⟩ : ByteArray), .string (⟨#[]⟩ : ByteArray), .string (⟨#[]⟩ : ByteArray), .bool false, .bool false]) ?_ 2 _ rfl; (with_reducible repeat (first | refine Ym ?_ _ | refine Yr ?_ | refine Yj ?_ _)); refine Yoa (cs := #[.string (⟨#[]⟩ : ByteArray), .string (⟨#[]⟩ : ByteArray), .int .i64 0, .string (⟨#[]⟩ : ByteArray), .string (⟨#[]⟩ : ByteArray), .string (⟨#[]⟩ : ByteArray), .bool false, .bool false]) ?_ 1 _ rfl; (with_reducible repeat (first | refine Ym ?_ _ | refine Yr ?_ | refine Yj ?_ _)); refine Yoa (cs := #[.string (⟨#[]⟩ : ByteArray), .string (⟨#[]⟩ : ByteArray), .int .i64 0, .string (⟨#[]⟩ : ByteArray), .string (⟨#[]⟩ : ByteArray), .string (⟨#[]⟩ : ByteArray), .bool false, .bool false]) ?_ 0 _ rfl; (with_reducible repeat (first | refine Ym ?_ _ | refine Yr ?_ | refine Yj ?_ _)); exact aW.out) Tryz.underlying25 rfl Zi) rfl ?_
  exact ⟨Zk, Zj⟩
 subst c4
 rw [if_pos rfl] at H
 replace H := Option.bind_eq_some_iff.mp H
 obtain ⟨aAF, tT, H⟩ := H
 try dsimp -simprocs only at H
 have A5 := Ya.mk tT
 clear tT
 have H' := Ya.mk H
 clear H
 go_enter Tryz.func33, Tryz.ntmps33
 go_wp2_with (first | ((with_reducible refine Ywc (N := 2) rfl ?_); refine Yrc ?hg (N := 2) ?hd (cs := #[.string aC, .string aH, .int .i64 aJ, .string aG, .string aI, .string aK, .bool aQ, .bool aR]) (t := 25) ?hr ?_; (case hd => rfl); (case hg => rfl); (case hr => first | (go_simp; done) | (go_simp; rfl)); intro bJ hg w6 hbox hb; have aM := Ya.mk (Ys Za hb); have aU := Ya.mk (hbox); have bI := Ya.mk ((by rw [hg]; exact (Yda Za) : w.heap.size ≤ bJ)); have dE := Ya.mk ((by rw [hg]; exact (Yda Za) : w.heap.size ≤ bJ)); clear HB; have HB := aM; have aT := aU; have aLb := bI; have aBd := dE; clear aM aU bI dE; clear hb hbox hg) | ((with_reducible refine Ywc (N := 4) rfl ?_); refine Yrc ?hg (N := 4) ?hd (cs := #[.string (⟨#[]⟩ : ByteArray), .string (⟨#[]⟩ : ByteArray), .int .i64 0, .string (⟨#[]⟩ : ByteArray), .string (⟨#[]⟩ : ByteArray), .string (⟨#[]⟩ : ByteArray), .bool false, .bool false]) (t := 25) ?hr ?_; (case hd => rfl); (case hg => rfl); (case hr => first | (go_simp; done) | (go_simp; rfl)); intro bL hg w7 hbox hb; have aM := Ya.mk (Ydb (g := bJ) (o := .cells #[.string aC, .string aH, .int .i64 aJ, .string aG, .string aI, .string aK, .bool aQ, .bool aR] 25 (0, 0)) Zo hb); have aU := Ya.mk (Ys Zca hb); have bI := Ya.mk (hbox); have dE := Ya.mk ((by rw [hg]; exact (Yda Zca) : w.heap.size ≤ bL)); have pE := Ya.mk ((by rw [hg]; exact (Yda Zca) : w.heap.size ≤ bL)); have pF := Ya.mk ((by rw [hg]; exact Nat.ne_of_lt (Yqf (g := bJ) (o := .cells #[.string aC, .string aH, .int .i64 aJ, .string aG, .string aI, .string aK, .bool aQ, .bool aR] 25 (0, 0)) Zo) : bJ ≠ bL)); have pG := Ya.mk ((by rw [hg]; exact Nat.ne_of_gt (Yqf (g := bJ) (o := .cells #[.string aC, .string aH, .int .i64 aJ, .string aG, .string aI, .string aK, .bool aQ, .bool aR] 25 (0, 0)) Zo) : bL ≠ bJ)); clear aT; clear HB; have aT := aM; have HB := aU; have aW := bI; have aLc := dE; have aEL := pE; have dZ := pF; have eA := pG; clear aM aU bI dE pE pF pG; clear hb hbox hg; have aYL := dZ.out; have aYM := eA.out; have sA : w7.cell? ⟨bJ, 0, none⟩ = some (.string aC) := (Yf aT.out 0).trans rfl; have sB : w7.cell? ⟨bJ, 1, none⟩ = some (.string aH) := (Yf aT.out 1).trans rfl; have sC : w7.cell? ⟨bJ, 2, none⟩ = some (.int .i64 aJ) := (Yf aT.out 2).trans rfl; have sD : w7.cell? ⟨bJ, 3, none⟩ = some (.string aG) := (Yf aT.out 3).trans rfl; have sE : w7.cell? ⟨bJ, 4, none⟩ = some (.string aI) := (Yf aT.out 4).trans rfl; have sF : w7.cell? ⟨bJ, 5, none⟩ = some (.string aK) := (Yf aT.out 5).trans rfl; have sG : w7.cell? ⟨bJ, 6, none⟩ = some (.bool aQ) := (Yf aT.out 6).trans rfl; have sH : w7.cell? ⟨bJ, 7, none⟩ = some (.bool aR) := (Yf aT.out 7).trans rfl; have sI := Ye aT.out 0; have sJ := Ye aT.out 1; have sK := Ye aT.out 2; have sL := Ye aT.out 3; have sM := Ye aT.out 4; have sN := Ye aT.out 5; have sO := Ye aT.out 6; have sP := Ye aT.out 7) | ((with_reducible refine Yh (f := 27) rfl ?_); refine Yba (some 11) rfl rfl Tryz.func27 Zi rfl #[.agg #[.string aC, .string aH, .int .i64 aJ, .string aG, .string aI, .string aK, .bool aQ, .bool aR]] rfl Zb ?_; (with_reducible refine (Ynd.calls k aC aH aJ aG aI aK aQ aR true _ ?side1 A3.out).mono ?_); (case side1 => first | exact HE.out | exact EnvOk.below HE.out Zj); rintro e qE ⟨rfl, hb⟩; refine ⟨_, rfl, ?_⟩; have aM := Ya.mk (Ydb (g := bJ) (o := .cells #[.string aC, .string aH, .int .i64 aJ, .string aG, .string aI, .string aK, .bool aQ, .bool aR] 25 (0, 0)) Zo hb); have aU := Ya.mk (Ydb (g := bL) (o := .cells #[.string (⟨#[]⟩ : ByteArray), .string (⟨#[]⟩ : ByteArray), .int .i64 0, .string (⟨#[]⟩ : ByteArray), .string (⟨#[]⟩ : ByteArray), .string (⟨#[]⟩ : ByteArray), .bool false, .bool false] 25 (0, 0)) Zr hb); have bI := Ya.mk (Ys Zj hb); clear aT; clear aW; clear HB; have aT := aM; have aW := aU; have HB := bI; clear aM aU bI; (try clear hb); (try clear cC); (try clear hk); (try clear hi)) | ((with_reducible refine Yh (f := 21) rfl ?_); refine Yba (some 15) rfl rfl Tryz.func21 Zi rfl #[.string a1] rfl Zb ?_; (with_reducible refine (Yxd.calls a1 aAF _ ?side1 A5.out).mono ?_); (case side1 => first | exact HE.out | exact EnvOk.below HE.out Zj); rintro e w11 ⟨rfl, hb⟩; refine ⟨_, rfl, ?_⟩; have aM := Ya.mk (Ydb (g := bJ) (o := .cells #[.string aC, .string aH, .int .i64 aJ, .string aG, .string aI, .string aK, .bool aQ, .bool aR] 25 (0, 0)) Zo hb); have aU := Ya.mk (Ydb (g := bL) (o := .cells #[.string (⟨#[]⟩ : ByteArray), .string (⟨#[]⟩ : ByteArray), .int .i64 0, .string (⟨#[]⟩ : ByteArray), .string (⟨#[]⟩ : ByteArray), .string (⟨#[]⟩ : ByteArray), .bool false, .bool false] 25 (0, 0)) Zr hb); have bI := Ya.mk (Ys Zj hb); clear aT; clear aW; clear HB; have aT := aM; have aW := aU; have HB := bI; clear aM aU bI; (try clear hb); (try clear cC); (try clear hk); (try clear hi)))
 go_loopg [6] k (fun kq v6 w' => ∃ (aD : ByteArray) (cA : ByteArray) (bW : ByteArray) (bK : Int) (bH : ByteArray) (bD : ByteArray) (bC : ByteArray) (aY : Bool) (aV : Bool), v6 = .string aD ∧ Ya (Ywa.l0 kq aD aC aH aJ aG aI aK aQ aR = some (r1, r2, r3, r4, r5, r6, r7, r8, r9)) ∧ Ya (kq ≤ k) ∧ Ya (w'.heap[bJ]? = some (.cells #[.string aC, .string aH, .int .i64 aJ, .string aG, .string aI, .string aK, .bool aQ, .bool aR] 25 (0, 0))) ∧ Ya (w'.heap[bL]? = some (.cells #[.string cA, .string bW, .int .i64 bK, .string bH, .string bD, .string bC, .bool aY, .bool aV] 25 (0, 0))) ∧ Ya (Below w.heap.size w w'))
 case atStart => exact ⟨(aAF), ((⟨#[]⟩ : ByteArray)), ((⟨#[]⟩ : ByteArray)), (0), ((⟨#[]⟩ : ByteArray)), ((⟨#[]⟩ : ByteArray)), ((⟨#[]⟩ : ByteArray)), (false), (false), Zf, H', ⟨Nat.le_refl _⟩, ⟨Zo⟩, ⟨Zr⟩, ⟨Zj⟩⟩
 case round =>
  clear H'
  try clear c2
  try clear p2
  try clear c3
  try clear c4
  try clear c8
  try clear sA
  try clear sB
  try clear sC
  try clear sD
  try clear sE
  try clear sF
  try clear sG
  try clear sH
  try clear sI
  try clear sJ
  try clear sK
  try clear sL
  try clear sM
  try clear sN
  try clear sO
  try clear sP
  obtain ⟨aD, cA, bW, bK, bH, bD, bC, aY, aV, rfl, HA, dD, aT, aW, HB⟩ := hrel
  cases gk with
  | zero => exact absurd HA.out (by simp [Ywa.l0])
  | succ k1 =>
   have H := HA.out
   clear HA
   simp only [Ywa.l0] at H
   by_cases dG : (aD.size : Int) > 2048
   ·rw [if_pos dG] at H
    have dV : decide (2048 < (aD.size : Int)) = true := decide_eq_true dG
    have oL : decide (2048 < aD.size) = true := decide_eq_true Zl
    clear dG
    simp only [Option.some.injEq, Prod.mk.injEq] at H
    obtain ⟨rfl, rfl, rfl, rfl, rfl, rfl, rfl, rfl, rfl⟩ := H
    have aXR := eA.out
    have aXS := dZ.out
    have mS : wr.cell? ⟨bL, 0, none⟩ = some (.string cA) := (Yf aW.out 0).trans rfl
    have mT : wr.cell? ⟨bL, 1, none⟩ = some (.string bW) := (Yf aW.out 1).trans rfl
    have mU : wr.cell? ⟨bL, 2, none⟩ = some (.int .i64 bK) := (Yf aW.out 2).trans rfl
    have mV : wr.cell? ⟨bL, 3, none⟩ = some (.string bH) := (Yf aW.out 3).trans rfl
    have mW : wr.cell? ⟨bL, 4, none⟩ = some (.string bD) := (Yf aW.out 4).trans rfl
    have mX : wr.cell? ⟨bL, 5, none⟩ = some (.string bC) := (Yf aW.out 5).trans rfl
    have mY : wr.cell? ⟨bL, 6, none⟩ = some (.bool aY) := (Yf aW.out 6).trans rfl
    have mZ : wr.cell? ⟨bL, 7, none⟩ = some (.bool aV) := (Yf aW.out 7).trans rfl
    have nA := Ye aW.out 0
    have nB := Ye aW.out 1
    have nC := Ye aW.out 2
    have nD := Ye aW.out 3
    have nE := Ye aW.out 4
    have nF := Ye aW.out 5
    have nG := Ye aW.out 6
    have nH := Ye aW.out 7
    go_wp2
    refine bodyPost_ret (Yki rfl _ _ bL 25 #[.string (⟨#[]⟩ : ByteArray), .string (⟨#[]⟩ : ByteArray), .int .i64 0, .string (⟨#[]⟩ : ByteArray), .string (⟨#[]⟩ : ByteArray), .string (⟨#[]⟩ : ByteArray), .bool false, .bool false] (0, 0) _ rfl (by (with_reducible repeat (first | refine Ym ?_ _ | refine Yr ?_ | refine Yj ?_ _)); refine Yoa (cs := #[.string (⟨#[]⟩ : ByteArray), .string (⟨#[]⟩ : ByteArray), .int .i64 0, .string (⟨#[]⟩ : ByteArray), .string (⟨#[]⟩ : ByteArray), .string (⟨#[]⟩ : ByteArray), .bool false, .bool aV]) ?_ 7 _ rfl; (with_reducible repeat (first | refine Ym ?_ _ | refine Yr ?_ | refine Yj ?_ _)); refine Yoa (cs := #[.string (⟨#[]⟩ : ByteArray), .string (⟨#[]⟩ : ByteArray), .int .i64 0, .string (⟨#[]⟩ : ByteArray), .string (⟨#[]⟩ : ByteArray), .string (⟨#[]⟩ : ByteArray), .bool aY, .bool aV]) ?_ 6 _ rfl; (with_reducible repeat (first | refine Ym ?_ _ | refine Yr ?_ | refine Yj ?_ _)); refine Yoa (cs := #[.string (⟨#[]⟩ : ByteArray), .string (⟨#[]⟩ : ByteArray), .int .i64 0, .string (⟨#[]⟩ : ByteArray), .string (⟨#[]⟩ : ByteArray), .string bC, .bool aY, .bool aV]) ?_ 5 _ rfl; (with_reducible repeat (first | refine Ym ?_ _ | refine Yr ?_ | refine Yj ?_ _)); refine Yoa (cs := #[.string (⟨#[]⟩ : ByteArray), .string (⟨#[]⟩ : ByteArray), .int .i64 0, .string (⟨#[]⟩ : ByteArray), .string bD, .string bC, .bool aY, .bool aV]) ?_ 4 _ rfl; (with_reducible repeat (first | refine Ym ?_ _ | refine Yr ?_ | refine Yj ?_ _)); refine Yoa (cs := #[.string (⟨#[]⟩ : ByteArray), .string (⟨#[]⟩ : ByteArray), .int .i64 0, .string bH, .string bD, .string bC, .bool aY, .bool aV]) ?_ 3 _ rfl; (with_reducible repeat (first | refine Ym ?_ _ | refine Yr ?_ | refine Yj ?_ _)); refine Yoa (cs := #[.string (⟨#[]⟩ : ByteArray), .string (⟨#[]⟩ : ByteArray), .int .i64 bK, .string bH, .string bD, .string bC, .bool aY, .bool aV]) ?_ 2 _ rfl; (with_reducible repeat (first | refine Ym ?_ _ | refine Yr ?_ | refine Yj ?_ _)); refine Yoa (cs := #[.string (⟨#[]⟩ : ByteArray), .string bW, .int .i64 bK, .string bH, .string bD, .string bC, .bool aY, .bool aV]) ?_ 1 _ rfl; (with_reducible repeat (first | refine Ym ?_ _ | refine Yr ?_ | refine Yj ?_ _)); refine Yoa (cs := #[.string cA, .string bW, .int .i64 bK, .string bH, .string bD, .string bC, .bool aY, .bool aV]) ?_ 0 _ rfl; (with_reducible repeat (first | refine Ym ?_ _ | refine Yr ?_ | refine Yj ?_ _)); exact aW.out) Tryz.underlying25 rfl Zi) rfl ?_
    exact ⟨Zk, Zj⟩
   rw [if_neg dG] at H
   have dV : decide (2048 < (aD.size : Int)) = false := decide_eq_false dG
   have oL : decide (2048 < aD.size) = false := decide_eq_false Zl
   clear dG
   replace H := Option.bind_eq_some_iff.mp H
   obtain ⟨⟨aAG, aAH, aEG⟩, tS, H⟩ := H
   try dsimp -simprocs only at H
   have A15 := Ya.mk tS
   clear tS
   have aHf := Ya.mk H
   clear H
   go_upto_region 7 with (first | ((with_reducible refine Yh (f := 70) rfl ?_); refine Yba (some 22) rfl rfl Tryz.func70 Zi rfl #[.string aD] rfl Zb ?_; (with_reducible refine (Yja.calls k1 aD aAG aAH aEG _ ?side1 A15.out).mono ?_); (case side1 => first | exact HE.out | exact EnvOk.below HE.out Zj); rintro e w' ⟨rfl, ⟨nd, rfl⟩⟩; refine ⟨_, rfl, ?_⟩))
   (try simp only [Act.put, List.setIfInBounds_toArray, List.set_cons_zero, List.set_cons_succ])
   go_cut [26] (fun v26 wc => ∃ (kq : Nat) (sR : Bool), v26 = .bool sR ∧ Ya (Ywa.j1 kq aD aAG aAH aEG sR aC aH aJ aG aI aK aQ aR = some (r1, r2, r3, r4, r5, r6, r7, r8, r9)) ∧ Ya (kq ≤ k1) ∧ Ya (wc.heap[bJ]? = some (.cells #[.string aC, .string aH, .int .i64 aJ, .string aG, .string aI, .string aK, .bool aQ, .bool aR] 25 (0, 0))) ∧ Ya (wc.heap[bL]? = some (.cells #[.string cA, .string bW, .int .i64 bK, .string bH, .string bD, .string bC, .bool aY, .bool aV] 25 (0, 0))) ∧ Ya (Below w.heap.size w wc))
   case first =>
    have H := aHf.out
    clear aHf
    by_cases eH : aEG = true
    ·subst eH
     rw [if_pos rfl] at H
     have H' := Ya.mk H
     clear H
     go_wp2
     go_meet
     case rel => exact ⟨_, (false), Zf, H', ⟨Zka⟩, ⟨Zo⟩, ⟨Zr⟩, ⟨Zj⟩⟩
    replace eH := Bool.eq_false_iff.mpr eH
    subst eH
    rw [if_neg (show ¬ (false = true) by decide)] at H
    replace H := Option.bind_eq_some_iff.mp H
    obtain ⟨uX, aCH, H⟩ := H
    try dsimp -simprocs only at H
    have A18 := Ya.mk aCH
    clear aCH
    have H' := Ya.mk H
    clear H
    go_wp2_with (first | (go_at_call 71; (with_reducible refine (Yob.calls k1 aD uX _ ?side1 A18.out).mono ?_); (case side1 => first | exact HE.out | exact EnvOk.below HE.out Zj); rintro e w19 ⟨rfl, hb⟩; have aM := Ya.mk (Ydb (g := bJ) (o := .cells #[.string aC, .string aH, .int .i64 aJ, .string aG, .string aI, .string aK, .bool aQ, .bool aR] 25 (0, 0)) Zo hb); have aU := Ya.mk (Ydb (g := bL) (o := .cells #[.string cA, .string bW, .int .i64 bK, .string bH, .string bD, .string bC, .bool aY, .bool aV] 25 (0, 0)) Zr hb); have bI := Ya.mk (Ys Zj hb); clear aT; clear aW; clear HB; have aT := aM; have aW := aU; have HB := bI; clear aM aU bI; (try clear hb); (try clear cC); (try clear hk); (try clear hi)))
    go_meet
    case rel => exact ⟨_, ((uX == 2)), Zf, H', ⟨Zka⟩, ⟨Zo⟩, ⟨Zr⟩, ⟨Zj⟩⟩
   case rest =>
    clear aHf
    try clear c1
    try clear c2
    try clear p2
    try clear c3
    try clear c4
    try clear c7
    try clear c8
    try clear dG
    try clear dV
    try clear oL
    try clear eN
    try clear eH
    try clear mS
    try clear mT
    try clear mU
    try clear mV
    try clear mW
    try clear mX
    try clear mY
    try clear mZ
    try clear sA
    try clear sB
    try clear sC
    try clear sD
    try clear sE
    try clear sF
    try clear sG
    try clear sH
    try clear nA
    try clear nB
    try clear nC
    try clear nD
    try clear nE
    try clear nF
    try clear nG
    try clear nH
    try clear sI
    try clear sJ
    try clear sK
    try clear sL
    try clear sM
    try clear sN
    try clear sO
    try clear sP
    try clear p2
    obtain ⟨kq, sR, rfl, HA, aEH, aT, aW, HB⟩ := hcut
    cases kq with
    | zero => exact absurd HA.out (by simp [Ywa.j1])
    | succ aHg =>
     have H := HA.out
     clear HA
     simp only [Ywa.j1] at H
     by_cases hD : sR = true
     ·subst hD
      rw [if_pos rfl] at H
      by_cases mQ : aC.size + 1 ≤ 9223372036854775807
      rotate_left
      ·rw [if_neg mQ] at H
       exact absurd H Zv
      rw [if_pos mQ] at H
      have aAh := eq_true mQ
      have aCm : decide (aC.size + 1 ≤ 9223372036854775807) = true := decide_eq_true mQ
      try have aLd : (9223372036854775807 < aC.size + 1) = False := eq_false (Nat.not_lt.2 mQ)
      by_cases iJ : (aC ++ (⟨#[58]⟩ : ByteArray)).size + aD.size ≤ 9223372036854775807
      rotate_left
      ·rw [if_neg iJ] at H
       exact absurd H Zv
      rw [if_pos iJ] at H
      have lT := eq_true iJ
      have oS : decide ((aC ++ (⟨#[58]⟩ : ByteArray)).size + aD.size ≤ 9223372036854775807) = true := decide_eq_true iJ
      try have aLe : (9223372036854775807 < (aC ++ (⟨#[58]⟩ : ByteArray)).size + aD.size) = False := eq_false (Nat.not_lt.2 iJ)
      replace H := Option.bind_eq_some_iff.mp H
      obtain ⟨⟨sS, uY, wY, aAI, aCR, aEI, aHh, aLf, aWV⟩, aCb, H⟩ := H
      try dsimp -simprocs only at H
      have A23 := Ya.mk aCb
      clear aCb
      simp only [Option.some.injEq, Prod.mk.injEq] at H
      obtain ⟨rfl, rfl, rfl, rfl, rfl, rfl, rfl, rfl, rfl⟩ := H
      have aXT := dZ.out
      have aXU := eA.out
      have rC : wc.cell? ⟨bJ, 0, none⟩ = some (.string aC) := (Yf aT.out 0).trans rfl
      have rD : wc.cell? ⟨bJ, 1, none⟩ = some (.string aH) := (Yf aT.out 1).trans rfl
      have rE : wc.cell? ⟨bJ, 2, none⟩ = some (.int .i64 aJ) := (Yf aT.out 2).trans rfl
      have rF : wc.cell? ⟨bJ, 3, none⟩ = some (.string aG) := (Yf aT.out 3).trans rfl
      have rG : wc.cell? ⟨bJ, 4, none⟩ = some (.string aI) := (Yf aT.out 4).trans rfl
      have rH : wc.cell? ⟨bJ, 5, none⟩ = some (.string aK) := (Yf aT.out 5).trans rfl
      have rI : wc.cell? ⟨bJ, 6, none⟩ = some (.bool aQ) := (Yf aT.out 6).trans rfl
      have rJ : wc.cell? ⟨bJ, 7, none⟩ = some (.bool aR) := (Yf aT.out 7).trans rfl
      have rK := Ye aT.out 0
      have rL := Ye aT.out 1
      have rM := Ye aT.out 2
      have rN := Ye aT.out 3
      have rO := Ye aT.out 4
      have rP := Ye aT.out 5
      have rQ := Ye aT.out 6
      have rR := Ye aT.out 7
      go_wp2_with (first | ((with_reducible refine Yh (f := 15) rfl ?_); refine Yba (some 39) rfl rfl Tryz.func15 Zi rfl #[.string ((aC ++ (⟨#[58]⟩ : ByteArray)) ++ aD)] rfl Zb ?_; (with_reducible refine (Ysd.calls aHg ((aC ++ (⟨#[58]⟩ : ByteArray)) ++ aD) sS uY wY aAI aCR aEI aHh aLf aWV _ ?side1 A23.out).mono ?_); (case side1 => first | exact HE.out | exact EnvOk.below HE.out Zj); rintro e w26 ⟨rfl, hb⟩; refine ⟨_, rfl, ?_⟩; have aM := Ya.mk (Ydb (g := bJ) (o := .cells #[.string aC, .string aH, .int .i64 aJ, .string aG, .string aI, .string aK, .bool aQ, .bool aR] 25 (0, 0)) Zo hb); have aU := Ya.mk (Ydb (g := bL) (o := .cells #[.string cA, .string bW, .int .i64 bK, .string bH, .string bD, .string bC, .bool aY, .bool aV] 25 (0, 0)) Zr hb); have bI := Ya.mk (Ys Zj hb); clear aT; clear aW; clear HB; have aT := aM; have aW := aU; have HB := bI; clear aM aU bI; (try clear hb); (try clear cC); (try clear hk); (try clear hi); have xO : w26.cell? ⟨bL, 0, none⟩ = some (.string cA) := (Yf aW.out 0).trans rfl; have xP : w26.cell? ⟨bL, 1, none⟩ = some (.string bW) := (Yf aW.out 1).trans rfl; have xQ : w26.cell? ⟨bL, 2, none⟩ = some (.int .i64 bK) := (Yf aW.out 2).trans rfl; have xR : w26.cell? ⟨bL, 3, none⟩ = some (.string bH) := (Yf aW.out 3).trans rfl; have xS : w26.cell? ⟨bL, 4, none⟩ = some (.string bD) := (Yf aW.out 4).trans rfl; have xT : w26.cell? ⟨bL, 5, none⟩ = some (.string bC) := (Yf aW.out 5).trans rfl; have xU : w26.cell? ⟨bL, 6, none⟩ = some (.bool aY) := (Yf aW.out 6).trans rfl; have xV : w26.cell? ⟨bL, 7, none⟩ = some (.bool aV) := (Yf aW.out 7).trans rfl; have xW := Ye aW.out 0; have xX := Ye aW.out 1; have xY := Ye aW.out 2; have xZ := Ye aW.out 3; have yA := Ye aW.out 4; have yB := Ye aW.out 5; have yC := Ye aW.out 6; have yD := Ye aW.out 7))
      refine bodyPost_ret (Yki rfl _ _ bL 25 #[.string sS, .string uY, .int .i64 wY, .string aAI, .string aCR, .string aEI, .bool aHh, .bool aLf] (0, 0) _ rfl (by (with_reducible repeat (first | refine Ym ?_ _ | refine Yr ?_ | refine Yj ?_ _)); refine Yoa (cs := #[.string sS, .string uY, .int .i64 wY, .string aAI, .string aCR, .string aEI, .bool aHh, .bool aV]) ?_ 7 _ rfl; (with_reducible repeat (first | refine Ym ?_ _ | refine Yr ?_ | refine Yj ?_ _)); refine Yoa (cs := #[.string sS, .string uY, .int .i64 wY, .string aAI, .string aCR, .string aEI, .bool aY, .bool aV]) ?_ 6 _ rfl; (with_reducible repeat (first | refine Ym ?_ _ | refine Yr ?_ | refine Yj ?_ _)); refine Yoa (cs := #[.string sS, .string uY, .int .i64 wY, .string aAI, .string aCR, .string bC, .bool aY, .bool aV]) ?_ 5 _ rfl; (with_reducible repeat (first | refine Ym ?_ _ | refine Yr ?_ | refine Yj ?_ _)); refine Yoa (cs := #[.string sS, .string uY, .int .i64 wY, .string aAI, .string bD, .string bC, .bool aY, .bool aV]) ?_ 4 _ rfl; (with_reducible repeat (first | refine Ym ?_ _ | refine Yr ?_ | refine Yj ?_ _)); refine Yoa (cs := #[.string sS, .string uY, .int .i64 wY, .string bH, .string bD, .string bC, .bool aY, .bool aV]) ?_ 3 _ rfl; (with_reducible repeat (first | refine Ym ?_ _ | refine Yr ?_ | refine Yj ?_ _)); refine Yoa (cs := #[.string sS, .string uY, .int .i64 bK, .string bH, .string bD, .string bC, .bool aY, .bool aV]) ?_ 2 _ rfl; (with_reducible repeat (first | refine Ym ?_ _ | refine Yr ?_ | refine Yj ?_ _)); refine Yoa (cs := #[.string sS, .string bW, .int .i64 bK, .string bH, .string bD, .string bC, .bool aY, .bool aV]) ?_ 1 _ rfl; (with_reducible repeat (first | refine Ym ?_ _ | refine Yr ?_ | refine Yj ?_ _)); refine Yoa (cs := #[.string cA, .string bW, .int .i64 bK, .string bH, .string bD, .string bC, .bool aY, .bool aV]) ?_ 0 _ rfl; (with_reducible repeat (first | refine Ym ?_ _ | refine Yr ?_ | refine Yj ?_ _)); exact aW.out) Tryz.underlying25 rfl Zi) rfl ?_
      exact ⟨Zk, Zj⟩
     replace hD := Bool.eq_false_iff.mpr hD
     subst hD
     rw [if_neg (show ¬ (false = true) by decide)] at H
     by_cases c28 : aEG = true
     rotate_left
     ·replace c28 := Bool.eq_false_iff.mpr c28
      subst c28
      rw [if_neg (show ¬ (false = true) by decide)] at H
      replace H := Option.bind_eq_some_iff.mp H
      obtain ⟨⟨sT, uZ, wZ, aAJ, aCS, aEJ, aHi, aLg, aWW⟩, aLh, H⟩ := H
      try dsimp -simprocs only at H
      have A47 := Ya.mk aLh
      clear aLh
      simp only [Option.some.injEq, Prod.mk.injEq] at H
      obtain ⟨rfl, rfl, rfl, rfl, rfl, rfl, rfl, rfl, rfl⟩ := H
      have aXV := dZ.out
      have aXW := eA.out
      have aUp : wc.cell? ⟨bJ, 0, none⟩ = some (.string aC) := (Yf aT.out 0).trans rfl
      have aUq : wc.cell? ⟨bJ, 1, none⟩ = some (.string aH) := (Yf aT.out 1).trans rfl
      have aUr : wc.cell? ⟨bJ, 2, none⟩ = some (.int .i64 aJ) := (Yf aT.out 2).trans rfl
      have aUs : wc.cell? ⟨bJ, 3, none⟩ = some (.string aG) := (Yf aT.out 3).trans rfl
      have aUt : wc.cell? ⟨bJ, 4, none⟩ = some (.string aI) := (Yf aT.out 4).trans rfl
      have aUu : wc.cell? ⟨bJ, 5, none⟩ = some (.string aK) := (Yf aT.out 5).trans rfl
      have aUv : wc.cell? ⟨bJ, 6, none⟩ = some (.bool aQ) := (Yf aT.out 6).trans rfl
      have aUw : wc.cell? ⟨bJ, 7, none⟩ = some (.bool aR) := (Yf aT.out 7).trans rfl
      have aUx := Ye aT.out 0
      have aUy := Ye aT.out 1
      have aUz := Ye aT.out 2
      have aUA := Ye aT.out 3
      have aUB := Ye aT.out 4
      have aUC := Ye aT.out 5
      have aUD := Ye aT.out 6
      have aUE := Ye aT.out 7
      go_wp2_with (first | ((with_reducible refine Yh (f := 72) rfl ?_); refine Yba (some 47) rfl rfl Tryz.func72 Zi rfl #[.agg #[.string aC, .string aH, .int .i64 aJ, .string aG, .string aI, .string aK, .bool aQ, .bool aR], .string aD] rfl Zb ?_; (with_reducible refine (Yvf.calls aC aH aJ aG aI aK aQ aR aD sT uZ wZ aAJ aCS aEJ aHi aLg aWW _ ?side1 A47.out).mono ?_); (case side1 => first | exact HE.out | exact EnvOk.below HE.out Zj); rintro e w50 ⟨rfl, hb⟩; refine ⟨_, rfl, ?_⟩; have aM := Ya.mk (Ydb (g := bJ) (o := .cells #[.string aC, .string aH, .int .i64 aJ, .string aG, .string aI, .string aK, .bool aQ, .bool aR] 25 (0, 0)) Zo hb); have aU := Ya.mk (Ydb (g := bL) (o := .cells #[.string cA, .string bW, .int .i64 bK, .string bH, .string bD, .string bC, .bool aY, .bool aV] 25 (0, 0)) Zr hb); have bI := Ya.mk (Ys Zj hb); clear aT; clear aW; clear HB; have aT := aM; have aW := aU; have HB := bI; clear aM aU bI; (try clear hb); (try clear cC); (try clear hk); (try clear hi); have aUF : w50.cell? ⟨bL, 0, none⟩ = some (.string cA) := (Yf aW.out 0).trans rfl; have aUG : w50.cell? ⟨bL, 1, none⟩ = some (.string bW) := (Yf aW.out 1).trans rfl; have aUH : w50.cell? ⟨bL, 2, none⟩ = some (.int .i64 bK) := (Yf aW.out 2).trans rfl; have aUI : w50.cell? ⟨bL, 3, none⟩ = some (.string bH) := (Yf aW.out 3).trans rfl; have aUJ : w50.cell? ⟨bL, 4, none⟩ = some (.string bD) := (Yf aW.out 4).trans rfl; have aUK : w50.cell? ⟨bL, 5, none⟩ = some (.string bC) := (Yf aW.out 5).trans rfl; have aUL : w50.cell? ⟨bL, 6, none⟩ = some (.bool aY) := (Yf aW.out 6).trans rfl; have aUM : w50.cell? ⟨bL, 7, none⟩ = some (.bool aV) := (Yf aW.out 7).trans rfl; have aUN := Ye aW.out 0; have aUO := Ye aW.out 1; have aUP := Ye aW.out 2; have aUQ := Ye aW.out 3; have aUR := Ye aW.out 4; have aUS := Ye aW.out 5; have aUT := Ye aW.out 6; have aUU := Ye aW.out 7))
      refine bodyPost_ret (Yki rfl _ _ bL 25 #[.string sT, .string uZ, .int .i64 wZ, .string aAJ, .string aCS, .string aEJ, .bool aHi, .bool aLg] (0, 0) _ rfl (by (with_reducible repeat (first | refine Ym ?_ _ | refine Yr ?_ | refine Yj ?_ _)); refine Yoa (cs := #[.string sT, .string uZ, .int .i64 wZ, .string aAJ, .string aCS, .string aEJ, .bool aHi, .bool aV]) ?_ 7 _ rfl; (with_reducible repeat (first | refine Ym ?_ _ | refine Yr ?_ | refine Yj ?_ _)); refine Yoa (cs := #[.string sT, .string uZ, .int .i64 wZ, .string aAJ, .string aCS, .string aEJ, .bool aY, .bool aV]) ?_ 6 _ rfl; (with_reducible repeat (first | refine Ym ?_ _ | refine Yr ?_ | refine Yj ?_ _)); refine Yoa (cs := #[.string sT, .string uZ, .int .i64 wZ, .string aAJ, .string aCS, .string bC, .bool aY, .bool aV]) ?_ 5 _ rfl; (with_reducible repeat (first | refine Ym ?_ _ | refine Yr ?_ | refine Yj ?_ _)); refine Yoa (cs := #[.string sT, .string uZ, .int .i64 wZ, .string aAJ, .string bD, .string bC, .bool aY, .bool aV]) ?_ 4 _ rfl; (with_reducible repeat (first | refine Ym ?_ _ | refine Yr ?_ | refine Yj ?_ _)); refine Yoa (cs := #[.string sT, .string uZ, .int .i64 wZ, .string bH, .string bD, .string bC, .bool aY, .bool aV]) ?_ 3 _ rfl; (with_reducible repeat (first | refine Ym ?_ _ | refine Yr ?_ | refine Yj ?_ _)); refine Yoa (cs := #[.string sT, .string uZ, .int .i64 bK, .string bH, .string bD, .string bC, .bool aY, .bool aV]) ?_ 2 _ rfl; (with_reducible repeat (first | refine Ym ?_ _ | refine Yr ?_ | refine Yj ?_ _)); refine Yoa (cs := #[.string sT, .string bW, .int .i64 bK, .string bH, .string bD, .string bC, .bool aY, .bool aV]) ?_ 1 _ rfl; (with_reducible repeat (first | refine Ym ?_ _ | refine Yr ?_ | refine Yj ?_ _)); refine Yoa (cs := #[.string cA, .string bW, .int .i64 bK, .string bH, .string bD, .string bC, .bool aY, .bool aV]) ?_ 0 _ rfl; (with_reducible repeat (first | refine Ym ?_ _ | refine Yr ?_ | refine Yj ?_ _)); exact aW.out) Tryz.underlying25 rfl Zi) rfl ?_
      exact ⟨Zk, Zj⟩
     subst c28
     rw [if_pos rfl] at H
     have aHj := Ya.mk H
     clear H
     go_upto_region 11 with (fail)
     go_cut [50] (fun v50 wc => ∃ (kq : Nat) (sU : Bool), v50 = .bool sU ∧ Ya (Ywa.j2 kq aD aAH sU aC aH aJ aG aI aK aQ aR = some (r1, r2, r3, r4, r5, r6, r7, r8, r9)) ∧ Ya (kq ≤ aHg) ∧ Ya (wc.heap[bJ]? = some (.cells #[.string aC, .string aH, .int .i64 aJ, .string aG, .string aI, .string aK, .bool aQ, .bool aR] 25 (0, 0))) ∧ Ya (wc.heap[bL]? = some (.cells #[.string cA, .string bW, .int .i64 bK, .string bH, .string bD, .string bC, .bool aY, .bool aV] 25 (0, 0))) ∧ Ya (Below w.heap.size w wc))
     case first =>
      have H := aHj.out
      clear aHj
      replace H := Option.bind_eq_some_iff.mp H
      obtain ⟨aHe, aCi, H⟩ := H
      try dsimp -simprocs only at H
      have jB := Ya.mk aCi
      clear aCi
      by_cases rS : aHe = true
      rotate_left
      ·replace rS := Bool.eq_false_iff.mpr rS
       subst rS
       rw [if_neg (show ¬ (false = true) by decide)] at H
       have H' := Ya.mk H
       clear H
       have aXX := dZ.out
       have aXY := eA.out
       have yU : wc.cell? ⟨bJ, 0, none⟩ = some (.string aC) := (Yf aT.out 0).trans rfl
       have yV : wc.cell? ⟨bJ, 1, none⟩ = some (.string aH) := (Yf aT.out 1).trans rfl
       have yW : wc.cell? ⟨bJ, 2, none⟩ = some (.int .i64 aJ) := (Yf aT.out 2).trans rfl
       have yX : wc.cell? ⟨bJ, 3, none⟩ = some (.string aG) := (Yf aT.out 3).trans rfl
       have yY : wc.cell? ⟨bJ, 4, none⟩ = some (.string aI) := (Yf aT.out 4).trans rfl
       have yZ : wc.cell? ⟨bJ, 5, none⟩ = some (.string aK) := (Yf aT.out 5).trans rfl
       have zA : wc.cell? ⟨bJ, 6, none⟩ = some (.bool aQ) := (Yf aT.out 6).trans rfl
       have zB : wc.cell? ⟨bJ, 7, none⟩ = some (.bool aR) := (Yf aT.out 7).trans rfl
       have zC := Ye aT.out 0
       have zD := Ye aT.out 1
       have zE := Ye aT.out 2
       have zF := Ye aT.out 3
       have zG := Ye aT.out 4
       have zH := Ye aT.out 5
       have zI := Ye aT.out 6
       have zJ := Ye aT.out 7
       go_wp2_with (first | ((with_reducible refine Yh (f := 73) rfl ?_); refine Yba (some 54) rfl rfl Tryz.func73 Zi rfl #[.string aAG, .string aC] rfl Zb ?_; (with_reducible refine (Yhg.calls aAG aC false _ ?side1 jB.out).mono ?_); (case side1 => first | exact HE.out | exact EnvOk.below HE.out Zj); rintro e w39 ⟨rfl, hb⟩; refine ⟨_, rfl, ?_⟩; have aM := Ya.mk (Ydb (g := bJ) (o := .cells #[.string aC, .string aH, .int .i64 aJ, .string aG, .string aI, .string aK, .bool aQ, .bool aR] 25 (0, 0)) Zo hb); have aU := Ya.mk (Ydb (g := bL) (o := .cells #[.string cA, .string bW, .int .i64 bK, .string bH, .string bD, .string bC, .bool aY, .bool aV] 25 (0, 0)) Zr hb); have bI := Ya.mk (Ys Zj hb); clear aT; clear aW; clear HB; have aT := aM; have aW := aU; have HB := bI; clear aM aU bI; (try clear hb); (try clear cC); (try clear hk); (try clear hi)))
       go_meet
       case rel => exact ⟨_, (true), Zf, H', ⟨by have := dD.out; have := aEH.out; first | omega | exact Nat.le_refl _⟩, ⟨Zo⟩, ⟨Zr⟩, ⟨Zj⟩⟩
      subst rS
      rw [if_pos rfl] at H
      replace H := Option.bind_eq_some_iff.mp H
      obtain ⟨aEE, aLi, H⟩ := H
      try dsimp -simprocs only at H
      have A32 := Ya.mk aLi
      clear aLi
      have H' := Ya.mk H
      clear H
      have aXZ := dZ.out
      have aYa := eA.out
      have zK : wc.cell? ⟨bJ, 0, none⟩ = some (.string aC) := (Yf aT.out 0).trans rfl
      have zL : wc.cell? ⟨bJ, 1, none⟩ = some (.string aH) := (Yf aT.out 1).trans rfl
      have zM : wc.cell? ⟨bJ, 2, none⟩ = some (.int .i64 aJ) := (Yf aT.out 2).trans rfl
      have zN : wc.cell? ⟨bJ, 3, none⟩ = some (.string aG) := (Yf aT.out 3).trans rfl
      have zO : wc.cell? ⟨bJ, 4, none⟩ = some (.string aI) := (Yf aT.out 4).trans rfl
      have zP : wc.cell? ⟨bJ, 5, none⟩ = some (.string aK) := (Yf aT.out 5).trans rfl
      have zQ : wc.cell? ⟨bJ, 6, none⟩ = some (.bool aQ) := (Yf aT.out 6).trans rfl
      have zR : wc.cell? ⟨bJ, 7, none⟩ = some (.bool aR) := (Yf aT.out 7).trans rfl
      have zS := Ye aT.out 0
      have zT := Ye aT.out 1
      have zU := Ye aT.out 2
      have zV := Ye aT.out 3
      have zW := Ye aT.out 4
      have zX := Ye aT.out 5
      have zY := Ye aT.out 6
      have zZ := Ye aT.out 7
      go_wp2_with (first | ((with_reducible refine Yh (f := 73) rfl ?_); refine Yba (some 54) rfl rfl Tryz.func73 Zi rfl #[.string aAG, .string aC] rfl Zb ?_; (with_reducible refine (Yhg.calls aAG aC true _ ?side1 jB.out).mono ?_); (case side1 => first | exact HE.out | exact EnvOk.below HE.out Zj); rintro e w35 ⟨rfl, hb⟩; refine ⟨_, rfl, ?_⟩; have aM := Ya.mk (Ydb (g := bJ) (o := .cells #[.string aC, .string aH, .int .i64 aJ, .string aG, .string aI, .string aK, .bool aQ, .bool aR] 25 (0, 0)) Zo hb); have aU := Ya.mk (Ydb (g := bL) (o := .cells #[.string cA, .string bW, .int .i64 bK, .string bH, .string bD, .string bC, .bool aY, .bool aV] 25 (0, 0)) Zr hb); have bI := Ya.mk (Ys Zj hb); clear aT; clear aW; clear HB; have aT := aM; have aW := aU; have HB := bI; clear aM aU bI; (try clear hb); (try clear cC); (try clear hk); (try clear hi)) | (go_at_call 71; (with_reducible refine (Yob.calls aHg aAH aEE _ ?side1 A32.out).mono ?_); (case side1 => first | exact HE.out | exact EnvOk.below HE.out Zj); rintro e w36 ⟨rfl, hb⟩; have aM := Ya.mk (Ydb (g := bJ) (o := .cells #[.string aC, .string aH, .int .i64 aJ, .string aG, .string aI, .string aK, .bool aQ, .bool aR] 25 (0, 0)) Zo hb); have aU := Ya.mk (Ydb (g := bL) (o := .cells #[.string cA, .string bW, .int .i64 bK, .string bH, .string bD, .string bC, .bool aY, .bool aV] 25 (0, 0)) Zr hb); have bI := Ya.mk (Ys Zj hb); clear aT; clear aW; clear HB; have aT := aM; have aW := aU; have HB := bI; clear aM aU bI; (try clear hb); (try clear cC); (try clear hk); (try clear hi)))
      go_meet
      case rel => exact ⟨_, (decide (aEE > 0)), Zf, H', ⟨by have := dD.out; have := aEH.out; first | omega | exact Nat.le_refl _⟩, ⟨Zo⟩, ⟨Zr⟩, ⟨Zj⟩⟩
     case rest =>
      clear aHj
      try clear c1
      try clear c2
      try clear p2
      try clear c3
      try clear c4
      try clear c7
      try clear c8
      try clear dG
      try clear dV
      try clear oL
      try clear eN
      try clear dJ
      try clear eH
      try clear hD
      try clear mQ
      try clear aAh
      try clear aCm
      try clear aLd
      try clear iJ
      try clear lT
      try clear oS
      try clear aLe
      try clear kE
      try clear c27
      try clear c28
      try clear rS
      try clear c33
      try clear c37
      try clear mS
      try clear mT
      try clear mU
      try clear mV
      try clear mW
      try clear mX
      try clear mY
      try clear mZ
      try clear rC
      try clear rD
      try clear rE
      try clear rF
      try clear rG
      try clear rH
      try clear rI
      try clear rJ
      try clear xO
      try clear xP
      try clear xQ
      try clear xR
      try clear xS
      try clear xT
      try clear xU
      try clear xV
      try clear zK
      try clear zL
      try clear zM
      try clear zN
      try clear zO
      try clear zP
      try clear zQ
      try clear zR
      try clear yU
      try clear yV
      try clear yW
      try clear yX
      try clear yY
      try clear yZ
      try clear zA
      try clear zB
      try clear sA
      try clear sB
      try clear sC
      try clear sD
      try clear sE
      try clear sF
      try clear sG
      try clear sH
      try clear nA
      try clear nB
      try clear nC
      try clear nD
      try clear nE
      try clear nF
      try clear nG
      try clear nH
      try clear rK
      try clear rL
      try clear rM
      try clear rN
      try clear rO
      try clear rP
      try clear rQ
      try clear rR
      try clear xW
      try clear xX
      try clear xY
      try clear xZ
      try clear yA
      try clear yB
      try clear yC
      try clear yD
      try clear zS
      try clear zT
      try clear zU
      try clear zV
      try clear zW
      try clear zX
      try clear zY
      try clear zZ
      try clear zC
      try clear zD
      try clear zE
      try clear zF
      try clear zG
      try clear zH
      try clear zI
      try clear zJ
      try clear sI
      try clear sJ
      try clear sK
      try clear sL
      try clear sM
      try clear sN
      try clear sO
      try clear sP
      try clear p2
      obtain ⟨kq, sU, rfl, HA, aLj, aT, aW, HB⟩ := hcut
      cases kq with
      | zero => exact absurd HA.out (by simp [Ywa.j2])
      | succ aLk =>
       have H := HA.out
       clear HA
       simp only [Ywa.j2] at H
       by_cases c40 : sU = true
       rotate_left
       ·replace c40 := Bool.eq_false_iff.mpr c40
        subst c40
        rw [if_neg (show ¬ (false = true) by decide)] at H
        replace H := Option.bind_eq_some_iff.mp H
        obtain ⟨aEF, aLl, H⟩ := H
        try dsimp -simprocs only at H
        have A45 := Ya.mk aLl
        clear aLl
        have H' := Ya.mk H
        clear H
        go_wp2_with (first | ((with_reducible refine Yh (f := 21) rfl ?_); refine Yba (some 66) rfl rfl Tryz.func21 Zi rfl #[.string aAH] rfl Zb ?_; (with_reducible refine (Yxd.calls aAH aEF _ ?side1 A45.out).mono ?_); (case side1 => first | exact HE.out | exact EnvOk.below HE.out Zj); rintro e w46 ⟨rfl, hb⟩; refine ⟨_, rfl, ?_⟩; have aM := Ya.mk (Ydb (g := bJ) (o := .cells #[.string aC, .string aH, .int .i64 aJ, .string aG, .string aI, .string aK, .bool aQ, .bool aR] 25 (0, 0)) Zo hb); have aU := Ya.mk (Ydb (g := bL) (o := .cells #[.string cA, .string bW, .int .i64 bK, .string bH, .string bD, .string bC, .bool aY, .bool aV] 25 (0, 0)) Zr hb); have bI := Ya.mk (Ys Zj hb); clear aT; clear aW; clear HB; have aT := aM; have aW := aU; have HB := bI; clear aM aU bI; (try clear hb); (try clear cC); (try clear hk); (try clear hi)))
        go_roundg aLk
        case measure => have := dD.out; have := aEH.out; have := aLj.out; omega
        case rel => exact ⟨(aEF), (cA), (bW), (bK), (bH), (bD), (bC), (aY), (aV), Zf, H', ⟨by have := dD.out; have := aEH.out; have := aLj.out; omega⟩, ⟨Zo⟩, ⟨Zr⟩, ⟨Zj⟩⟩
       subst c40
       rw [if_pos rfl] at H
       replace H := Option.bind_eq_some_iff.mp H
       obtain ⟨⟨sV, vA, xA, aAK, aCT, aEK, aHk, aLm, aWX⟩, aLn, H⟩ := H
       try dsimp -simprocs only at H
       have A41 := Ya.mk aLn
       clear aLn
       simp only [Option.some.injEq, Prod.mk.injEq] at H
       obtain ⟨rfl, rfl, rfl, rfl, rfl, rfl, rfl, rfl, rfl⟩ := H
       go_wp2_with (first | ((with_reducible refine Yh (f := 15) rfl ?_); refine Yba (some 62) rfl rfl Tryz.func15 Zi rfl #[.string aD] rfl Zb ?_; (with_reducible refine (Ysd.calls aLk aD sV vA xA aAK aCT aEK aHk aLm aWX _ ?side1 A41.out).mono ?_); (case side1 => first | exact HE.out | exact EnvOk.below HE.out Zj); rintro e w42 ⟨rfl, hb⟩; refine ⟨_, rfl, ?_⟩; have aM := Ya.mk (Ydb (g := bJ) (o := .cells #[.string aC, .string aH, .int .i64 aJ, .string aG, .string aI, .string aK, .bool aQ, .bool aR] 25 (0, 0)) Zo hb); have aU := Ya.mk (Ydb (g := bL) (o := .cells #[.string cA, .string bW, .int .i64 bK, .string bH, .string bD, .string bC, .bool aY, .bool aV] 25 (0, 0)) Zr hb); have bI := Ya.mk (Ys Zj hb); clear aT; clear aW; clear HB; have aT := aM; have aW := aU; have HB := bI; clear aM aU bI; (try clear hb); (try clear cC); (try clear hk); (try clear hi); have aYb := eA.out; have aYc := dZ.out; have aUV : w42.cell? ⟨bL, 0, none⟩ = some (.string cA) := (Yf aW.out 0).trans rfl; have aUW : w42.cell? ⟨bL, 1, none⟩ = some (.string bW) := (Yf aW.out 1).trans rfl; have aUX : w42.cell? ⟨bL, 2, none⟩ = some (.int .i64 bK) := (Yf aW.out 2).trans rfl; have aUY : w42.cell? ⟨bL, 3, none⟩ = some (.string bH) := (Yf aW.out 3).trans rfl; have aUZ : w42.cell? ⟨bL, 4, none⟩ = some (.string bD) := (Yf aW.out 4).trans rfl; have aVa : w42.cell? ⟨bL, 5, none⟩ = some (.string bC) := (Yf aW.out 5).trans rfl; have aVb : w42.cell? ⟨bL, 6, none⟩ = some (.bool aY) := (Yf aW.out 6).trans rfl; have aVc : w42.cell? ⟨bL, 7, none⟩ = some (.bool aV) := (Yf aW.out 7).trans rfl; have aVd := Ye aW.out 0; have aVe := Ye aW.out 1; have aVf := Ye aW.out 2; have aVg := Ye aW.out 3; have aVh := Ye aW.out 4; have aVi := Ye aW.out 5; have aVj := Ye aW.out 6; have aVk := Ye aW.out 7))
       refine bodyPost_ret (Yki rfl _ _ bL 25 #[.string sV, .string vA, .int .i64 xA, .string aAK, .string aCT, .string aEK, .bool aHk, .bool aLm] (0, 0) _ rfl (by (with_reducible repeat (first | refine Ym ?_ _ | refine Yr ?_ | refine Yj ?_ _)); refine Yoa (cs := #[.string sV, .string vA, .int .i64 xA, .string aAK, .string aCT, .string aEK, .bool aHk, .bool aV]) ?_ 7 _ rfl; (with_reducible repeat (first | refine Ym ?_ _ | refine Yr ?_ | refine Yj ?_ _)); refine Yoa (cs := #[.string sV, .string vA, .int .i64 xA, .string aAK, .string aCT, .string aEK, .bool aY, .bool aV]) ?_ 6 _ rfl; (with_reducible repeat (first | refine Ym ?_ _ | refine Yr ?_ | refine Yj ?_ _)); refine Yoa (cs := #[.string sV, .string vA, .int .i64 xA, .string aAK, .string aCT, .string bC, .bool aY, .bool aV]) ?_ 5 _ rfl; (with_reducible repeat (first | refine Ym ?_ _ | refine Yr ?_ | refine Yj ?_ _)); refine Yoa (cs := #[.string sV, .string vA, .int .i64 xA, .string aAK, .string bD, .string bC, .bool aY, .bool aV]) ?_ 4 _ rfl; (with_reducible repeat (first | refine Ym ?_ _ | refine Yr ?_ | refine Yj ?_ _)); refine Yoa (cs := #[.string sV, .string vA, .int .i64 xA, .string bH, .string bD, .string bC, .bool aY, .bool aV]) ?_ 3 _ rfl; (with_reducible repeat (first | refine Ym ?_ _ | refine Yr ?_ | refine Yj ?_ _)); refine Yoa (cs := #[.string sV, .string vA, .int .i64 bK, .string bH, .string bD, .string bC, .bool aY, .bool aV]) ?_ 2 _ rfl; (with_reducible repeat (first | refine Ym ?_ _ | refine Yr ?_ | refine Yj ?_ _)); refine Yoa (cs := #[.string sV, .string bW, .int .i64 bK, .string bH, .string bD, .string bC, .bool aY, .bool aV]) ?_ 1 _ rfl; (with_reducible repeat (first | refine Ym ?_ _ | refine Yr ?_ | refine Yj ?_ _)); refine Yoa (cs := #[.string cA, .string bW, .int .i64 bK, .string bH, .string bD, .string bC, .bool aY, .bool aV]) ?_ 0 _ rfl; (with_reducible repeat (first | refine Ym ?_ _ | refine Yr ?_ | refine Yj ?_ _)); exact aW.out) Tryz.underlying25 rfl Zi) rfl ?_
       exact ⟨Zk, Zj⟩
end Go.Proofs.YtnmglnglbdpjjaaGreatDoor.X
