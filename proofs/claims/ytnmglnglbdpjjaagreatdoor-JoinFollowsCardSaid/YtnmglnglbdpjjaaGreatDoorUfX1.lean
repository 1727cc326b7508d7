import Derived.Test.YtnmglnglbdpjjaaGreatDoorUfX13
import Derived.Test.YtnmglnglbdpjjaaGreatDoorUfH4
set_option linter.all false
section
namespace Go.Proofs.YtnmglnglbdpjjaaGreatDoor.X
open Go.RowKit Go.Yw.PrintWords Go.Yw.PrintLast Go.Yw.PrintMore
attribute [local go_sem] Yfe Ybe Yre Yue Yld Ykd Yee Yde
theorem eqA25 (d : Nat) (w : World) (x0 y0 x1 y1 : Y) (x2 y2 : Int) (x3 y3 x4 y4 x5 y5 : Y) (x6 y6 x7 y7 : Bool) :
  (Op.equalIn (d + 2) 25 (.agg #[.string x0, .string x1, .int .i64 x2, .string x3, .string x4, .string x5, .bool x6, .bool x7]) (.agg #[.string y0, .string y1, .int .i64 y2, .string y3, .string y4, .string y5, .bool y6, .bool y7])).run Tryz.prog w = .ok (x0.toList == y0.toList && (x1.toList == y1.toList && (x2 == y2 && (x3.toList == y3.toList && (x4.toList == y4.toList && (x5.toList == y5.toList && (x6 == y6 && (x7 == y7)))))))) w := by
 refine eqA_of Tryz.underlying25 Zi ?_
 refine Ywf Zga (by go_simp; rfl) (by go_simp; rfl) (by go_simp) ?_
 refine Ywf Zga (by go_simp; rfl) (by go_simp; rfl) (by go_simp) ?_
 refine Ywf Zga (by go_simp; rfl) (by go_simp; rfl) (by go_simp) ?_
 refine Ywf Zga (by go_simp; rfl) (by go_simp; rfl) (by go_simp) ?_
 refine Ywf Zga (by go_simp; rfl) (by go_simp; rfl) (by go_simp) ?_
 refine Ywf Zga (by go_simp; rfl) (by go_simp; rfl) (by go_simp) ?_
 refine Ywf Zga (by go_simp; rfl) (by go_simp; rfl) (by go_simp) ?_
 exact Ylt Zga (by go_simp; rfl) (by go_simp; rfl) (by go_simp)
end Go.Proofs.YtnmglnglbdpjjaaGreatDoor.X
end
section
namespace Go.Proofs.YtnmglnglbdpjjaaGreatDoor.X
open Go.RowKit Go.Yw.PrintWords Go.Yw.PrintLast Go.Yw.PrintMore
attribute [local go_sem] Yfe Ybe Yre Yue Yld Ykd Yee Yde
attribute [local go_sem high] eqA25
def Ybj.f (k : Nat) (aE aJ : Y) (aN : Int) (aG aM aK : Y) (aU aV : Bool) : Option (Bool) := (Yid.f k aE aJ aN aG aM aK aU aV).bind fun pI => ((Yrd.f k pI).bind fun fU => (if fU.2.2.2.2.2.2.2.2 = 0 then (some (fU.1.toList == aE.toList && (fU.2.1.toList == aJ.toList && (fU.2.2.1 == aN && (fU.2.2.2.1.toList == aG.toList && (fU.2.2.2.2.1.toList == aM.toList && (fU.2.2.2.2.2.1.toList == aK.toList && (fU.2.2.2.2.2.2.1 == aU && (fU.2.2.2.2.2.2.2.1 == aV))))))))) else (some false)))
set_option maxHeartbeats 8000000 in
set_option maxRecDepth 100000 in
theorem Ybj.calls (k : Nat) (aE aJ : Y) (aN : Int) (aG aM aK : Y) (aU aV r : Bool) (w : World) (hE : EnvOk w) (h : Ybj.f k aE aJ aN aG aM aK aU aV = some r) :
  Calls Tryz.prog 27 #[.agg #[.string aE, .string aJ, .int .i64 aN, .string aG, .string aM, .string aK, .bool aU, .bool aV]] w fun e w' => e = .returned (.bool r) ∧ Below w.heap.size w w' := by
 have bQ := Tryz.underlying25
 have HE := Ya.mk hE
 clear hE
 have HB := Ya.mk (Below.refl w.heap.size w)
 have H : ((Yid.f k aE aJ aN aG aM aK aU aV).bind fun pI => ((Yrd.f k pI).bind fun fU => (if fU.2.2.2.2.2.2.2.2 = 0 then (some (fU.1.toList == aE.toList && (fU.2.1.toList == aJ.toList && (fU.2.2.1 == aN && (fU.2.2.2.1.toList == aG.toList && (fU.2.2.2.2.1.toList == aM.toList && (fU.2.2.2.2.2.1.toList == aK.toList && (fU.2.2.2.2.2.2.1 == aU && (fU.2.2.2.2.2.2.2.1 == aV))))))))) else (some false)))) = some r := h
 clear h
 obtain ⟨pI, dW, H⟩ := Ku H
 try dsimp -simprocs only at H
 have A2 := Ya.mk dW
 clear dW
 obtain ⟨⟨aKs, aKt, aKu, aKv, aKw, aKx, aKy, aKz, vT⟩, jC, H⟩ := Ku H
 try dsimp -simprocs only at H
 have A3 := Ya.mk jC
 clear jC
 by_cases c4 : vT = 0
 rotate_left
 ·rw [if_neg c4] at H
  have bX : (vT == 0) = false := Kz c4
  have jJ : (vT != 0) = true := Kaa c4
  obtain rfl := Kv H
  go_enter Tryz.func27, Tryz.ntmps27
  go_wp2_with (first | ((with_reducible refine Ybd (N := 1) rfl ?_); refine Yzc ?hg (N := 1) ?hd (cs := #[.string aE, .string aJ, .int .i64 aN, .string aG, .string aM, .string aK, .bool aU, .bool aV]) (t := 25) ?hr ?_; (case hd => rfl); (case hg => rfl); (case hr => first | (go_simp; done) | (go_simp; rfl)); intro bV hg nH hbox hb; have aH := Ya.mk (Yt Za hb); have aR := Ya.mk (hbox); have bK := Ya.mk ((by rw [hg]; exact (Yka Za) : w.heap.size ≤ bV)); have dM := Ya.mk ((by rw [hg]; exact (Yka Za) : w.heap.size ≤ bV)); clear HB; have HB := aH; have bN := aR; have aKA := bK; have vY := dM; clear aH aR bK dM; clear hb hbox hg; obtain ⟨mP, mQ, mR, mS, mT, mU, mV, mW, mX, mY, mZ, nA, nB, nC, nD, nE⟩ := Ka bN.out) | ((with_reducible refine Yh (f := 26) rfl ?_); refine Yca (some 7) rfl rfl Tryz.func26 Zi rfl #[.agg #[.string aE, .string aJ, .int .i64 aN, .string aG, .string aM, .string aK, .bool aU, .bool aV]] rfl Zb ?_; (with_reducible refine (Yid.calls k aE aJ aN aG aM aK aU aV pI _ ?z1 A2.out).mono ?_); (case z1 => exact Km); rintro e w15 ⟨rfl, hb⟩; refine ⟨_, rfl, ?_⟩; replace bN := Ya.mk (Ykb (g := bV) (o := .cells #[.string aE, .string aJ, .int .i64 aN, .string aG, .string aM, .string aK, .bool aU, .bool aV] 25 (0, 0)) Zx hb); replace HB := Ya.mk (Yt Zp hb); (try clear hb)) | ((with_reducible refine Yh (f := 15) rfl ?_); refine Yca (some 8) rfl rfl Tryz.func15 Zi rfl #[.string pI] rfl Zb ?_; (with_reducible refine (Yrd.calls k pI aKs aKt aKu aKv aKw aKx aKy aKz vT _ ?z1 A3.out).mono ?_); (case z1 => exact Km); rintro e w16 ⟨rfl, hb⟩; refine ⟨_, rfl, ?_⟩; replace bN := Ya.mk (Ykb (g := bV) (o := .cells #[.string aE, .string aJ, .int .i64 aN, .string aG, .string aM, .string aK, .bool aU, .bool aV] 25 (0, 0)) Zx hb); replace HB := Ya.mk (Yt Zp hb); (try clear hb)) | ((with_reducible refine Ybd (N := 3) rfl ?_); refine Yzc ?hg (N := 3) ?hd (cs := #[.string (⟨#[]⟩ : Y), .string (⟨#[]⟩ : Y), .int .i64 0, .string (⟨#[]⟩ : Y), .string (⟨#[]⟩ : Y), .string (⟨#[]⟩ : Y), .bool false, .bool false]) (t := 25) ?hr ?_; (case hd => rfl); (case hg => rfl); (case hr => first | (go_simp; done) | (go_simp; rfl)); intro dJ hg uL hbox hb; have aH := Ya.mk (Ykb (g := bV) (o := .cells #[.string aE, .string aJ, .int .i64 aN, .string aG, .string aM, .string aK, .bool aU, .bool aV] 25 (0, 0)) Zx hb); have aR := Ya.mk (Yt Zp hb); have bK := Ya.mk (hbox); have dM := Ya.mk ((by rw [hg]; exact (Yka Zp) : w.heap.size ≤ dJ)); have qC := Ya.mk ((by rw [hg]; exact (Yka Zp) : w.heap.size ≤ dJ)); have qD := Ya.mk ((by rw [hg]; exact Nat.ne_of_lt (Yyd (g := bV) (o := .cells #[.string aE, .string aJ, .int .i64 aN, .string aG, .string aM, .string aK, .bool aU, .bool aV] 25 (0, 0)) Zx) : bV ≠ dJ)); have qE := Ya.mk ((by rw [hg]; exact Nat.ne_of_gt (Yyd (g := bV) (o := .cells #[.string aE, .string aJ, .int .i64 aN, .string aG, .string aM, .string aK, .bool aU, .bool aV] 25 (0, 0)) Zx) : dJ ≠ bV)); clear bN; clear HB; have bN := aH; have HB := aR; have cO := bK; have aKB := dM; have aCB := qC; have lH := qD; have lI := qE; clear aH aR bK dM qC qD qE; clear hb hbox hg; have aKC := lI.out; have aKD := lH.out; obtain ⟨aEd, aEe, aEf, aEg, aEh, aEi, aEj, aEk, aEl, aEm, aEn, aEo, aEp, aEq, aEr, aEs⟩ := Ka cO.out))
  go_ret
  exact ⟨Zl, by repeat (first | (with_reducible first | exact HB.out | apply Yd | apply Yb | apply Yc | refine Yg ?_ vY.out | refine Yg ?_ aCB.out) | exact HB.out)⟩
 rw [if_pos c4] at H
 have bX : (vT == 0) = true := Kba c4
 have jJ : (vT != 0) = false := Ky c4
 clear c4
 obtain rfl := Kv H
 go_enter Tryz.func27, Tryz.ntmps27
 go_wp2_with (first | ((with_reducible refine Ybd (N := 1) rfl ?_); refine Yzc ?hg (N := 1) ?hd (cs := #[.string aE, .string aJ, .int .i64 aN, .string aG, .string aM, .string aK, .bool aU, .bool aV]) (t := 25) ?hr ?_; (case hd => rfl); (case hg => rfl); (case hr => first | (go_simp; done) | (go_simp; rfl)); intro bV hg w5 hbox hb; have aH := Ya.mk (Yt Za hb); have aR := Ya.mk (hbox); have bK := Ya.mk ((by rw [hg]; exact (Yka Za) : w.heap.size ≤ bV)); have dM := Ya.mk ((by rw [hg]; exact (Yka Za) : w.heap.size ≤ bV)); clear HB; have HB := aH; have bN := aR; have aKA := bK; have vY := dM; clear aH aR bK dM; clear hb hbox hg; obtain ⟨nJ, nK, nM, nN, nO, nP, nQ, nR, nS, nT, nU, nV, nW, nX, nY, nZ⟩ := Ka bN.out) | ((with_reducible refine Yh (f := 26) rfl ?_); refine Yca (some 7) rfl rfl Tryz.func26 Zi rfl #[.agg #[.string aE, .string aJ, .int .i64 aN, .string aG, .string aM, .string aK, .bool aU, .bool aV]] rfl Zb ?_; (with_reducible refine (Yid.calls k aE aJ aN aG aM aK aU aV pI _ ?z1 A2.out).mono ?_); (case z1 => exact Km); rintro e w7 ⟨rfl, hb⟩; refine ⟨_, rfl, ?_⟩; replace bN := Ya.mk (Ykb (g := bV) (o := .cells #[.string aE, .string aJ, .int .i64 aN, .string aG, .string aM, .string aK, .bool aU, .bool aV] 25 (0, 0)) Zx hb); replace HB := Ya.mk (Yt Zp hb); (try clear hb)) | ((with_reducible refine Yh (f := 15) rfl ?_); refine Yca (some 8) rfl rfl Tryz.func15 Zi rfl #[.string pI] rfl Zb ?_; (with_reducible refine (Yrd.calls k pI aKs aKt aKu aKv aKw aKx aKy aKz vT _ ?z1 A3.out).mono ?_); (case z1 => exact Km); rintro e w8 ⟨rfl, hb⟩; refine ⟨_, rfl, ?_⟩; replace bN := Ya.mk (Ykb (g := bV) (o := .cells #[.string aE, .string aJ, .int .i64 aN, .string aG, .string aM, .string aK, .bool aU, .bool aV] 25 (0, 0)) Zx hb); replace HB := Ya.mk (Yt Zp hb); (try clear hb)) | ((with_reducible refine Ybd (N := 3) rfl ?_); refine Yzc ?hg (N := 3) ?hd (cs := #[.string (⟨#[]⟩ : Y), .string (⟨#[]⟩ : Y), .int .i64 0, .string (⟨#[]⟩ : Y), .string (⟨#[]⟩ : Y), .string (⟨#[]⟩ : Y), .bool false, .bool false]) (t := 25) ?hr ?_; (case hd => rfl); (case hg => rfl); (case hr => first | (go_simp; done) | (go_simp; rfl)); intro dJ hg w9 hbox hb; have aH := Ya.mk (Ykb (g := bV) (o := .cells #[.string aE, .string aJ, .int .i64 aN, .string aG, .string aM, .string aK, .bool aU, .bool aV] 25 (0, 0)) Zx hb); have aR := Ya.mk (Yt Zp hb); have bK := Ya.mk (hbox); have dM := Ya.mk ((by rw [hg]; exact (Yka Zp) : w.heap.size ≤ dJ)); have qC := Ya.mk ((by rw [hg]; exact (Yka Zp) : w.heap.size ≤ dJ)); have qD := Ya.mk ((by rw [hg]; exact Nat.ne_of_lt (Yyd (g := bV) (o := .cells #[.string aE, .string aJ, .int .i64 aN, .string aG, .string aM, .string aK, .bool aU, .bool aV] 25 (0, 0)) Zx) : bV ≠ dJ)); have qE := Ya.mk ((by rw [hg]; exact Nat.ne_of_gt (Yyd (g := bV) (o := .cells #[.string aE, .string aJ, .int .i64 aN, .string aG, .string aM, .string aK, .bool aU, .bool aV] 25 (0, 0)) Zx) : dJ ≠ bV)); clear bN; clear HB; have bN := aH; have HB := aR; have cO := bK; have aKB := dM; have aCB := qC; have lH := qD; have lI := qE; clear aH aR bK dM qC qD qE; clear hb hbox hg; have aKE := lI.out; have aKF := lH.out; obtain ⟨lV, lW, lX, lY, lZ, mA, mB, mC, mD, mE, mF, mG, mH, mI, mJ, mK⟩ := Ka cO.out; obtain ⟨xA, xB, xC, xD, xE, xF, xG, xH, xI, xJ, xK, xL, xM, xN, xO, xP⟩ := Ka bN.out))
 go_ret
 exact ⟨Zl, by repeat (first | (with_reducible first | exact HB.out | apply Yd | apply Yb | apply Yc | refine Yg ?_ vY.out | refine Yg ?_ aCB.out) | exact HB.out)⟩
end Go.Proofs.YtnmglnglbdpjjaaGreatDoor.X
end
