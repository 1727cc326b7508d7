import Derived.Test.YtnmglnglbdpjjaaGreatDoorUfX1
import Derived.Test.YtnmglnglbdpjjaaGreatDoorUfZw
set_option linter.all false
namespace Go.Proofs.YtnmglnglbdpjjaaGreatDoor.X
open Go.RowKit Go.Yw.PrintWords Go.Yw.PrintLast Go.Yw.PrintMore
attribute [local go_sem] Yfe Ybe Yre Yue Yld Ykd Yee Yde
attribute [local go_sem high] eqA25
mutual
def Yza.l0 : Nat → Y → Y → Y → Int → Y → Y → Y → Bool → Bool → Option (Y × Y × Int × Y × Y × Y × Bool × Bool × Int)
 | 0, _, _, _, _, _, _, _, _, _ => none
 | k + 1, x6, eK, hM, hO, hU, hX, hY, hZ, iA => if (x6.size : Int) > 2048 then (some ((⟨#[]⟩ : Y), (⟨#[]⟩ : Y), 0, (⟨#[]⟩ : Y), (⟨#[]⟩ : Y), (⟨#[]⟩ : Y), false, false, 5)) else ((Yma.f k x6).bind fun dU => (if dU.2.2 = true then (Yza.j1 k x6 dU.1 dU.2.1 dU.2.2 false eK hM hO hU hX hY hZ iA) else ((Yub.f k x6).bind fun uM => (Yza.j1 k x6 dU.1 dU.2.1 dU.2.2 (uM == 2) eK hM hO hU hX hY hZ iA))))
def Yza.j1 : Nat → Y → Y → Y → Bool → Bool → Y → Y → Int → Y → Y → Y → Bool → Bool → Option (Y × Y × Int × Y × Y × Y × Bool × Bool × Int)
 | 0, _, _, _, _, _, _, _, _, _, _, _, _, _ => none
 | k + 1, x6, x7, x8, x9, x26, eK, hM, hO, hU, hX, hY, hZ, iA => if x26 = true then (if eK.size + 1 ≤ 9223372036854775807 then (if (eK ++ (⟨#[58]⟩ : Y)).size + x6.size ≤ 9223372036854775807 then ((Yrd.f k ((eK ++ (⟨#[58]⟩ : Y)) ++ x6)).bind fun kT => (some (kT.1, kT.2.1, kT.2.2.1, kT.2.2.2.1, kT.2.2.2.2.1, kT.2.2.2.2.2.1, kT.2.2.2.2.2.2.1, kT.2.2.2.2.2.2.2.1, kT.2.2.2.2.2.2.2.2))) else (none)) else (none)) else (if x9 = true then ((Ylg.f x7 eK).bind fun aGQ => (if aGQ = true then ((Yub.f k x8).bind fun aEt => (Yza.j2 k x6 x8 (decide (aEt > 0)) eK hM hO hU hX hY hZ iA)) else (Yza.j2 k x6 x8 true eK hM hO hU hX hY hZ iA))) else ((Yvf.f eK hM hO hU hX hY hZ iA x6).bind fun kU => (some (kU.1, kU.2.1, kU.2.2.1, kU.2.2.2.1, kU.2.2.2.2.1, kU.2.2.2.2.2.1, kU.2.2.2.2.2.2.1, kU.2.2.2.2.2.2.2.1, kU.2.2.2.2.2.2.2.2))))
def Yza.j2 : Nat → Y → Y → Bool → Y → Y → Int → Y → Y → Y → Bool → Bool → Option (Y × Y × Int × Y × Y × Y × Bool × Bool × Int)
 | 0, _, _, _, _, _, _, _, _, _, _, _ => none
 | k + 1, x6, x8, x50, eK, hM, hO, hU, hX, hY, hZ, iA => if x50 = true then ((Yrd.f k x6).bind fun kV => (some (kV.1, kV.2.1, kV.2.2.1, kV.2.2.2.1, kV.2.2.2.2.1, kV.2.2.2.2.2.1, kV.2.2.2.2.2.2.1, kV.2.2.2.2.2.2.2.1, kV.2.2.2.2.2.2.2.2))) else ((Yxd.f x8).bind fun aEu => (Yza.l0 k aEu eK hM hO hU hX hY hZ iA))
end
def Yza.f (k : Nat) (aE aJ : Y) (aN : Int) (aG aM aK : Y) (aU aV : Bool) (a1 : Y) : Option (Y × Y × Int × Y × Y × Y × Bool × Bool × Int) := (Ybj.f k aE aJ aN aG aM aK aU aV).bind fun aCC => (if aCC = true then ((Yxd.f a1).bind fun aAe => (Yza.l0 k aAe aE aJ aN aG aM aK aU aV)) else (some ((⟨#[]⟩ : Y), (⟨#[]⟩ : Y), 0, (⟨#[]⟩ : Y), (⟨#[]⟩ : Y), (⟨#[]⟩ : Y), false, false, 1)))
set_option maxHeartbeats 8000000 in
set_option maxRecDepth 100000 in
theorem Yza.calls (k : Nat) (aE aJ : Y) (aN : Int) (aG aM aK : Y) (aU aV : Bool) (a1 r1 r2 : Y) (r3 : Int) (r4 r5 r6 : Y) (r7 r8 : Bool) (r9 : Int) (w : World) (hE : EnvOk w) (h : Yza.f k aE aJ aN aG aM aK aU aV a1 = some (r1, r2, r3, r4, r5, r6, r7, r8, r9)) :
  Calls Tryz.prog 33 #[.agg #[.string aE, .string aJ, .int .i64 aN, .string aG, .string aM, .string aK, .bool aU, .bool aV], .string a1] w fun e w' => e = .returned (.tuple #[.agg #[.string r1, .string r2, .int .i64 r3, .string r4, .string r5, .string r6, .bool r7, .bool r8], .int .i64 r9]) ∧ Below w.heap.size w w' := by
 have bQ := Tryz.underlying25
 have HE := Ya.mk hE
 clear hE
 have HB := Ya.mk (Below.refl w.heap.size w)
 have H : ((Ybj.f k aE aJ aN aG aM aK aU aV).bind fun aCC => (if aCC = true then ((Yxd.f a1).bind fun aAe => (Yza.l0 k aAe aE aJ aN aG aM aK aU aV)) else (some ((⟨#[]⟩ : Y), (⟨#[]⟩ : Y), 0, (⟨#[]⟩ : Y), (⟨#[]⟩ : Y), (⟨#[]⟩ : Y), false, false, 1)))) = some (r1, r2, r3, r4, r5, r6, r7, r8, r9) := h
 clear h
 obtain ⟨aCC, jC, H⟩ := Ku H
 try dsimp -simprocs only at H
 have A3 := Ya.mk jC
 clear jC
 by_cases c4 : aCC = true
 rotate_left
 ·replace c4 := Kx c4
  subst c4
  rw [if_neg (show ¬ (false = true) by decide)] at H
  simp only [Kda, Kea] at H
  obtain ⟨rfl, rfl, rfl, rfl, rfl, rfl, rfl, rfl, rfl⟩ := H
  go_enter Tryz.func33, Tryz.ntmps33
  go_wp2_with (first | ((with_reducible refine Ybd (N := 2) rfl ?_); refine Yzc ?hg (N := 2) ?hd (cs := #[.string aE, .string aJ, .int .i64 aN, .string aG, .string aM, .string aK, .bool aU, .bool aV]) (t := 25) ?hr ?_; (case hd => rfl); (case hg => rfl); (case hr => first | (go_simp; done) | (go_simp; rfl)); intro bJ hg w52 hbox hb; have aH := Ya.mk (Yt Za hb); have aR := Ya.mk (hbox); have bK := Ya.mk ((by rw [hg]; exact (Yka Za) : w.heap.size ≤ bJ)); have dM := Ya.mk ((by rw [hg]; exact (Yka Za) : w.heap.size ≤ bJ)); clear HB; have HB := aH; have aQ := aR; have aKG := bK; have aAB := dM; clear aH aR bK dM; clear hb hbox hg) | ((with_reducible refine Ybd (N := 4) rfl ?_); refine Yzc ?hg (N := 4) ?hd (cs := #[.string (⟨#[]⟩ : Y), .string (⟨#[]⟩ : Y), .int .i64 0, .string (⟨#[]⟩ : Y), .string (⟨#[]⟩ : Y), .string (⟨#[]⟩ : Y), .bool false, .bool false]) (t := 25) ?hr ?_; (case hd => rfl); (case hg => rfl); (case hr => first | (go_simp; done) | (go_simp; rfl)); intro bM hg w53 hbox hb; have aH := Ya.mk (Ykb (g := bJ) (o := .cells #[.string aE, .string aJ, .int .i64 aN, .string aG, .string aM, .string aK, .bool aU, .bool aV] 25 (0, 0)) Zo hb); have aR := Ya.mk (Yt Zea hb); have bK := Ya.mk (hbox); have dM := Ya.mk ((by rw [hg]; exact (Yka Zea) : w.heap.size ≤ bM)); have qC := Ya.mk ((by rw [hg]; exact (Yka Zea) : w.heap.size ≤ bM)); have qD := Ya.mk ((by rw [hg]; exact Nat.ne_of_lt (Yyd (g := bJ) (o := .cells #[.string aE, .string aJ, .int .i64 aN, .string aG, .string aM, .string aK, .bool aU, .bool aV] 25 (0, 0)) Zo) : bJ ≠ bM)); have qE := Ya.mk ((by rw [hg]; exact Nat.ne_of_gt (Yyd (g := bJ) (o := .cells #[.string aE, .string aJ, .int .i64 aN, .string aG, .string aM, .string aK, .bool aU, .bool aV] 25 (0, 0)) Zo) : bM ≠ bJ)); clear aQ; clear HB; have aQ := aH; have HB := aR; have aW := bK; have aKH := dM; have aEA := qC; have dY := qD; have dZ := qE; clear aH aR bK dM qC qD qE; clear hb hbox hg; have aXB := dY.out; have aXC := dZ.out; obtain ⟨aTv, aTw, aTx, aTy, aTz, aTA, aTB, aTC, aTD, aTE, aTF, aTG, aTH, aTI, aTJ, aTK⟩ := Ka aQ.out) | ((with_reducible refine Yh (f := 27) rfl ?_); refine Yca (some 11) rfl rfl Tryz.func27 Zi rfl #[.agg #[.string aE, .string aJ, .int .i64 aN, .string aG, .string aM, .string aK, .bool aU, .bool aV]] rfl Zb ?_; (with_reducible refine (Ybj.calls k aE aJ aN aG aM aK aU aV false _ ?z1 A3.out).mono ?_); (case z1 => exact Kn); rintro e w56 ⟨rfl, hb⟩; refine ⟨_, rfl, ?_⟩; replace aQ := Ya.mk (Ykb (g := bJ) (o := .cells #[.string aE, .string aJ, .int .i64 aN, .string aG, .string aM, .string aK, .bool aU, .bool aV] 25 (0, 0)) Zo hb); replace aW := Ya.mk (Ykb (g := bM) (o := .cells #[.string (⟨#[]⟩ : Y), .string (⟨#[]⟩ : Y), .int .i64 0, .string (⟨#[]⟩ : Y), .string (⟨#[]⟩ : Y), .string (⟨#[]⟩ : Y), .bool false, .bool false] 25 (0, 0)) Zr hb); replace HB := Ya.mk (Yt Zj hb); (try clear hb); obtain ⟨aTL, aTM, aTN, aTO, aTP, aTQ, aTR, aTS, aTT, aTU, aTV, aTW, aTX, aTY, aTZ, aUa⟩ := Ka aW.out))
  refine bodyPost_ret (Ywi rfl _ _ bM 25 #[.string (⟨#[]⟩ : Y), .string (⟨#[]⟩ : Y), .int .i64 0, .string (⟨#[]⟩ : Y), .string (⟨#[]⟩ : Y), .string (⟨#[]⟩ : Y), .bool false, .bool false] (0, 0) _ rfl (by (with_reducible repeat (first | refine Yi ?_ _ | refine Yp ?_ | refine Ym ?_ _)); refine Yoa (cs := #[.string (⟨#[]⟩ : Y), .string (⟨#[]⟩ : Y), .int .i64 0, .string (⟨#[]⟩ : Y), .string (⟨#[]⟩ : Y), .string (⟨#[]⟩ : Y), .bool false, .bool false]) ?_ 7 _ rfl; (with_reducible repeat (first | refine Yi ?_ _ | refine Yp ?_ | refine Ym ?_ _)); refine Yoa (cs := #[.string (⟨#[]⟩ : Y), .string (⟨#[]⟩ : Y), .int .i64 0, .string (⟨#[]⟩ : Y), .string (⟨#[]⟩ : Y), .string (⟨#[]⟩ : Y), .bool false, .bool false]) ?_ 6 _ rfl; (with_reducible repeat (first | refine Yi ?_ _ | refine Yp ?_ | refine Ym ?_ _)); refine Yoa (cs := #[.string (⟨#[]⟩ : Y), .string (⟨#[]⟩ : Y), .int .i64 0, .string (⟨#[]⟩ : Y), .string (⟨#[]⟩ : Y), .string (⟨#[]⟩ : Y), .bool false, .bool false]) ?_ 5 _ rfl; (with_reducible repeat (first | refine Yi ?_ _ | refine Yp ?_ | refine Ym ?_ _)); refine Yoa (cs := #[.string (⟨#[]⟩ : Y), .string (⟨#[]⟩ : Y), .int .i64 0, .string (⟨#[]⟩ : Y), .string (⟨#[]⟩ : Y), .string (⟨#[]⟩ : Y), .bool false, .bool false]) ?_ 4 _ rfl; (with_reducible repeat (first | refine Yi ?_ _ | refine Yp ?_ | refine Ym ?_ _)); refine Yoa (cs := #[.string (⟨#[]⟩ : Y), .string (⟨#[]⟩ : Y), .int .i64 0, .string (⟨#[]⟩ : Y), .string (⟨#[]⟩ : Y), .string (⟨#[]⟩ : Y), .bool false, .bool false]) ?_ 3 _ rfl; (with_reducible repeat (first | refine Yi ?_ _ | refine Yp ?_ | refine Ym ?_ _)); refine Yoa (cs := #[.string (⟨#[]⟩ : Y), .string (⟨#[]⟩ : Y), .int .i64 0, .string (⟨#[]⟩ : Y), .string (⟨#[]⟩ : Y), .string (⟨#[]⟩ : Y), .bool false, .bool false]) ?_ 2 _ rfl; (with_reducible repeat (first | refine Yi ?_ _ | refine Yp ?_ | refine Ym ?_ _)); refine Yoa (cs := #[.string (⟨#[]⟩ : Y), .string (⟨#[]⟩ : Y), .int .i64 0, .string (⟨#[]⟩ : Y), .string (⟨#[]⟩ : Y), .string (⟨#[]⟩ : Y), .bool false, .bool false]) ?_ 1 _ rfl; (with_reducible repeat (first | refine Yi ?_ _ | refine Yp ?_ | refine Ym ?_ _)); refine Yoa (cs := #[.string (⟨#[]⟩ : Y), .string (⟨#[]⟩ : Y), .int .i64 0, .string (⟨#[]⟩ : Y), .string (⟨#[]⟩ : Y), .string (⟨#[]⟩ : Y), .bool false, .bool false]) ?_ 0 _ rfl; (with_reducible repeat (first | refine Yi ?_ _ | refine Yp ?_ | refine Ym ?_ _)); exact aW.out) Tryz.underlying25 rfl Zi) rfl ?_
  exact ⟨Zl, Zj⟩
 subst c4
 rw [if_pos rfl] at H
 obtain ⟨aAe, tH, H⟩ := Ku H
 try dsimp -simprocs only at H
 have A5 := Ya.mk tH
 clear tH
 have H' := Ya.mk H
 clear H
 go_enter Tryz.func33, Tryz.ntmps33
 go_wp2_with (first | ((with_reducible refine Ybd (N := 2) rfl ?_); refine Yzc ?hg (N := 2) ?hd (cs := #[.string aE, .string aJ, .int .i64 aN, .string aG, .string aM, .string aK, .bool aU, .bool aV]) (t := 25) ?hr ?_; (case hd => rfl); (case hg => rfl); (case hr => first | (go_simp; done) | (go_simp; rfl)); intro bJ hg w6 hbox hb; have aH := Ya.mk (Yt Za hb); have aR := Ya.mk (hbox); have bK := Ya.mk ((by rw [hg]; exact (Yka Za) : w.heap.size ≤ bJ)); have dM := Ya.mk ((by rw [hg]; exact (Yka Za) : w.heap.size ≤ bJ)); clear HB; have HB := aH; have aQ := aR; have aKG := bK; have aAB := dM; clear aH aR bK dM; clear hb hbox hg) | ((with_reducible refine Ybd (N := 4) rfl ?_); refine Yzc ?hg (N := 4) ?hd (cs := #[.string (⟨#[]⟩ : Y), .string (⟨#[]⟩ : Y), .int .i64 0, .string (⟨#[]⟩ : Y), .string (⟨#[]⟩ : Y), .string (⟨#[]⟩ : Y), .bool false, .bool false]) (t := 25) ?hr ?_; (case hd => rfl); (case hg => rfl); (case hr => first | (go_simp; done) | (go_simp; rfl)); intro bM hg w7 hbox hb; have aH := Ya.mk (Ykb (g := bJ) (o := .cells #[.string aE, .string aJ, .int .i64 aN, .string aG, .string aM, .string aK, .bool aU, .bool aV] 25 (0, 0)) Zo hb); have aR := Ya.mk (Yt Zea hb); have bK := Ya.mk (hbox); have dM := Ya.mk ((by rw [hg]; exact (Yka Zea) : w.heap.size ≤ bM)); have qC := Ya.mk ((by rw [hg]; exact (Yka Zea) : w.heap.size ≤ bM)); have qD := Ya.mk ((by rw [hg]; exact Nat.ne_of_lt (Yyd (g := bJ) (o := .cells #[.string aE, .string aJ, .int .i64 aN, .string aG, .string aM, .string aK, .bool aU, .bool aV] 25 (0, 0)) Zo) : bJ ≠ bM)); have qE := Ya.mk ((by rw [hg]; exact Nat.ne_of_gt (Yyd (g := bJ) (o := .cells #[.string aE, .string aJ, .int .i64 aN, .string aG, .string aM, .string aK, .bool aU, .bool aV] 25 (0, 0)) Zo) : bM ≠ bJ)); clear aQ; clear HB; have aQ := aH; have HB := aR; have aW := bK; have aKH := dM; have aEA := qC; have dY := qD; have dZ := qE; clear aH aR bK dM qC qD qE; clear hb hbox hg; have aYw := dY.out; have aYx := dZ.out; obtain ⟨rQ, rR, rS, rT, rU, rV, rW, rX, rY, rZ, sA, sB, sC, sD, sE, sF⟩ := Ka aQ.out) | ((with_reducible refine Yh (f := 27) rfl ?_); refine Yca (some 11) rfl rfl Tryz.func27 Zi rfl #[.agg #[.string aE, .string aJ, .int .i64 aN, .string aG, .string aM, .string aK, .bool aU, .bool aV]] rfl Zb ?_; (with_reducible refine (Ybj.calls k aE aJ aN aG aM aK aU aV true _ ?z1 A3.out).mono ?_); (case z1 => exact Kn); rintro e pN ⟨rfl, hb⟩; refine ⟨_, rfl, ?_⟩; replace aQ := Ya.mk (Ykb (g := bJ) (o := .cells #[.string aE, .string aJ, .int .i64 aN, .string aG, .string aM, .string aK, .bool aU, .bool aV] 25 (0, 0)) Zo hb); replace aW := Ya.mk (Ykb (g := bM) (o := .cells #[.string (⟨#[]⟩ : Y), .string (⟨#[]⟩ : Y), .int .i64 0, .string (⟨#[]⟩ : Y), .string (⟨#[]⟩ : Y), .string (⟨#[]⟩ : Y), .bool false, .bool false] 25 (0, 0)) Zr hb); replace HB := Ya.mk (Yt Zj hb); (try clear hb)) | ((with_reducible refine Yh (f := 21) rfl ?_); refine Yca (some 15) rfl rfl Tryz.func21 Zi rfl #[.string a1] rfl Zb ?_; (with_reducible refine (Yxd.calls a1 aAe _ ?z1 A5.out).mono ?_); (case z1 => exact Kn); rintro e w11 ⟨rfl, hb⟩; refine ⟨_, rfl, ?_⟩; replace aQ := Ya.mk (Ykb (g := bJ) (o := .cells #[.string aE, .string aJ, .int .i64 aN, .string aG, .string aM, .string aK, .bool aU, .bool aV] 25 (0, 0)) Zo hb); replace aW := Ya.mk (Ykb (g := bM) (o := .cells #[.string (⟨#[]⟩ : Y), .string (⟨#[]⟩ : Y), .int .i64 0, .string (⟨#[]⟩ : Y), .string (⟨#[]⟩ : Y), .string (⟨#[]⟩ : Y), .bool false, .bool false] 25 (0, 0)) Zr hb); replace HB := Ya.mk (Yt Zj hb); (try clear hb)))
 go_loopg [6] k (fun kq v6 w' => ∃ (aC : Y) (bT : Y) (bP : Y) (bL : Int) (bI : Y) (bE : Y) (bC : Y) (aY : Bool) (aT : Bool), v6 = .string aC ∧ Ya (Yza.l0 kq aC aE aJ aN aG aM aK aU aV = some (r1, r2, r3, r4, r5, r6, r7, r8, r9)) ∧ Ya (kq ≤ k) ∧ Ya (w'.heap[bJ]? = some (.cells #[.string aE, .string aJ, .int .i64 aN, .string aG, .string aM, .string aK, .bool aU, .bool aV] 25 (0, 0))) ∧ Ya (w'.heap[bM]? = some (.cells #[.string bT, .string bP, .int .i64 bL, .string bI, .string bE, .string bC, .bool aY, .bool aT] 25 (0, 0))) ∧ Ya (Below w.heap.size w w'))
 case atStart => exact ⟨(aAe), ((⟨#[]⟩ : Y)), ((⟨#[]⟩ : Y)), (0), ((⟨#[]⟩ : Y)), ((⟨#[]⟩ : Y)), ((⟨#[]⟩ : Y)), (false), (false), Zf, H', ⟨Kw _⟩, ⟨Zo⟩, ⟨Zr⟩, ⟨Zj⟩⟩
 case round =>
  clear H'
  try clear c2
  try clear p2
  try clear c3
  try clear c4
  try clear c8
  try clear rQ
  try clear rR
  try clear rS
  try clear rT
  try clear rU
  try clear rV
  try clear rW
  try clear rX
  try clear rY
  try clear rZ
  try clear sA
  try clear sB
  try clear sC
  try clear sD
  try clear sE
  try clear sF
  obtain ⟨aC, bT, bP, bL, bI, bE, bC, aY, aT, rfl, HA, dB, aQ, aW, HB⟩ := hrel
  cases gk with
  | zero => exact absurd HA.out (by simp [Yza.l0])
  | succ k1 =>
   have H := HA.out
   clear HA
   simp only [Yza.l0] at H
   by_cases dD : (aC.size : Int) > 2048
   ·rw [if_pos dD] at H
    have dS : decide (2048 < (aC.size : Int)) = true := Kr dD
    have oG : decide (2048 < aC.size) = true := Kr Zk
    clear dD
    simp only [Kda, Kea] at H
    obtain ⟨rfl, rfl, rfl, rfl, rfl, rfl, rfl, rfl, rfl⟩ := H
    have aXD := dZ.out
    have aXE := dY.out
    obtain ⟨mP, mQ, mR, mS, mT, mU, mV, mW, mX, mY, mZ, nA, nB, nC, nD, nE⟩ := Ka aW.out
    go_wp2
    refine bodyPost_ret (Ywi rfl _ _ bM 25 #[.string (⟨#[]⟩ : Y), .string (⟨#[]⟩ : Y), .int .i64 0, .string (⟨#[]⟩ : Y), .string (⟨#[]⟩ : Y), .string (⟨#[]⟩ : Y), .bool false, .bool false] (0, 0) _ rfl (by (with_reducible repeat (first | refine Yi ?_ _ | refine Yp ?_ | refine Ym ?_ _)); refine Yoa (cs := #[.string (⟨#[]⟩ : Y), .string (⟨#[]⟩ : Y), .int .i64 0, .string (⟨#[]⟩ : Y), .string (⟨#[]⟩ : Y), .string (⟨#[]⟩ : Y), .bool false, .bool aT]) ?_ 7 _ rfl; (with_reducible repeat (first | refine Yi ?_ _ | refine Yp ?_ | refine Ym ?_ _)); refine Yoa (cs := #[.string (⟨#[]⟩ : Y), .string (⟨#[]⟩ : Y), .int .i64 0, .string (⟨#[]⟩ : Y), .string (⟨#[]⟩ : Y), .string (⟨#[]⟩ : Y), .bool aY, .bool aT]) ?_ 6 _ rfl; (with_reducible repeat (first | refine Yi ?_ _ | refine Yp ?_ | refine Ym ?_ _)); refine Yoa (cs := #[.string (⟨#[]⟩ : Y), .string (⟨#[]⟩ : Y), .int .i64 0, .string (⟨#[]⟩ : Y), .string (⟨#[]⟩ : Y), .string bC, .bool aY, .bool aT]) ?_ 5 _ rfl; (with_reducible repeat (first | refine Yi ?_ _ | refine Yp ?_ | refine Ym ?_ _)); refine Yoa (cs := #[.string (⟨#[]⟩ : Y), .string (⟨#[]⟩ : Y), .int .i64 0, .string (⟨#[]⟩ : Y), .string bE, .string bC, .bool aY, .bool aT]) ?_ 4 _ rfl; (with_reducible repeat (first | refine Yi ?_ _ | refine Yp ?_ | refine Ym ?_ _)); refine Yoa (cs := #[.string (⟨#[]⟩ : Y), .string (⟨#[]⟩ : Y), .int .i64 0, .string bI, .string bE, .string bC, .bool aY, .bool aT]) ?_ 3 _ rfl; (with_reducible repeat (first | refine Yi ?_ _ | refine Yp ?_ | refine Ym ?_ _)); refine Yoa (cs := #[.string (⟨#[]⟩ : Y), .string (⟨#[]⟩ : Y), .int .i64 bL, .string bI, .string bE, .string bC, .bool aY, .bool aT]) ?_ 2 _ rfl; (with_reducible repeat (first | refine Yi ?_ _ | refine Yp ?_ | refine Ym ?_ _)); refine Yoa (cs := #[.string (⟨#[]⟩ : Y), .string bP, .int .i64 bL, .string bI, .string bE, .string bC, .bool aY, .bool aT]) ?_ 1 _ rfl; (with_reducible repeat (first | refine Yi ?_ _ | refine Yp ?_ | refine Ym ?_ _)); refine Yoa (cs := #[.string bT, .string bP, .int .i64 bL, .string bI, .string bE, .string bC, .bool aY, .bool aT]) ?_ 0 _ rfl; (with_reducible repeat (first | refine Yi ?_ _ | refine Yp ?_ | refine Ym ?_ _)); exact aW.out) Tryz.underlying25 rfl Zi) rfl ?_
    exact ⟨Zl, Zj⟩
   rw [if_neg dD] at H
   have dS : decide (2048 < (aC.size : Int)) = false := Ks dD
   have oG : decide (2048 < aC.size) = false := Ks Zk
   clear dD
   obtain ⟨⟨aAf, aAg, aEv⟩, tG, H⟩ := Ku H
   try dsimp -simprocs only at H
   have A15 := Ya.mk tG
   clear tG
   have aGR := Ya.mk H
   clear H
   go_upto_region 7 with (first | ((with_reducible refine Yh (f := 70) rfl ?_); refine Yca (some 22) rfl rfl Tryz.func70 Zi rfl #[.string aC] rfl Zb ?_; (with_reducible refine (Yma.calls k1 aC aAf aAg aEv _ ?z1 A15.out).mono ?_); (case z1 => exact Kn); rintro e w' ⟨rfl, ⟨nd, rfl⟩⟩; refine ⟨_, rfl, ?_⟩))
   (try simp only [Act.put, Kca])
   go_cut [26] (fun v26 wc => ∃ (kq : Nat) (sH : Bool), v26 = .bool sH ∧ Ya (Yza.j1 kq aC aAf aAg aEv sH aE aJ aN aG aM aK aU aV = some (r1, r2, r3, r4, r5, r6, r7, r8, r9)) ∧ Ya (kq ≤ k1) ∧ Ya (wc.heap[bJ]? = some (.cells #[.string aE, .string aJ, .int .i64 aN, .string aG, .string aM, .string aK, .bool aU, .bool aV] 25 (0, 0))) ∧ Ya (wc.heap[bM]? = some (.cells #[.string bT, .string bP, .int .i64 bL, .string bI, .string bE, .string bC, .bool aY, .bool aT] 25 (0, 0))) ∧ Ya (Below w.heap.size w wc))
   case first =>
    have H := aGR.out
    clear aGR
    by_cases eG : aEv = true
    ·subst eG
     rw [if_pos rfl] at H
     have H' := Ya.mk H
     clear H
     go_wp2
     go_meet
     case rel => exact ⟨_, (false), Zf, H', ⟨Zia⟩, ⟨Zo⟩, ⟨Zr⟩, ⟨Zj⟩⟩
    replace eG := Kx eG
    subst eG
    rw [if_neg (show ¬ (false = true) by decide)] at H
    obtain ⟨uM, aCw, H⟩ := Ku H
    try dsimp -simprocs only at H
    have A18 := Ya.mk aCw
    clear aCw
    have H' := Ya.mk H
    clear H
    go_wp2_with (first | (go_at_call 71; (with_reducible refine (Yub.calls k1 aC uM _ ?z1 A18.out).mono ?_); (case z1 => exact Kn); rintro e w19 ⟨rfl, hb⟩; replace aQ := Ya.mk (Ykb (g := bJ) (o := .cells #[.string aE, .string aJ, .int .i64 aN, .string aG, .string aM, .string aK, .bool aU, .bool aV] 25 (0, 0)) Zo hb); replace aW := Ya.mk (Ykb (g := bM) (o := .cells #[.string bT, .string bP, .int .i64 bL, .string bI, .string bE, .string bC, .bool aY, .bool aT] 25 (0, 0)) Zr hb); replace HB := Ya.mk (Yt Zj hb); (try clear hb)))
    go_meet
    case rel => exact ⟨_, ((uM == 2)), Zf, H', ⟨Zia⟩, ⟨Zo⟩, ⟨Zr⟩, ⟨Zj⟩⟩
   case rest =>
    clear aGR
    try clear c2
    try clear p2
    try clear c3
    try clear c4
    try clear c8
    try clear dD
    try clear dS
    try clear oG
    try clear mP
    try clear mQ
    try clear mR
    try clear mS
    try clear mT
    try clear mU
    try clear mV
    try clear mW
    try clear rQ
    try clear rR
    try clear rS
    try clear rT
    try clear rU
    try clear rV
    try clear rW
    try clear rX
    try clear mX
    try clear mY
    try clear mZ
    try clear nA
    try clear nB
    try clear nC
    try clear nD
    try clear nE
    try clear rY
    try clear rZ
    try clear sA
    try clear sB
    try clear sC
    try clear sD
    try clear sE
    try clear sF
    try clear p2
    obtain ⟨kq, sH, rfl, HA, aEw, aQ, aW, HB⟩ := hcut
    cases kq with
    | zero => exact absurd HA.out (by simp [Yza.j1])
    | succ aGS =>
     have H := HA.out
     clear HA
     simp only [Yza.j1] at H
     by_cases gX : sH = true
     ·subst gX
      rw [if_pos rfl] at H
      by_cases mN : aE.size + 1 ≤ 9223372036854775807
      rotate_left
      ·rw [if_neg mN] at H
       exact absurd H Zv
      rw [if_pos mN] at H
      have zD := Kt mN
      have aCb : decide (aE.size + 1 ≤ 9223372036854775807) = true := Kr mN
      try have aKI : (9223372036854775807 < aE.size + 1) = False := eq_false (Nat.not_lt.2 mN)
      by_cases iF : (aE ++ (⟨#[58]⟩ : Y)).size + aC.size ≤ 9223372036854775807
      rotate_left
      ·rw [if_neg iF] at H
       exact absurd H Zv
      rw [if_pos iF] at H
      have lP := Kt iF
      have oN : decide ((aE ++ (⟨#[58]⟩ : Y)).size + aC.size ≤ 9223372036854775807) = true := Kr iF
      try have aKJ : (9223372036854775807 < (aE ++ (⟨#[58]⟩ : Y)).size + aC.size) = False := eq_false (Nat.not_lt.2 iF)
      obtain ⟨⟨sI, uN, vU, aAh, aCD, aEx, aGT, aKK, aWI⟩, aBQ, H⟩ := Ku H
      try dsimp -simprocs only at H
      have A23 := Ya.mk aBQ
      clear aBQ
      simp only [Kda, Kea] at H
      obtain ⟨rfl, rfl, rfl, rfl, rfl, rfl, rfl, rfl, rfl⟩ := H
      have aXF := dY.out
      have aXG := dZ.out
      obtain ⟨qR, qS, qT, qU, qV, qW, qX, qY, qZ, rA, rB, rC, rD, rE, rF, rG⟩ := Ka aQ.out
      go_wp2_with (first | ((with_reducible refine Yh (f := 15) rfl ?_); refine Yca (some 39) rfl rfl Tryz.func15 Zi rfl #[.string ((aE ++ (⟨#[58]⟩ : Y)) ++ aC)] rfl Zb ?_; (with_reducible refine (Yrd.calls aGS ((aE ++ (⟨#[58]⟩ : Y)) ++ aC) sI uN vU aAh aCD aEx aGT aKK aWI _ ?z1 A23.out).mono ?_); (case z1 => exact Kn); rintro e w26 ⟨rfl, hb⟩; refine ⟨_, rfl, ?_⟩; replace aQ := Ya.mk (Ykb (g := bJ) (o := .cells #[.string aE, .string aJ, .int .i64 aN, .string aG, .string aM, .string aK, .bool aU, .bool aV] 25 (0, 0)) Zo hb); replace aW := Ya.mk (Ykb (g := bM) (o := .cells #[.string bT, .string bP, .int .i64 bL, .string bI, .string bE, .string bC, .bool aY, .bool aT] 25 (0, 0)) Zr hb); replace HB := Ya.mk (Yt Zj hb); (try clear hb); obtain ⟨wK, wL, wM, wN, wO, wP, wQ, wR, wS, wT, wU, wV, wW, wX, wY, wZ⟩ := Ka aW.out))
      refine bodyPost_ret (Ywi rfl _ _ bM 25 #[.string sI, .string uN, .int .i64 vU, .string aAh, .string aCD, .string aEx, .bool aGT, .bool aKK] (0, 0) _ rfl (by (with_reducible repeat (first | refine Yi ?_ _ | refine Yp ?_ | refine Ym ?_ _)); refine Yoa (cs := #[.string sI, .string uN, .int .i64 vU, .string aAh, .string aCD, .string aEx, .bool aGT, .bool aT]) ?_ 7 _ rfl; (with_reducible repeat (first | refine Yi ?_ _ | refine Yp ?_ | refine Ym ?_ _)); refine Yoa (cs := #[.string sI, .string uN, .int .i64 vU, .string aAh, .string aCD, .string aEx, .bool aY, .bool aT]) ?_ 6 _ rfl; (with_reducible repeat (first | refine Yi ?_ _ | refine Yp ?_ | refine Ym ?_ _)); refine Yoa (cs := #[.string sI, .string uN, .int .i64 vU, .string aAh, .string aCD, .string bC, .bool aY, .bool aT]) ?_ 5 _ rfl; (with_reducible repeat (first | refine Yi ?_ _ | refine Yp ?_ | refine Ym ?_ _)); refine Yoa (cs := #[.string sI, .string uN, .int .i64 vU, .string aAh, .string bE, .string bC, .bool aY, .bool aT]) ?_ 4 _ rfl; (with_reducible repeat (first | refine Yi ?_ _ | refine Yp ?_ | refine Ym ?_ _)); refine Yoa (cs := #[.string sI, .string uN, .int .i64 vU, .string bI, .string bE, .string bC, .bool aY, .bool aT]) ?_ 3 _ rfl; (with_reducible repeat (first | refine Yi ?_ _ | refine Yp ?_ | refine Ym ?_ _)); refine Yoa (cs := #[.string sI, .string uN, .int .i64 bL, .string bI, .string bE, .string bC, .bool aY, .bool aT]) ?_ 2 _ rfl; (with_reducible repeat (first | refine Yi ?_ _ | refine Yp ?_ | refine Ym ?_ _)); refine Yoa (cs := #[.string sI, .string bP, .int .i64 bL, .string bI, .string bE, .string bC, .bool aY, .bool aT]) ?_ 1 _ rfl; (with_reducible repeat (first | refine Yi ?_ _ | refine Yp ?_ | refine Ym ?_ _)); refine Yoa (cs := #[.string bT, .string bP, .int .i64 bL, .string bI, .string bE, .string bC, .bool aY, .bool aT]) ?_ 0 _ rfl; (with_reducible repeat (first | refine Yi ?_ _ | refine Yp ?_ | refine Ym ?_ _)); exact aW.out) Tryz.underlying25 rfl Zi) rfl ?_
      exact ⟨Zl, Zj⟩
     replace gX := Kx gX
     subst gX
     rw [if_neg (show ¬ (false = true) by decide)] at H
     by_cases c28 : aEv = true
     rotate_left
     ·replace c28 := Kx c28
      subst c28
      rw [if_neg (show ¬ (false = true) by decide)] at H
      obtain ⟨⟨sJ, uO, vV, aAi, aCE, aEy, aGU, aKL, aWJ⟩, aKM, H⟩ := Ku H
      try dsimp -simprocs only at H
      have A47 := Ya.mk aKM
      clear aKM
      simp only [Kda, Kea] at H
      obtain ⟨rfl, rfl, rfl, rfl, rfl, rfl, rfl, rfl, rfl⟩ := H
      have aXH := dY.out
      have aXI := dZ.out
      obtain ⟨aUb, aUc, aUd, aUe, aUf, aUg, aUh, aUi, aUj, aUk, aUl, aUm, aUn, aUo, aUp, aUq⟩ := Ka aQ.out
      go_wp2_with (first | ((with_reducible refine Yh (f := 72) rfl ?_); refine Yca (some 47) rfl rfl Tryz.func72 Zi rfl #[.agg #[.string aE, .string aJ, .int .i64 aN, .string aG, .string aM, .string aK, .bool aU, .bool aV], .string aC] rfl Zb ?_; (with_reducible refine (Yvf.calls aE aJ aN aG aM aK aU aV aC sJ uO vV aAi aCE aEy aGU aKL aWJ _ ?z1 A47.out).mono ?_); (case z1 => exact Kn); rintro e w50 ⟨rfl, hb⟩; refine ⟨_, rfl, ?_⟩; replace aQ := Ya.mk (Ykb (g := bJ) (o := .cells #[.string aE, .string aJ, .int .i64 aN, .string aG, .string aM, .string aK, .bool aU, .bool aV] 25 (0, 0)) Zo hb); replace aW := Ya.mk (Ykb (g := bM) (o := .cells #[.string bT, .string bP, .int .i64 bL, .string bI, .string bE, .string bC, .bool aY, .bool aT] 25 (0, 0)) Zr hb); replace HB := Ya.mk (Yt Zj hb); (try clear hb); obtain ⟨aUr, aUs, aUt, aUu, aUv, aUw, aUx, aUy, aUz, aUA, aUB, aUC, aUD, aUE, aUF, aUG⟩ := Ka aW.out))
      refine bodyPost_ret (Ywi rfl _ _ bM 25 #[.string sJ, .string uO, .int .i64 vV, .string aAi, .string aCE, .string aEy, .bool aGU, .bool aKL] (0, 0) _ rfl (by (with_reducible repeat (first | refine Yi ?_ _ | refine Yp ?_ | refine Ym ?_ _)); refine Yoa (cs := #[.string sJ, .string uO, .int .i64 vV, .string aAi, .string aCE, .string aEy, .bool aGU, .bool aT]) ?_ 7 _ rfl; (with_reducible repeat (first | refine Yi ?_ _ | refine Yp ?_ | refine Ym ?_ _)); refine Yoa (cs := #[.string sJ, .string uO, .int .i64 vV, .string aAi, .string aCE, .string aEy, .bool aY, .bool aT]) ?_ 6 _ rfl; (with_reducible repeat (first | refine Yi ?_ _ | refine Yp ?_ | refine Ym ?_ _)); refine Yoa (cs := #[.string sJ, .string uO, .int .i64 vV, .string aAi, .string aCE, .string bC, .bool aY, .bool aT]) ?_ 5 _ rfl; (with_reducible repeat (first | refine Yi ?_ _ | refine Yp ?_ | refine Ym ?_ _)); refine Yoa (cs := #[.string sJ, .string uO, .int .i64 vV, .string aAi, .string bE, .string bC, .bool aY, .bool aT]) ?_ 4 _ rfl; (with_reducible repeat (first | refine Yi ?_ _ | refine Yp ?_ | refine Ym ?_ _)); refine Yoa (cs := #[.string sJ, .string uO, .int .i64 vV, .string bI, .string bE, .string bC, .bool aY, .bool aT]) ?_ 3 _ rfl; (with_reducible repeat (first | refine Yi ?_ _ | refine Yp ?_ | refine Ym ?_ _)); refine Yoa (cs := #[.string sJ, .string uO, .int .i64 bL, .string bI, .string bE, .string bC, .bool aY, .bool aT]) ?_ 2 _ rfl; (with_reducible repeat (first | refine Yi ?_ _ | refine Yp ?_ | refine Ym ?_ _)); refine Yoa (cs := #[.string sJ, .string bP, .int .i64 bL, .string bI, .string bE, .string bC, .bool aY, .bool aT]) ?_ 1 _ rfl; (with_reducible repeat (first | refine Yi ?_ _ | refine Yp ?_ | refine Ym ?_ _)); refine Yoa (cs := #[.string bT, .string bP, .int .i64 bL, .string bI, .string bE, .string bC, .bool aY, .bool aT]) ?_ 0 _ rfl; (with_reducible repeat (first | refine Yi ?_ _ | refine Yp ?_ | refine Ym ?_ _)); exact aW.out) Tryz.underlying25 rfl Zi) rfl ?_
      exact ⟨Zl, Zj⟩
     subst c28
     rw [if_pos rfl] at H
     have aGV := Ya.mk H
     clear H
     go_upto_region 11 with (fail)
     go_cut [50] (fun v50 wc => ∃ (kq : Nat) (sK : Bool), v50 = .bool sK ∧ Ya (Yza.j2 kq aC aAg sK aE aJ aN aG aM aK aU aV = some (r1, r2, r3, r4, r5, r6, r7, r8, r9)) ∧ Ya (kq ≤ aGS) ∧ Ya (wc.heap[bJ]? = some (.cells #[.string aE, .string aJ, .int .i64 aN, .string aG, .string aM, .string aK, .bool aU, .bool aV] 25 (0, 0))) ∧ Ya (wc.heap[bM]? = some (.cells #[.string bT, .string bP, .int .i64 bL, .string bI, .string bE, .string bC, .bool aY, .bool aT] 25 (0, 0))) ∧ Ya (Below w.heap.size w wc))
     case first =>
      have H := aGV.out
      clear aGV
      obtain ⟨aGQ, aBX, H⟩ := Ku H
      try dsimp -simprocs only at H
      have jC := Ya.mk aBX
      clear aBX
      by_cases rI : aGQ = true
      rotate_left
      ·replace rI := Kx rI
       subst rI
       rw [if_neg (show ¬ (false = true) by decide)] at H
       have H' := Ya.mk H
       clear H
       have aXJ := dY.out
       have aXK := dZ.out
       obtain ⟨xQ, xR, xS, xT, xU, xV, xW, xX, xY, xZ, yA, yB, yC, yD, yE, yF⟩ := Ka aQ.out
       go_wp2_with (first | ((with_reducible refine Yh (f := 73) rfl ?_); refine Yca (some 54) rfl rfl Tryz.func73 Zi rfl #[.string aAf, .string aE] rfl Zb ?_; (with_reducible refine (Ylg.calls aAf aE false _ ?z1 jC.out).mono ?_); (case z1 => exact Kn); rintro e w39 ⟨rfl, hb⟩; refine ⟨_, rfl, ?_⟩; replace aQ := Ya.mk (Ykb (g := bJ) (o := .cells #[.string aE, .string aJ, .int .i64 aN, .string aG, .string aM, .string aK, .bool aU, .bool aV] 25 (0, 0)) Zo hb); replace aW := Ya.mk (Ykb (g := bM) (o := .cells #[.string bT, .string bP, .int .i64 bL, .string bI, .string bE, .string bC, .bool aY, .bool aT] 25 (0, 0)) Zr hb); replace HB := Ya.mk (Yt Zj hb); (try clear hb)))
       go_meet
       case rel => exact ⟨_, (true), Zf, H', ⟨by have := dB.out; have := aEw.out; first | omega | exact Kw _⟩, ⟨Zo⟩, ⟨Zr⟩, ⟨Zj⟩⟩
      subst rI
      rw [if_pos rfl] at H
      obtain ⟨aEt, aKN, H⟩ := Ku H
      try dsimp -simprocs only at H
      have A32 := Ya.mk aKN
      clear aKN
      have H' := Ya.mk H
      clear H
      have aXL := dY.out
      have aXM := dZ.out
      obtain ⟨yG, yH, yI, yJ, yK, yL, yM, yN, yO, yP, yQ, yR, yS, yT, yU, yV⟩ := Ka aQ.out
      go_wp2_with (first | ((with_reducible refine Yh (f := 73) rfl ?_); refine Yca (some 54) rfl rfl Tryz.func73 Zi rfl #[.string aAf, .string aE] rfl Zb ?_; (with_reducible refine (Ylg.calls aAf aE true _ ?z1 jC.out).mono ?_); (case z1 => exact Kn); rintro e yW ⟨rfl, hb⟩; refine ⟨_, rfl, ?_⟩; replace aQ := Ya.mk (Ykb (g := bJ) (o := .cells #[.string aE, .string aJ, .int .i64 aN, .string aG, .string aM, .string aK, .bool aU, .bool aV] 25 (0, 0)) Zo hb); replace aW := Ya.mk (Ykb (g := bM) (o := .cells #[.string bT, .string bP, .int .i64 bL, .string bI, .string bE, .string bC, .bool aY, .bool aT] 25 (0, 0)) Zr hb); replace HB := Ya.mk (Yt Zj hb); (try clear hb)) | (go_at_call 71; (with_reducible refine (Yub.calls aGS aAg aEt _ ?z1 A32.out).mono ?_); (case z1 => exact Kn); rintro e w36 ⟨rfl, hb⟩; replace aQ := Ya.mk (Ykb (g := bJ) (o := .cells #[.string aE, .string aJ, .int .i64 aN, .string aG, .string aM, .string aK, .bool aU, .bool aV] 25 (0, 0)) Zo hb); replace aW := Ya.mk (Ykb (g := bM) (o := .cells #[.string bT, .string bP, .int .i64 bL, .string bI, .string bE, .string bC, .bool aY, .bool aT] 25 (0, 0)) Zr hb); replace HB := Ya.mk (Yt Zj hb); (try clear hb)))
      go_meet
      case rel => exact ⟨_, (decide (aEt > 0)), Zf, H', ⟨by have := dB.out; have := aEw.out; first | omega | exact Kw _⟩, ⟨Zo⟩, ⟨Zr⟩, ⟨Zj⟩⟩
     case rest =>
      clear aGV
      try clear c1
      try clear c2
      try clear p2
      try clear c3
      try clear c4
      try clear c7
      try clear c8
      try clear dD
      try clear dS
      try clear oG
      try clear eM
      try clear eG
      try clear gX
      try clear mN
      try clear zD
      try clear aCb
      try clear aKI
      try clear iF
      try clear lP
      try clear oN
      try clear aKJ
      try clear c28
      try clear mP
      try clear mQ
      try clear mR
      try clear mS
      try clear mT
      try clear mU
      try clear mV
      try clear mW
      try clear qR
      try clear qS
      try clear qT
      try clear qU
      try clear qV
      try clear qW
      try clear qX
      try clear qY
      try clear wK
      try clear wL
      try clear wM
      try clear wN
      try clear wO
      try clear wP
      try clear wQ
      try clear wR
      try clear rQ
      try clear rR
      try clear rS
      try clear rT
      try clear rU
      try clear rV
      try clear rW
      try clear rX
      try clear mX
      try clear mY
      try clear mZ
      try clear nA
      try clear nB
      try clear nC
      try clear nD
      try clear nE
      try clear qZ
      try clear rA
      try clear rB
      try clear rC
      try clear rD
      try clear rE
      try clear rF
      try clear rG
      try clear wS
      try clear wT
      try clear wU
      try clear wV
      try clear wW
      try clear wX
      try clear wY
      try clear wZ
      try clear rY
      try clear rZ
      try clear sA
      try clear sB
      try clear sC
      try clear sD
      try clear sE
      try clear sF
      try clear p2
      obtain ⟨kq, sK, rfl, HA, aKO, aQ, aW, HB⟩ := hcut
      cases kq with
      | zero => exact absurd HA.out (by simp [Yza.j2])
      | succ aKP =>
       have H := HA.out
       clear HA
       simp only [Yza.j2] at H
       by_cases c40 : sK = true
       rotate_left
       ·replace c40 := Kx c40
        subst c40
        rw [if_neg (show ¬ (false = true) by decide)] at H
        obtain ⟨aEu, aKQ, H⟩ := Ku H
        try dsimp -simprocs only at H
        have A45 := Ya.mk aKQ
        clear aKQ
        have H' := Ya.mk H
        clear H
        go_wp2_with (first | ((with_reducible refine Yh (f := 21) rfl ?_); refine Yca (some 66) rfl rfl Tryz.func21 Zi rfl #[.string aAg] rfl Zb ?_; (with_reducible refine (Yxd.calls aAg aEu _ ?z1 A45.out).mono ?_); (case z1 => exact Kn); rintro e w46 ⟨rfl, hb⟩; refine ⟨_, rfl, ?_⟩; replace aQ := Ya.mk (Ykb (g := bJ) (o := .cells #[.string aE, .string aJ, .int .i64 aN, .string aG, .string aM, .string aK, .bool aU, .bool aV] 25 (0, 0)) Zo hb); replace aW := Ya.mk (Ykb (g := bM) (o := .cells #[.string bT, .string bP, .int .i64 bL, .string bI, .string bE, .string bC, .bool aY, .bool aT] 25 (0, 0)) Zr hb); replace HB := Ya.mk (Yt Zj hb); (try clear hb)))
        go_roundg aKP
        case measure => have := dB.out; have := aEw.out; have := aKO.out; omega
        case rel => exact ⟨(aEu), (bT), (bP), (bL), (bI), (bE), (bC), (aY), (aT), Zf, H', ⟨by have := dB.out; have := aEw.out; have := aKO.out; omega⟩, ⟨Zo⟩, ⟨Zr⟩, ⟨Zj⟩⟩
       subst c40
       rw [if_pos rfl] at H
       obtain ⟨⟨sL, uP, vW, aAj, aCF, aEz, aGW, aKR, aWK⟩, aKS, H⟩ := Ku H
       try dsimp -simprocs only at H
       have A41 := Ya.mk aKS
       clear aKS
       simp only [Kda, Kea] at H
       obtain ⟨rfl, rfl, rfl, rfl, rfl, rfl, rfl, rfl, rfl⟩ := H
       go_wp2_with (first | ((with_reducible refine Yh (f := 15) rfl ?_); refine Yca (some 62) rfl rfl Tryz.func15 Zi rfl #[.string aC] rfl Zb ?_; (with_reducible refine (Yrd.calls aKP aC sL uP vW aAj aCF aEz aGW aKR aWK _ ?z1 A41.out).mono ?_); (case z1 => exact Kn); rintro e w42 ⟨rfl, hb⟩; refine ⟨_, rfl, ?_⟩; replace aQ := Ya.mk (Ykb (g := bJ) (o := .cells #[.string aE, .string aJ, .int .i64 aN, .string aG, .string aM, .string aK, .bool aU, .bool aV] 25 (0, 0)) Zo hb); replace aW := Ya.mk (Ykb (g := bM) (o := .cells #[.string bT, .string bP, .int .i64 bL, .string bI, .string bE, .string bC, .bool aY, .bool aT] 25 (0, 0)) Zr hb); replace HB := Ya.mk (Yt Zj hb); (try clear hb); have aXN := dZ.out; have aXO := dY.out; obtain ⟨aUH, aUI, aUJ, aUK, aUL, aUM, aUN, aUO, aUP, aUQ, aUR, aUS, aUT, aUU, aUV, aUW⟩ := Ka aW.out))
       refine bodyPost_ret (Ywi rfl _ _ bM 25 #[.string sL, .string uP, .int .i64 vW, .string aAj, .string aCF, .string aEz, .bool aGW, .bool aKR] (0, 0) _ rfl (by (with_reducible repeat (first | refine Yi ?_ _ | refine Yp ?_ | refine Ym ?_ _)); refine Yoa (cs := #[.string sL, .string uP, .int .i64 vW, .string aAj, .string aCF, .string aEz, .bool aGW, .bool aT]) ?_ 7 _ rfl; (with_reducible repeat (first | refine Yi ?_ _ | refine Yp ?_ | refine Ym ?_ _)); refine Yoa (cs := #[.string sL, .string uP, .int .i64 vW, .string aAj, .string aCF, .string aEz, .bool aY, .bool aT]) ?_ 6 _ rfl; (with_reducible repeat (first | refine Yi ?_ _ | refine Yp ?_ | refine Ym ?_ _)); refine Yoa (cs := #[.string sL, .string uP, .int .i64 vW, .string aAj, .string aCF, .string bC, .bool aY, .bool aT]) ?_ 5 _ rfl; (with_reducible repeat (first | refine Yi ?_ _ | refine Yp ?_ | refine Ym ?_ _)); refine Yoa (cs := #[.string sL, .string uP, .int .i64 vW, .string aAj, .string bE, .string bC, .bool aY, .bool aT]) ?_ 4 _ rfl; (with_reducible repeat (first | refine Yi ?_ _ | refine Yp ?_ | refine Ym ?_ _)); refine Yoa (cs := #[.string sL, .string uP, .int .i64 vW, .string bI, .string bE, .string bC, .bool aY, .bool aT]) ?_ 3 _ rfl; (with_reducible repeat (first | refine Yi ?_ _ | refine Yp ?_ | refine Ym ?_ _)); refine Yoa (cs := #[.string sL, .string uP, .int .i64 bL, .string bI, .string bE, .string bC, .bool aY, .bool aT]) ?_ 2 _ rfl; (with_reducible repeat (first | refine Yi ?_ _ | refine Yp ?_ | refine Ym ?_ _)); refine Yoa (cs := #[.string sL, .string bP, .int .i64 bL, .string bI, .string bE, .string bC, .bool aY, .bool aT]) ?_ 1 _ rfl; (with_reducible repeat (first | refine Yi ?_ _ | refine Yp ?_ | refine Ym ?_ _)); refine Yoa (cs := #[.string bT, .string bP, .int .i64 bL, .string bI, .string bE, .string bC, .bool aY, .bool aT]) ?_ 0 _ rfl; (with_reducible repeat (first | refine Yi ?_ _ | refine Yp ?_ | refine Ym ?_ _)); exact aW.out) Tryz.underlying25 rfl Zi) rfl ?_
       exact ⟨Zl, Zj⟩
end Go.Proofs.YtnmglnglbdpjjaaGreatDoor.X
