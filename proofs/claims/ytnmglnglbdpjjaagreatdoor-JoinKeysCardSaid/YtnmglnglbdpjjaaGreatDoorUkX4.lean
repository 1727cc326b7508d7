/- Printed by a program of ours: functions as plain Lean, and what a call of each does. -/
import Derived.Test.YtnmglnglbdpjjaaGreatDoorUkWords
import Derived.Test.YtnmglnglbdpjjaaGreatDoorUkX0
import Derived.Test.YtnmglnglbdpjjaaGreatDoorUkX2
import Derived.Test.YtnmglnglbdpjjaaGreatDoorUkX3
import Derived.Test.YtnmglnglbdpjjaaGreatDoorUkQa
namespace Go.Proofs.YtnmglnglbdpjjaaGreatDoor.X
open Go.RowKit Go.Yw.PrintWords Go.Yw.PrintLast Go.Yw.PrintMore
attribute [local go_sem] Yde Yee Ywe Yve Ypd Yod Yce Ybe
set_option linter.unusedVariables false
set_option linter.unusedSimpArgs false
set_option maxHeartbeats 8000000
set_option maxRecDepth 100000
def Yjb.l0 : Nat → ByteArray → Int → List ByteArray → Option (List ByteArray)
 | 0, _, _, _ => none
 | k + 1, x0, x1, x5 => (strings_IndexByte.f x0 x1).bind fun gQ => (if gQ < 0 then (if x5.length < 8796093022208 then (some (x5 ++ [x0])) else (none)) else (if 0 ≤ gQ then (if gQ ≤ (x0.size : Int) then (if x5.length < 8796093022208 then (if 0 ≤ (wrap64 (gQ + 1)) then (if (wrap64 (gQ + 1)) ≤ (x0.size : Int) then (Yjb.l0 k (x0.extract ((wrap64 (gQ + 1)) : Int).toNat x0.size) x1 (x5 ++ [x0.extract 0 (gQ : Int).toNat])) else (none)) else (none)) else (none)) else (none)) else (none)))
def Yjb.f (k : Nat) (a0 : ByteArray) (a1 : Int) : Option (List ByteArray) := Yjb.l0 k a0 a1 ([] : List ByteArray)
theorem Yjb.mono_l : ∀ k, (∀ y0 y1 y2, LeO (Yjb.l0 k y0 y1 y2) (Yjb.l0 (k + 1) y0 y1 y2))
 | 0 => fun _ _ _ r h => by simp [Yjb.l0] at h
 | k + 1 => by
  have tC := Yjb.mono_l k
  ·intro y0 y1 y2
   unfold Yjb.l0
   repeat' first
   | (with_reducible exact tC _ _ _)
   | (with_reducible exact LeO.refl _)
   | (with_reducible exact LeO.none _)
   | (with_reducible refine LeO.ite ?_ ?_)
   | (with_reducible refine LeO.bind ?_ (fun _ => ?_))
   | exact tC _ _ _
   | exact LeO.none _
   | refine LeO.ite ?_ ?_
   | refine LeO.bind ?_ (fun _ => ?_)
theorem Yjb.mono : ∀ a0 a1 k, LeO (Yjb.f k a0 a1) (Yjb.f (k + 1) a0 a1) := by
 intro a0 a1 k
 have tC := Yjb.mono_l k
 unfold Yjb.f
 repeat' first
   | (with_reducible exact tC _ _ _)
   | (with_reducible exact LeO.refl _)
   | (with_reducible exact LeO.none _)
   | (with_reducible refine LeO.ite ?_ ?_)
   | (with_reducible refine LeO.bind ?_ (fun _ => ?_))
   | exact tC _ _ _
   | exact LeO.none _
   | refine LeO.ite ?_ ?_
   | refine LeO.bind ?_ (fun _ => ?_)
theorem Yjb.calls (k : Nat) (a0 : ByteArray) (a1 : Int) (r : List ByteArray) (w : World) (hE : EnvOk w) (h : Yjb.f k a0 a1 = some r) :
  Calls Tryz.prog 60 #[.string a0, .int .u8 a1] w fun e w' => ∃ v0_ : Value, e = .returned (v0_) ∧ Kd.R Kd.string 9 w' w.heap.size (fun _ => True) v0_ r ∧ Below w.heap.size w w' := by
 have HE := Ya.mk hE
 clear hE
 have HB := Ya.mk (Below.refl w.heap.size w)
 have H : (Yjb.l0 k a0 a1 ([] : List ByteArray)) = some r := h
 clear h
 have H' := Ya.mk H
 clear H
 go_enter Tryz.func60, Tryz.ntmps60
 go_wp2
 go_loopg [0, 5] k (fun kq v0 v5 w' => ∃ (aX : ByteArray) (bA : List ByteArray), v0 = .string aX ∧ Ya (Yjb.l0 kq aX a1 bA = some r) ∧ Ya (kq ≤ k) ∧ Ya (Kd.R Kd.string 9 w' w.heap.size (fun _ => True) v5 bA) ∧ Ya (Below w.heap.size w w'))
 case atStart => exact ⟨(a0), (([] : List ByteArray)), Zf, H', ⟨Nat.le_refl _⟩, ⟨Zfa⟩, ⟨Za⟩⟩
 case round =>
  clear H'
  try clear p2
  obtain ⟨aX, bA, rfl, HA, dD, HO_5, HB⟩ := hrel
  cases gk with
  | zero => exact absurd HA.out (by simp [Yjb.l0])
  | succ k1 =>
   have H := HA.out
   clear HA
   simp only [Yjb.l0] at H
   replace H := Option.bind_eq_some_iff.mp H
   obtain ⟨gQ, jB, H⟩ := H
   try dsimp -simprocs only at H
   have A3 := Ya.mk jB
   clear jB
   by_cases c4 : gQ < 0
   ·rw [if_pos c4] at H
    have cF : decide (gQ < 0) = true := decide_eq_true c4
    clear c4
    by_cases c5 : bA.length < 8796093022208
    rotate_left
    ·rw [if_neg c5] at H
     exact absurd H Zv
    rw [if_pos c5] at H
    have aVA := Ya.mk c5
    clear c5
    obtain ⟨aVB, tN⟩ : ∃ y_ : List ByteArray, y_ = (bA ++ [aX]) := ⟨_, rfl⟩
    replace H : (some aVB) = some r := by first | (rw [tN]; with_reducible exact H) | (have dK := (Option.bind_some _ _).symm.trans H; rw [tN]; with_reducible exact dK) | (have dK := (Option.bind_some _ _).symm.trans H; with_reducible exact dK) | with_reducible exact H | (rw [tN]; exact H) | exact H
    have aIr := Ya.mk tN
    clear tN
    obtain rfl := Option.some.inj H
    go_wp2_with (first | ((with_reducible refine Yh (f := 79) rfl ?_); refine Yba (some 9) rfl rfl Tryz.func79 Zi rfl #[.string aX, .int .u8 a1] rfl Zb ?_; (with_reducible refine (strings_IndexByte.calls aX a1 gQ _ ?side1 A3.out).mono ?_); (case side1 => first | exact HE.out | exact EnvOk.below HE.out Za); rintro e w' ⟨rfl, ⟨nd, rfl⟩⟩; refine ⟨_, rfl, ?_⟩) | ((with_reducible refine Yge (b := .append) (xs := #[.tmp 12, .tmp 14]) rfl ?_); at_builtin; refine Kd.R_append Kd.string (w0 := w) w.heap.size rfl (.tmp 12) (.tmp 14) 44 9 (.string ⟨#[]⟩) 16 rfl Tryz.underlying44 Ykg rfl Zea Zl u5 bA aX [.string aX] (fun _ => True) (fun _ => False) rfl rfl ?aP (fun _ hk => hk.elim) ?aF ?aO ?aB ?aS ?aL ?_; (case aP => exact rfl); (case aB => exact Za); (case aF => exact (fun _ _ => trivial)); (case aO => exact Zra); (case aS => exact (Yda Za)); (case aL => have := aVA.out; omega); intro v127 w6 ho hb hg hat; rw [← aIr.out] at ho; have aM := Ya.mk (hb); have aU := Ya.mk (ho); clear HB; clear HO_5; have HB := aM; have aIs := aU; clear aM aU; clear ho hb hg hat))
    go_ret
    exact ⟨_, Zk, by (with_reducible repeat (first | apply Kd.R_alloc | apply Kd.R_drewN | apply Kd.R_drew)); exact aIs.out, Za⟩
   rw [if_neg c4] at H
   have cF : decide (gQ < 0) = false := decide_eq_false c4
   clear c4
   by_cases c7 : 0 ≤ gQ
   rotate_left
   ·rw [if_neg c7] at H
    exact absurd H Zv
   rw [if_pos c7] at H
   have dA := eq_true c7
   have iF : decide (0 ≤ gQ) = true := decide_eq_true c7
   clear c7
   by_cases c8 : gQ ≤ (aX.size : Int)
   rotate_left
   ·rw [if_neg c8] at H
    exact absurd H Zv
   rw [if_pos c8] at H
   have gZ := eq_true c8
   have jE : decide (gQ ≤ (aX.size : Int)) = true := decide_eq_true c8
   clear c8
   by_cases c9 : bA.length < 8796093022208
   rotate_left
   ·rw [if_neg c9] at H
    exact absurd H Zv
   rw [if_pos c9] at H
   have vN := Ya.mk c9
   clear c9
   obtain ⟨aFP, tO⟩ : ∃ y_ : List ByteArray, y_ = (bA ++ [aX.extract 0 (gQ : Int).toNat]) := ⟨_, rfl⟩
   replace H : (if 0 ≤ (wrap64 (gQ + 1)) then (if (wrap64 (gQ + 1)) ≤ (aX.size : Int) then (Yjb.l0 k1 (aX.extract ((wrap64 (gQ + 1)) : Int).toNat aX.size) a1 aFP) else (none)) else (none)) = some r := by first | (rw [tO]; with_reducible exact H) | (have dK := (Option.bind_some _ _).symm.trans H; rw [tO]; with_reducible exact dK) | (have dK := (Option.bind_some _ _).symm.trans H; with_reducible exact dK) | with_reducible exact H | (rw [tO]; exact H) | exact H
   have aIt := Ya.mk tO
   clear tO
   obtain ⟨ji10, jR⟩ : ∃ j_ : Int, (wrap64 (gQ + 1)) = j_ := ⟨_, rfl⟩
   replace H : (if 0 ≤ (ji10) then (if (ji10) ≤ (aX.size : Int) then (Yjb.l0 k1 (aX.extract ((ji10) : Int).toNat aX.size) a1 aFP) else (none)) else (none)) = some r := by first | (rw [jR] at H; exact H) | (simp only [jR] at H ⊢; exact H)
   (try rw [jR] at A3)
   have hji10w : (IntKind.i64.wrap (gQ + 1)) = ji10 := (Yma _).trans jR
   by_cases c11 : 0 ≤ (ji10)
   rotate_left
   ·rw [if_neg c11] at H
    exact absurd H Zv
   rw [if_pos c11] at H
   have gU := eq_true c11
   have qM : decide (0 ≤ (ji10)) = true := decide_eq_true c11
   clear c11
   by_cases dG : (ji10) ≤ (aX.size : Int)
   rotate_left
   ·rw [if_neg dG] at H
    exact absurd H Zv
   rw [if_pos dG] at H
   have dV := eq_true dG
   have oL : decide ((ji10) ≤ (aX.size : Int)) = true := decide_eq_true dG
   clear dG
   have H' := Ya.mk H
   clear H
   go_wp2_with (first | ((with_reducible refine Yh (f := 79) rfl ?_); refine Yba (some 9) rfl rfl Tryz.func79 Zi rfl #[.string aX, .int .u8 a1] rfl Zb ?_; (with_reducible refine (strings_IndexByte.calls aX a1 gQ _ ?side1 A3.out).mono ?_); (case side1 => first | exact HE.out | exact EnvOk.below HE.out Za); rintro e w' ⟨rfl, ⟨nd, rfl⟩⟩; refine ⟨_, rfl, ?_⟩) | ((with_reducible refine Yge (b := .append) (xs := #[.tmp 16, .tmp 20]) rfl ?_); at_builtin; refine Kd.R_append Kd.string (w0 := w) w.heap.size rfl (.tmp 16) (.tmp 20) 44 9 (.string ⟨#[]⟩) 16 rfl Tryz.underlying44 Ykg rfl Zea Zl u5 bA (aX.extract 0 (gQ : Int).toNat) [.string (aX.extract 0 (gQ : Int).toNat)] (fun _ => True) (fun _ => False) rfl rfl ?aP (fun _ hk => hk.elim) ?aF ?aO ?aB ?aS ?aL ?_; (case aP => exact rfl); (case aB => exact Za); (case aF => exact (fun _ _ => trivial)); (case aO => exact Zra); (case aS => exact (Yda Za)); (case aL => have := vN.out; omega); intro aYl nN ho hb hg hat; rw [← aIt.out] at ho; have aM := Ya.mk (hb); have aU := Ya.mk (ho); clear HB; clear HO_5; have HB := aM; have aIu := aU; clear aM aU; clear ho hb hg hat))
   go_roundg k1
   case measure => have := dD.out; omega
   case rel => exact ⟨(aX.extract ((ji10) : Int).toNat aX.size), (aFP), (by first | rfl | (simp; done) | (simp only [← jR] <;> (first | rfl | simp)) | (simp [*]; done)), H', ⟨Zaa⟩, ⟨by (with_reducible repeat (first | apply Kd.R_alloc | apply Kd.R_drewN | apply Kd.R_drew)); exact aIu.out⟩, ⟨Za⟩⟩
def Yia.l0 : Nat → ByteArray → Int → Int → Bool → Int → Int → Option (Int × Int)
 | 0, _, _, _, _, _, _ => none
 | k + 1, x0, x1, x6, x7, x15, rB => if rB < x15 then (if 0 ≤ rB then (if rB < (x0.size : Int) then ((Yta.f (bt x0 rB)).bind fun aFQ => (if aFQ = true then (if x7 = true then (Yia.l0 k x0 x1 x6 true x15 (wrap64 (rB + 1))) else (if x6 > (wrap64 (Int.tdiv (wrap64 (x1 - (((bt x0 rB) - 48) % 256))) 10)) then (Yia.l0 k x0 x1 x6 true x15 (wrap64 (rB + 1))) else (if x1 < (((bt x0 rB) - 48) % 256) then (Yia.l0 k x0 x1 x6 true x15 (wrap64 (rB + 1))) else (Yia.l0 k x0 x1 (wrap64 ((wrap64 (x6 * 10)) + (((bt x0 rB) - 48) % 256))) x7 x15 (wrap64 (rB + 1)))))) else (some (0, 3)))) else (none)) else (none)) else (if x7 = true then (some (0, 5)) else (some (x6, 0)))
def Yia.f (k : Nat) (a0 : ByteArray) (a1 : Int) : Option (Int × Int) := if a0.toList = ([] : List UInt8) then (some (0, 3)) else (Yia.l0 k a0 a1 0 (decide (a1 < 0)) (a0.size : Int) 0)
theorem Yia.calls (k : Nat) (a0 : ByteArray) (a1 r1 r2 : Int) (w : World) (hE : EnvOk w) (h : Yia.f k a0 a1 = some (r1, r2)) :
  Calls Tryz.prog 83 #[.string a0, .int .i64 a1] w fun e w' => e = .returned (.tuple #[.int .i64 r1, .int .i64 r2]) ∧ Drawn0 w w' := by
 have HE := Ya.mk hE
 clear hE
 have H : (if a0.toList = ([] : List UInt8) then (some (0, 3)) else (Yia.l0 k a0 a1 0 (decide (a1 < 0)) (a0.size : Int) 0)) = some (r1, r2) := h
 clear h
 by_cases c3 : a0.toList = ([] : List UInt8)
 ·rw [if_pos c3] at H
  have cJ : (a0.toList == ([] : List UInt8)) = true := beq_iff_eq.mpr c3
  have fY : (a0.toList != ([] : List UInt8)) = false := bne_eq_false_iff_eq.mpr c3
  clear c3
  simp only [Option.some.injEq, Prod.mk.injEq] at H
  obtain ⟨rfl, rfl⟩ := H
  go_enter Tryz.func83, Tryz.ntmps83
  go_wp2
  go_ret2
  exact ⟨Zf, Zh⟩
 rw [if_neg c3] at H
 have cJ : (a0.toList == ([] : List UInt8)) = false := beq_eq_false_iff_ne.mpr c3
 have fY : (a0.toList != ([] : List UInt8)) = true := bne_iff_ne.mpr c3
 have H' := Ya.mk H
 clear H
 go_enter Tryz.func83, Tryz.ntmps83
 go_wp2
 go_loopg [6, 7, 16] k (fun kq v6 v7 v16 w' => ∃ (aD : Int) (cK : Bool) (bE : Int), v6 = .int .i64 aD ∧ v7 = .bool cK ∧ v16 = .int .i64 bE ∧ Ya (Yia.l0 kq a0 a1 aD cK (a0.size : Int) bE = some (r1, r2)) ∧ Ya (kq ≤ k) ∧ Drawn0 w w')
 case atStart => exact ⟨(0), (decide (a1 < 0)), (0), Zf, Zf, Zf, H', ⟨Nat.le_refl _⟩, Zh⟩
 case round =>
  clear H'
  try clear p2
  try clear c3
  try clear cJ
  try clear fY
  obtain ⟨aD, cK, bE, rfl, rfl, rfl, HA, dD, ⟨m1, rfl⟩⟩ := hrel
  cases gk with
  | zero => exact absurd HA.out (by simp [Yia.l0])
  | succ k1 =>
   have H := HA.out
   clear HA
   simp only [Yia.l0] at H
   by_cases c4 : bE < (a0.size : Int)
   rotate_left
   ·rw [if_neg c4] at H
    have cF : decide (bE < (a0.size : Int)) = false := decide_eq_false c4
    clear c4
    by_cases gS : cK = true
    ·subst gS
     rw [if_pos rfl] at H
     simp only [Option.some.injEq, Prod.mk.injEq] at H
     obtain ⟨rfl, rfl⟩ := H
     go_wp2
     go_ret2
     exact ⟨Zf, Zh⟩
    replace gS := Bool.eq_false_iff.mpr gS
    subst gS
    rw [if_neg (show ¬ (false = true) by decide)] at H
    simp only [Option.some.injEq, Prod.mk.injEq] at H
    obtain ⟨rfl, rfl⟩ := H
    go_wp2
    go_ret2
    exact ⟨Zf, Zh⟩
   rw [if_pos c4] at H
   have cF : decide (bE < (a0.size : Int)) = true := decide_eq_true c4
   clear c4
   by_cases c5 : 0 ≤ bE
   rotate_left
   ·rw [if_neg c5] at H
    exact absurd H Zv
   rw [if_pos c5] at H
   have dL : decide (0 ≤ bE) = true := decide_eq_true c5
   clear c5
   by_cases c6 : bE < (a0.size : Int)
   rotate_left
   ·rw [if_neg c6] at H
    exact absurd H Zv
   rw [if_pos c6] at H
   have dP : decide (bE < (a0.size : Int)) = true := decide_eq_true c6
   clear c6
   replace H := Option.bind_eq_some_iff.mp H
   obtain ⟨aFQ, xJ, H⟩ := H
   try dsimp -simprocs only at H
   have A8 := Ya.mk xJ
   clear xJ
   by_cases c9 : aFQ = true
   rotate_left
   ·replace c9 := Bool.eq_false_iff.mpr c9
    subst c9
    rw [if_neg (show ¬ (false = true) by decide)] at H
    simp only [Option.some.injEq, Prod.mk.injEq] at H
    obtain ⟨rfl, rfl⟩ := H
    have p7 : 0 ≤ (bE : Int) := of_decide_eq_true Zc
    have q7 : bE < (a0.size : Int) := of_decide_eq_true Zc
    have hx7 := Yab a0 bE
    replace p7 := eq_true p7
    replace q7 := eq_true q7
    go_wp2_with (first | ((with_reducible refine Yh (f := 78) rfl ?_); refine Yba (some 22) rfl rfl Tryz.func78 Zi rfl #[.int .u8 (bt a0 bE)] rfl Zb ?_; (with_reducible refine (Yta.calls (bt a0 bE) false _ ?side1 A8.out).mono ?_); (case side1 => first | exact HE.out | exact EnvOk.heap HE.out rfl); rintro e w' ⟨rfl, ⟨nd, rfl⟩⟩; refine ⟨_, rfl, ?_⟩))
    go_ret2
    exact ⟨Zf, Zh⟩
   subst c9
   rw [if_pos rfl] at H
   by_cases c11 : cK = true
   ·subst c11
    rw [if_pos rfl] at H
    have H' := Ya.mk H
    clear H
    have p7 : 0 ≤ (bE : Int) := of_decide_eq_true Zc
    have q7 : bE < (a0.size : Int) := of_decide_eq_true Zc
    have hx7 := Yab a0 bE
    replace p7 := eq_true p7
    replace q7 := eq_true q7
    go_wp2_with (first | ((with_reducible refine Yh (f := 78) rfl ?_); refine Yba (some 22) rfl rfl Tryz.func78 Zi rfl #[.int .u8 (bt a0 bE)] rfl Zb ?_; (with_reducible refine (Yta.calls (bt a0 bE) true _ ?side1 A8.out).mono ?_); (case side1 => first | exact HE.out | exact EnvOk.heap HE.out rfl); rintro e w' ⟨rfl, ⟨nd, rfl⟩⟩; refine ⟨_, rfl, ?_⟩; have xG : 0 ≤ (bE : Int) := of_decide_eq_true Zc; have xH : bE < (a0.size : Int) := of_decide_eq_true Zc; have aDE := Yab a0 bE; replace xG := eq_true xG; replace xH := eq_true xH))
    go_roundg k1
    case measure => have := dD.out; omega
    case rel => exact ⟨(aD), (true), (wrap64 (bE + 1)), Zf, Zf, Zf, H', ⟨Zaa⟩, Zh⟩
   replace c11 := Bool.eq_false_iff.mpr c11
   subst c11
   rw [if_neg (show ¬ (false = true) by decide)] at H
   by_cases dG : aD > (wrap64 (Int.tdiv (wrap64 (a1 - (((bt a0 bE) - 48) % 256))) 10))
   ·rw [if_pos dG] at H
    have dV : decide ((wrap64 (Int.tdiv (wrap64 (a1 - (((bt a0 bE) - 48) % 256))) 10)) < aD) = true := decide_eq_true dG
    clear dG
    have H' := Ya.mk H
    clear H
    have p7 : 0 ≤ (bE : Int) := of_decide_eq_true Zc
    have q7 : bE < (a0.size : Int) := of_decide_eq_true Zc
    have hx7 := Yab a0 bE
    replace p7 := eq_true p7
    replace q7 := eq_true q7
    go_wp2_with (first | ((with_reducible refine Yh (f := 78) rfl ?_); refine Yba (some 22) rfl rfl Tryz.func78 Zi rfl #[.int .u8 (bt a0 bE)] rfl Zb ?_; (with_reducible refine (Yta.calls (bt a0 bE) true _ ?side1 A8.out).mono ?_); (case side1 => first | exact HE.out | exact EnvOk.heap HE.out rfl); rintro e w' ⟨rfl, ⟨nd, rfl⟩⟩; refine ⟨_, rfl, ?_⟩; have xG : 0 ≤ (bE : Int) := of_decide_eq_true Zc; have xH : bE < (a0.size : Int) := of_decide_eq_true Zc; have aDE := Yab a0 bE; replace xG := eq_true xG; replace xH := eq_true xH))
    go_roundg k1
    case measure => have := dD.out; omega
    case rel => exact ⟨(aD), (true), (wrap64 (bE + 1)), Zf, Zf, Zf, H', ⟨Zaa⟩, Zh⟩
   rw [if_neg dG] at H
   have dV : decide ((wrap64 (Int.tdiv (wrap64 (a1 - (((bt a0 bE) - 48) % 256))) 10)) < aD) = false := decide_eq_false dG
   clear dG
   by_cases eN : a1 < (((bt a0 bE) - 48) % 256)
   ·rw [if_pos eN] at H
    have hM : decide (a1 < (((bt a0 bE) - 48) % 256)) = true := decide_eq_true eN
    clear eN
    have H' := Ya.mk H
    clear H
    have p7 : 0 ≤ (bE : Int) := of_decide_eq_true Zc
    have q7 : bE < (a0.size : Int) := of_decide_eq_true Zc
    have hx7 := Yab a0 bE
    replace p7 := eq_true p7
    replace q7 := eq_true q7
    go_wp2_with (first | ((with_reducible refine Yh (f := 78) rfl ?_); refine Yba (some 22) rfl rfl Tryz.func78 Zi rfl #[.int .u8 (bt a0 bE)] rfl Zb ?_; (with_reducible refine (Yta.calls (bt a0 bE) true _ ?side1 A8.out).mono ?_); (case side1 => first | exact HE.out | exact EnvOk.heap HE.out rfl); rintro e w' ⟨rfl, ⟨nd, rfl⟩⟩; refine ⟨_, rfl, ?_⟩; have xG : 0 ≤ (bE : Int) := of_decide_eq_true Zc; have xH : bE < (a0.size : Int) := of_decide_eq_true Zc; have aDE := Yab a0 bE; replace xG := eq_true xG; replace xH := eq_true xH))
    go_roundg k1
    case measure => have := dD.out; omega
    case rel => exact ⟨(aD), (true), (wrap64 (bE + 1)), Zf, Zf, Zf, H', ⟨Zaa⟩, Zh⟩
   rw [if_neg eN] at H
   have hM : decide (a1 < (((bt a0 bE) - 48) % 256)) = false := decide_eq_false eN
   clear eN
   have H' := Ya.mk H
   clear H
   have p7 : 0 ≤ (bE : Int) := of_decide_eq_true Zc
   have q7 : bE < (a0.size : Int) := of_decide_eq_true Zc
   have hx7 := Yab a0 bE
   replace p7 := eq_true p7
   replace q7 := eq_true q7
   go_wp2_with (first | ((with_reducible refine Yh (f := 78) rfl ?_); refine Yba (some 22) rfl rfl Tryz.func78 Zi rfl #[.int .u8 (bt a0 bE)] rfl Zb ?_; (with_reducible refine (Yta.calls (bt a0 bE) true _ ?side1 A8.out).mono ?_); (case side1 => first | exact HE.out | exact EnvOk.heap HE.out rfl); rintro e w' ⟨rfl, ⟨nd, rfl⟩⟩; refine ⟨_, rfl, ?_⟩; have xG : 0 ≤ (bE : Int) := of_decide_eq_true Zc; have xH : bE < (a0.size : Int) := of_decide_eq_true Zc; have aDE := Yab a0 bE; replace xG := eq_true xG; replace xH := eq_true xH))
   go_roundg k1
   case measure => have := dD.out; omega
   case rel => exact ⟨(wrap64 ((wrap64 (aD * 10)) + (((bt a0 bE) - 48) % 256))), (false), (wrap64 (bE + 1)), Zf, Zf, Zf, H', ⟨Zaa⟩, Zh⟩
def Ynb.l0 : Nat → ByteArray → Int → Int → Option (Bool)
 | 0, _, _, _ => none
 | k + 1, x0, x6, x7 => if x7 < x6 then (if 0 ≤ x7 then (if x7 < (x0.size : Int) then ((Yva.f (bt x0 x7)).bind fun aFR => (if aFR = true then (Ynb.l0 k x0 x6 (wrap64 (x7 + 1))) else ((Yta.f (bt x0 x7)).bind fun aFS => (if aFS = true then (Ynb.l0 k x0 x6 (wrap64 (x7 + 1))) else (if (bt x0 x7) = 45 then (Ynb.l0 k x0 x6 (wrap64 (x7 + 1))) else (if (bt x0 x7) = 95 then (Ynb.l0 k x0 x6 (wrap64 (x7 + 1))) else (some false))))))) else (none)) else (none)) else (if x0.toList = ([] : List UInt8) then (some false) else (some (decide ((x0.size : Int) ≤ 63))))
def Ynb.f (k : Nat) (a0 : ByteArray) : Option (Bool) := Ynb.l0 k a0 (a0.size : Int) 0
theorem Ynb.calls (k : Nat) (a0 : ByteArray) (r : Bool) (w : World) (hE : EnvOk w) (h : Ynb.f k a0 = some r) :
  Calls Tryz.prog 95 #[.string a0] w fun e w' => e = .returned (.bool r) ∧ Drawn0 w w' := by
 have HE := Ya.mk hE
 clear hE
 have H : (Ynb.l0 k a0 (a0.size : Int) 0) = some r := h
 clear h
 have H' := Ya.mk H
 clear H
 go_enter Tryz.func95, Tryz.ntmps95
 go_wp2
 go_loopg [7] k (fun kq v7 w' => ∃ (cK : Int), v7 = .int .i64 cK ∧ Ya (Ynb.l0 kq a0 (a0.size : Int) cK = some r) ∧ Ya (kq ≤ k) ∧ Drawn0 w w')
 case atStart => exact ⟨(0), Zf, H', ⟨Nat.le_refl _⟩, Zh⟩
 case round =>
  clear H'
  obtain ⟨cK, rfl, HA, dD, ⟨m1, rfl⟩⟩ := hrel
  cases gk with
  | zero => exact absurd HA.out (by simp [Ynb.l0])
  | succ k1 =>
   have H := HA.out
   clear HA
   simp only [Ynb.l0] at H
   by_cases c2 : cK < (a0.size : Int)
   rotate_left
   ·rw [if_neg c2] at H
    have eT : decide (cK < (a0.size : Int)) = false := decide_eq_false c2
    clear c2
    by_cases dG : a0.toList = ([] : List UInt8)
    rotate_left
    ·rw [if_neg dG] at H
     have dV : (a0.toList == ([] : List UInt8)) = false := beq_eq_false_iff_ne.mpr dG
     have oL : (a0.toList != ([] : List UInt8)) = true := bne_iff_ne.mpr dG
     obtain rfl := Option.some.inj H
     go_wp2
     go_ret
     exact ⟨Zf, Zh⟩
    rw [if_pos dG] at H
    have dV : (a0.toList == ([] : List UInt8)) = true := beq_iff_eq.mpr dG
    have oL : (a0.toList != ([] : List UInt8)) = false := bne_eq_false_iff_eq.mpr dG
    clear dG
    obtain rfl := Option.some.inj H
    go_wp2
    go_ret
    exact ⟨Zf, Zh⟩
   rw [if_pos c2] at H
   have eT : decide (cK < (a0.size : Int)) = true := decide_eq_true c2
   clear c2
   by_cases c3 : 0 ≤ cK
   rotate_left
   ·rw [if_neg c3] at H
    exact absurd H Zv
   rw [if_pos c3] at H
   have cJ : decide (0 ≤ cK) = true := decide_eq_true c3
   clear c3
   by_cases c4 : cK < (a0.size : Int)
   rotate_left
   ·rw [if_neg c4] at H
    exact absurd H Zv
   rw [if_pos c4] at H
   have cF : decide (cK < (a0.size : Int)) = true := decide_eq_true c4
   clear c4
   replace H := Option.bind_eq_some_iff.mp H
   obtain ⟨aFR, qI, H⟩ := H
   try dsimp -simprocs only at H
   have A6 := Ya.mk qI
   clear qI
   by_cases c7 : aFR = true
   ·subst c7
    rw [if_pos rfl] at H
    have H' := Ya.mk H
    clear H
    have p5 : 0 ≤ (cK : Int) := of_decide_eq_true Zc
    have q5 : cK < (a0.size : Int) := of_decide_eq_true Zc
    have kK := Yab a0 cK
    replace p5 := eq_true p5
    replace q5 := eq_true q5
    go_wp2_with (first | ((with_reducible refine Yh (f := 77) rfl ?_); refine Yba (some 14) rfl rfl Tryz.func77 Zi rfl #[.int .u8 (bt a0 cK)] rfl Zb ?_; (with_reducible refine (Yva.calls (bt a0 cK) true _ ?side1 A6.out).mono ?_); (case side1 => first | exact HE.out | exact EnvOk.heap HE.out rfl); rintro e w' ⟨rfl, ⟨nd, rfl⟩⟩; refine ⟨_, rfl, ?_⟩))
    go_roundg k1
    case measure => have := dD.out; omega
    case rel => exact ⟨(wrap64 (cK + 1)), Zf, H', ⟨Zaa⟩, Zh⟩
   replace c7 := Bool.eq_false_iff.mpr c7
   subst c7
   rw [if_neg (show ¬ (false = true) by decide)] at H
   replace H := Option.bind_eq_some_iff.mp H
   obtain ⟨aFS, xJ, H⟩ := H
   try dsimp -simprocs only at H
   have A8 := Ya.mk xJ
   clear xJ
   by_cases c9 : aFS = true
   ·subst c9
    rw [if_pos rfl] at H
    have H' := Ya.mk H
    clear H
    have p5 : 0 ≤ (cK : Int) := of_decide_eq_true Zc
    have q5 : cK < (a0.size : Int) := of_decide_eq_true Zc
    have kK := Yab a0 cK
    replace p5 := eq_true p5
    replace q5 := eq_true q5
    go_wp2_with (first | ((with_reducible refine Yh (f := 77) rfl ?_); refine Yba (some 14) rfl rfl Tryz.func77 Zi rfl #[.int .u8 (bt a0 cK)] rfl Zb ?_; (with_reducible refine (Yva.calls (bt a0 cK) false _ ?side1 A6.out).mono ?_); (case side1 => first | exact HE.out | exact EnvOk.heap HE.out rfl); rintro e w' ⟨rfl, ⟨nd, rfl⟩⟩; refine ⟨_, rfl, ?_⟩) | (go_at_call 78; (with_reducible refine (Yta.calls (bt a0 cK) true _ ?side1 A8.out).mono ?_); (case side1 => first | exact HE.out | exact EnvOk.heap HE.out rfl); rintro e w' ⟨rfl, ⟨nd, rfl⟩⟩))
    go_roundg k1
    case measure => have := dD.out; omega
    case rel => exact ⟨(wrap64 (cK + 1)), Zf, H', ⟨Zaa⟩, Zh⟩
   replace c9 := Bool.eq_false_iff.mpr c9
   subst c9
   rw [if_neg (show ¬ (false = true) by decide)] at H
   by_cases dR : (bt a0 cK) = 45
   ·rw [if_pos dR] at H
    have hH : ((bt a0 cK) == 45) = true := beq_iff_eq.mpr dR
    have aBw : ((bt a0 cK) != 45) = false := bne_eq_false_iff_eq.mpr dR
    clear dR
    have H' := Ya.mk H
    clear H
    have p5 : 0 ≤ (cK : Int) := of_decide_eq_true Zc
    have q5 : cK < (a0.size : Int) := of_decide_eq_true Zc
    have kK := Yab a0 cK
    replace p5 := eq_true p5
    replace q5 := eq_true q5
    go_wp2_with (first | ((with_reducible refine Yh (f := 77) rfl ?_); refine Yba (some 14) rfl rfl Tryz.func77 Zi rfl #[.int .u8 (bt a0 cK)] rfl Zb ?_; (with_reducible refine (Yva.calls (bt a0 cK) false _ ?side1 A6.out).mono ?_); (case side1 => first | exact HE.out | exact EnvOk.heap HE.out rfl); rintro e w' ⟨rfl, ⟨nd, rfl⟩⟩; refine ⟨_, rfl, ?_⟩) | (go_at_call 78; (with_reducible refine (Yta.calls (bt a0 cK) false _ ?side1 A8.out).mono ?_); (case side1 => first | exact HE.out | exact EnvOk.heap HE.out rfl); rintro e w' ⟨rfl, ⟨nd, rfl⟩⟩))
    go_roundg k1
    case measure => have := dD.out; omega
    case rel => exact ⟨(wrap64 (cK + 1)), Zf, H', ⟨Zaa⟩, Zh⟩
   rw [if_neg dR] at H
   have hH : ((bt a0 cK) == 45) = false := beq_eq_false_iff_ne.mpr dR
   have aBw : ((bt a0 cK) != 45) = true := bne_iff_ne.mpr dR
   by_cases c11 : (bt a0 cK) = 95
   rotate_left
   ·rw [if_neg c11] at H
    have gU : ((bt a0 cK) == 95) = false := beq_eq_false_iff_ne.mpr c11
    have qM : ((bt a0 cK) != 95) = true := bne_iff_ne.mpr c11
    obtain rfl := Option.some.inj H
    have p5 : 0 ≤ (cK : Int) := of_decide_eq_true Zc
    have q5 : cK < (a0.size : Int) := of_decide_eq_true Zc
    have kK := Yab a0 cK
    replace p5 := eq_true p5
    replace q5 := eq_true q5
    go_wp2_with (first | ((with_reducible refine Yh (f := 77) rfl ?_); refine Yba (some 14) rfl rfl Tryz.func77 Zi rfl #[.int .u8 (bt a0 cK)] rfl Zb ?_; (with_reducible refine (Yva.calls (bt a0 cK) false _ ?side1 A6.out).mono ?_); (case side1 => first | exact HE.out | exact EnvOk.heap HE.out rfl); rintro e w' ⟨rfl, ⟨nd, rfl⟩⟩; refine ⟨_, rfl, ?_⟩) | (go_at_call 78; (with_reducible refine (Yta.calls (bt a0 cK) false _ ?side1 A8.out).mono ?_); (case side1 => first | exact HE.out | exact EnvOk.heap HE.out rfl); rintro e w' ⟨rfl, ⟨nd, rfl⟩⟩))
    go_ret
    exact ⟨Zf, Zh⟩
   rw [if_pos c11] at H
   have gU : ((bt a0 cK) == 95) = true := beq_iff_eq.mpr c11
   have qM : ((bt a0 cK) != 95) = false := bne_eq_false_iff_eq.mpr c11
   clear c11
   have H' := Ya.mk H
   clear H
   have p5 : 0 ≤ (cK : Int) := of_decide_eq_true Zc
   have q5 : cK < (a0.size : Int) := of_decide_eq_true Zc
   have kK := Yab a0 cK
   replace p5 := eq_true p5
   replace q5 := eq_true q5
   go_wp2_with (first | ((with_reducible refine Yh (f := 77) rfl ?_); refine Yba (some 14) rfl rfl Tryz.func77 Zi rfl #[.int .u8 (bt a0 cK)] rfl Zb ?_; (with_reducible refine (Yva.calls (bt a0 cK) false _ ?side1 A6.out).mono ?_); (case side1 => first | exact HE.out | exact EnvOk.heap HE.out rfl); rintro e w' ⟨rfl, ⟨nd, rfl⟩⟩; refine ⟨_, rfl, ?_⟩) | (go_at_call 78; (with_reducible refine (Yta.calls (bt a0 cK) false _ ?side1 A8.out).mono ?_); (case side1 => first | exact HE.out | exact EnvOk.heap HE.out rfl); rintro e w' ⟨rfl, ⟨nd, rfl⟩⟩))
   go_roundg k1
   case measure => have := dD.out; omega
   case rel => exact ⟨(wrap64 (cK + 1)), Zf, H', ⟨Zaa⟩, Zh⟩
def Yff.f (k : Nat) (a0 : ByteArray) : Option (Bool) := (Yia.f k a0 255).bind fun tP => (if tP.2 = 0 then ((Yte.f k tP.1).bind fun aBx => (some (aBx.toList == a0.toList))) else (some false))
theorem Yff.calls (k : Nat) (a0 : ByteArray) (r : Bool) (w : World) (hE : EnvOk w) (h : Yff.f k a0 = some r) :
  Calls Tryz.prog 96 #[.string a0] w fun e w' => e = .returned (.bool r) ∧ Below w.heap.size w w' := by
 have HE := Ya.mk hE
 clear hE
 have HB := Ya.mk (Below.refl w.heap.size w)
 have H : ((Yia.f k a0 255).bind fun tP => (if tP.2 = 0 then ((Yte.f k tP.1).bind fun aBx => (some (aBx.toList == a0.toList))) else (some false))) = some r := h
 clear h
 replace H := Option.bind_eq_some_iff.mp H
 obtain ⟨⟨aFT, vO⟩, dU, H⟩ := H
 try dsimp -simprocs only at H
 have A2 := Ya.mk dU
 clear dU
 by_cases c3 : vO = 0
 rotate_left
 ·rw [if_neg c3] at H
  have cJ : (vO == 0) = false := beq_eq_false_iff_ne.mpr c3
  have fY : (vO != 0) = true := bne_iff_ne.mpr c3
  obtain rfl := Option.some.inj H
  go_enter Tryz.func96, Tryz.ntmps96
  go_wp2_with (first | ((with_reducible refine Yh (f := 83) rfl ?_); refine Yba (some 7) rfl rfl Tryz.func83 Zi rfl #[.string a0, .int .i64 255] rfl Zb ?_; (with_reducible refine (Yia.calls k a0 255 aFT vO _ ?side1 A2.out).mono ?_); (case side1 => first | exact HE.out | exact EnvOk.below HE.out Za); rintro e w' ⟨rfl, ⟨nd, rfl⟩⟩; refine ⟨_, rfl, ?_⟩))
  go_ret
  exact ⟨Zk, Za⟩
 rw [if_pos c3] at H
 have cJ : (vO == 0) = true := beq_iff_eq.mpr c3
 have fY : (vO != 0) = false := bne_eq_false_iff_eq.mpr c3
 clear c3
 replace H := Option.bind_eq_some_iff.mp H
 obtain ⟨aBx, qH, H⟩ := H
 try dsimp -simprocs only at H
 have A4 := Ya.mk qH
 clear qH
 obtain rfl := Option.some.inj H
 go_enter Tryz.func96, Tryz.ntmps96
 go_wp2_with (first | ((with_reducible refine Yh (f := 83) rfl ?_); refine Yba (some 7) rfl rfl Tryz.func83 Zi rfl #[.string a0, .int .i64 255] rfl Zb ?_; (with_reducible refine (Yia.calls k a0 255 aFT vO _ ?side1 A2.out).mono ?_); (case side1 => first | exact HE.out | exact EnvOk.below HE.out Za); rintro e w' ⟨rfl, ⟨nd, rfl⟩⟩; refine ⟨_, rfl, ?_⟩) | (go_at_call 68; (with_reducible refine (Yte.calls k aFT aBx _ ?side1 A4.out).mono ?_); (case side1 => first | exact HE.out | exact EnvOk.below HE.out Za); rintro e w5 ⟨rfl, hb⟩; have aM := Ya.mk (Ys Za hb); clear HB; have HB := aM; clear aM; (try clear hb); (try clear cC); (try clear hk); (try clear hi)))
 go_ret
 exact ⟨Zk, Za⟩
def Ylb.l0 : Nat → ByteArray → List ByteArray → Bool → List ByteArray → Int → Int → Option (Bool)
 | 0, _, _, _, _, _, _ => none
 | k + 1, x0, x3, x4, x14, x15, rB => if rB < x15 then (if 0 ≤ rB then (if rB < (x14.length : Int) then ((Ynb.f k (rdOf ByteArray.empty x14 rB)).bind fun aFU => (if aFU = true then (if x4 = true then ((Yff.f k (rdOf ByteArray.empty x14 rB)).bind fun t146 => (Ylb.l0 k x0 x3 t146 x14 x15 (wrap64 (rB + 1)))) else (Ylb.l0 k x0 x3 false x14 x15 (wrap64 (rB + 1)))) else (some false))) else (none)) else (none)) else (if 0 ≤ (wrap64 ((x3.length : Int) - 1)) then (if (wrap64 ((x3.length : Int) - 1)) < (x3.length : Int) then ((Yia.f k (rdOf ByteArray.empty x3 (wrap64 ((x3.length : Int) - 1))) 0).bind fun aBy => (if (x0.size : Int) ≤ 253 then (if aBy.2 = 3 then (some true) else (some x4)) else (some false))) else (none)) else (none))
def Ylb.f (k : Nat) (a0 : ByteArray) : Option (Bool) := (Yjb.f k a0 46).bind fun t138 => (Ylb.l0 k a0 t138 ((t138.length : Int) == 4) t138 (t138.length : Int) 0)
theorem Ylb.calls (k : Nat) (a0 : ByteArray) (r : Bool) (w : World) (hE : EnvOk w) (h : Ylb.f k a0 = some r) :
  Calls Tryz.prog 54 #[.string a0] w fun e w' => e = .returned (.bool r) ∧ Below w.heap.size w w' := by
 have HE := Ya.mk hE
 clear hE
 have HB := Ya.mk (Below.refl w.heap.size w)
 have H : ((Yjb.f k a0 46).bind fun t138 => (Ylb.l0 k a0 t138 ((t138.length : Int) == 4) t138 (t138.length : Int) 0)) = some r := h
 clear h
 replace H := Option.bind_eq_some_iff.mp H
 obtain ⟨t138, dU, H⟩ := H
 try dsimp -simprocs only at H
 have A2 := Ya.mk dU
 clear dU
 have H' := Ya.mk H
 clear H
 go_enter Tryz.func54, Tryz.ntmps54
 go_wp2_with (first | ((with_reducible refine Yh (f := 60) rfl ?_); refine Yba (some 10) rfl rfl Tryz.func60 Zi rfl #[.string a0, .int .u8 46] rfl Zb ?_; (with_reducible refine (Yjb.calls k a0 46 t138 _ ?side1 A2.out).mono ?_); (case side1 => first | exact HE.out | exact EnvOk.below HE.out Za); rintro e w3 ⟨v139, rfl, qU, hb⟩; refine ⟨_, rfl, ?_⟩; have aM := Ya.mk (Kd.R_lower qU (Yda Za)); have aU := Ya.mk (Ys Za hb); clear HB; have aBz := aM; have HB := aU; clear aM aU; (try clear hb); (try clear cC); (try clear hk); (try clear hi); (try clear qU); obtain ⟨Ao4, co4, eo4⟩ := Kd.R_slice aBz.out; subst eo4))
 go_loopg [4, 16] k (fun kq v4 v16 w' => ∃ (aA : Bool) (bE : Int), v4 = .bool aA ∧ v16 = .int .i64 bE ∧ Ya (Ylb.l0 kq a0 t138 aA t138 (t138.length : Int) bE = some r) ∧ Ya (kq ≤ k) ∧ Ya (Kd.R Kd.string 9 w' w.heap.size (fun _ => True) (.slice Ao4 t138.length co4) t138) ∧ Ya (Kd.R Kd.string 9 w' w.heap.size (fun _ => True) (.slice Ao4 t138.length co4) t138) ∧ Ya (Below w.heap.size w w'))
 case atStart => exact ⟨(((t138.length : Int) == 4)), (0), Zf, Zf, H', ⟨Nat.le_refl _⟩, ⟨by (with_reducible repeat (first | apply Kd.R_alloc | apply Kd.R_drewN | apply Kd.R_drew)); exact aBz.out⟩, ⟨by (with_reducible repeat (first | apply Kd.R_alloc | apply Kd.R_drewN | apply Kd.R_drew)); exact aBz.out⟩, ⟨Za⟩⟩
 case round =>
  clear H'
  try clear p2
  obtain ⟨aA, bE, rfl, rfl, HA, dD, HO_3, HO_14, HB⟩ := hrel
  cases gk with
  | zero => exact absurd HA.out (by simp [Ylb.l0])
  | succ k1 =>
   have H := HA.out
   clear HA
   simp only [Ylb.l0] at H
   by_cases c5 : bE < (t138.length : Int)
   rotate_left
   ·rw [if_neg c5] at H
    have dL : decide (bE < (t138.length : Int)) = false := decide_eq_false c5
    clear c5
    obtain ⟨ji13, tB⟩ : ∃ j_ : Int, (wrap64 ((t138.length : Int) - 1)) = j_ := ⟨_, rfl⟩
    replace H : (if 0 ≤ (ji13) then (if (ji13) < (t138.length : Int) then ((Yia.f k1 (rdOf ByteArray.empty t138 (ji13)) 0).bind fun aBy => (if (a0.size : Int) ≤ 253 then (if aBy.2 = 3 then (some true) else (some aA)) else (some false))) else (none)) else (none)) = some r := by first | (rw [tB] at H; exact H) | (simp only [tB] at H ⊢; exact H)
    have hji13w : (IntKind.i64.wrap ((t138.length : Int) - 1)) = ji13 := (Yma _).trans tB
    by_cases gS : 0 ≤ (ji13)
    rotate_left
    ·rw [if_neg gS] at H
     exact absurd H Zv
    rw [if_pos gS] at H
    have iH : decide (0 ≤ (ji13)) = true := decide_eq_true gS
    clear gS
    by_cases dJ : (ji13) < (t138.length : Int)
    rotate_left
    ·rw [if_neg dJ] at H
     exact absurd H Zv
    rw [if_pos dJ] at H
    have eU : decide ((ji13) < (t138.length : Int)) = true := decide_eq_true dJ
    clear dJ
    replace H := Option.bind_eq_some_iff.mp H
    obtain ⟨⟨aFV, tQ⟩, tJ, H⟩ := H
    try dsimp -simprocs only at H
    have A16 := Ya.mk tJ
    clear tJ
    by_cases eH : (a0.size : Int) ≤ 253
    rotate_left
    ·rw [if_neg eH] at H
     have jQ : decide ((a0.size : Int) ≤ 253) = false := decide_eq_false eH
     have lS : decide (a0.size ≤ 253) = false := decide_eq_false Zl
     clear eH
     obtain rfl := Option.some.inj H
     have oM : 0 ≤ ((ji13) : Int) := of_decide_eq_true Zc
     have oN : (ji13) < (t138.length : Int) := of_decide_eq_true Zc
     obtain ⟨aEZ, aBA, xK⟩ := Kd.at_string (Kd.R_reads' HO_3.out).2.2 (ji13) oM oN
     cases aBA
     replace oM := eq_true oM
     replace oN := eq_true oN
     go_wp2_with (first | ((with_reducible refine Yh (f := 83) rfl ?_); refine Yba (some 36) rfl rfl Tryz.func83 Zi rfl #[.string (rdOf ByteArray.empty t138 (ji13)), .int .i64 0] rfl Zma ?_; (with_reducible refine (Yia.calls k1 (rdOf ByteArray.empty t138 (ji13)) 0 aFV tQ _ ?side1 A16.out).mono ?_); (case side1 => first | exact HE.out | exact EnvOk.below HE.out Za); rintro e w' ⟨rfl, ⟨nd, rfl⟩⟩; refine ⟨_, rfl, ?_⟩))
     go_ret
     exact ⟨Zta, Za⟩
    rw [if_pos eH] at H
    have jQ : decide ((a0.size : Int) ≤ 253) = true := decide_eq_true eH
    have lS : decide (a0.size ≤ 253) = true := decide_eq_true Zl
    clear eH
    by_cases eQ : tQ = 3
    rotate_left
    ·rw [if_neg eQ] at H
     have oG : (tQ == 3) = false := beq_eq_false_iff_ne.mpr eQ
     have qK : (tQ != 3) = true := bne_iff_ne.mpr eQ
     obtain rfl := Option.some.inj H
     have oM : 0 ≤ ((ji13) : Int) := of_decide_eq_true Zc
     have oN : (ji13) < (t138.length : Int) := of_decide_eq_true Zc
     obtain ⟨aEZ, aBA, xK⟩ := Kd.at_string (Kd.R_reads' HO_3.out).2.2 (ji13) oM oN
     cases aBA
     replace oM := eq_true oM
     replace oN := eq_true oN
     go_wp2_with (first | ((with_reducible refine Yh (f := 83) rfl ?_); refine Yba (some 36) rfl rfl Tryz.func83 Zi rfl #[.string (rdOf ByteArray.empty t138 (ji13)), .int .i64 0] rfl Zma ?_; (with_reducible refine (Yia.calls k1 (rdOf ByteArray.empty t138 (ji13)) 0 aFV tQ _ ?side1 A16.out).mono ?_); (case side1 => first | exact HE.out | exact EnvOk.below HE.out Za); rintro e w' ⟨rfl, ⟨nd, rfl⟩⟩; refine ⟨_, rfl, ?_⟩))
     go_ret
     exact ⟨Zta, Za⟩
    rw [if_pos eQ] at H
    have oG : (tQ == 3) = true := beq_iff_eq.mpr eQ
    have qK : (tQ != 3) = false := bne_eq_false_iff_eq.mpr eQ
    clear eQ
    obtain rfl := Option.some.inj H
    have oM : 0 ≤ ((ji13) : Int) := of_decide_eq_true Zc
    have oN : (ji13) < (t138.length : Int) := of_decide_eq_true Zc
    obtain ⟨aEZ, aBA, xK⟩ := Kd.at_string (Kd.R_reads' HO_3.out).2.2 (ji13) oM oN
    cases aBA
    replace oM := eq_true oM
    replace oN := eq_true oN
    go_wp2_with (first | ((with_reducible refine Yh (f := 83) rfl ?_); refine Yba (some 36) rfl rfl Tryz.func83 Zi rfl #[.string (rdOf ByteArray.empty t138 (ji13)), .int .i64 0] rfl Zma ?_; (with_reducible refine (Yia.calls k1 (rdOf ByteArray.empty t138 (ji13)) 0 aFV tQ _ ?side1 A16.out).mono ?_); (case side1 => first | exact HE.out | exact EnvOk.below HE.out Za); rintro e w' ⟨rfl, ⟨nd, rfl⟩⟩; refine ⟨_, rfl, ?_⟩))
    go_ret
    exact ⟨Zta, Za⟩
   rw [if_pos c5] at H
   have dL : decide (bE < (t138.length : Int)) = true := decide_eq_true c5
   clear c5
   by_cases c6 : 0 ≤ bE
   rotate_left
   ·rw [if_neg c6] at H
    exact absurd H Zv
   rw [if_pos c6] at H
   have dP : decide (0 ≤ bE) = true := decide_eq_true c6
   clear c6
   by_cases c7 : bE < (t138.length : Int)
   rotate_left
   ·rw [if_neg c7] at H
    exact absurd H Zv
   rw [if_pos c7] at H
   have dA : decide (bE < (t138.length : Int)) = true := decide_eq_true c7
   clear c7
   replace H := Option.bind_eq_some_iff.mp H
   obtain ⟨aFU, xJ, H⟩ := H
   try dsimp -simprocs only at H
   have A8 := Ya.mk xJ
   clear xJ
   by_cases c9 : aFU = true
   rotate_left
   ·replace c9 := Bool.eq_false_iff.mpr c9
    subst c9
    rw [if_neg (show ¬ (false = true) by decide)] at H
    obtain rfl := Option.some.inj H
    have oO : 0 ≤ (bE : Int) := of_decide_eq_true Zc
    have oP : bE < (t138.length : Int) := of_decide_eq_true Zc
    obtain ⟨aFa, aBB, xL⟩ := Kd.at_string (Kd.R_reads' HO_14.out).2.2 bE oO oP
    cases aBB
    replace oO := eq_true oO
    replace oP := eq_true oP
    go_wp2_with (first | ((with_reducible refine Yh (f := 95) rfl ?_); refine Yba (some 21) rfl rfl Tryz.func95 Zi rfl #[.string (rdOf ByteArray.empty t138 bE)] rfl Zb ?_; (with_reducible refine (Ynb.calls k1 (rdOf ByteArray.empty t138 bE) false _ ?side1 A8.out).mono ?_); (case side1 => first | exact HE.out | exact EnvOk.below HE.out Za); rintro e w' ⟨rfl, ⟨nd, rfl⟩⟩; refine ⟨_, rfl, ?_⟩))
    go_ret
    exact ⟨Zk, Za⟩
   subst c9
   rw [if_pos rfl] at H
   by_cases dR : aA = true
   rotate_left
   ·replace dR := Bool.eq_false_iff.mpr dR
    subst dR
    rw [if_neg (show ¬ (false = true) by decide)] at H
    have H' := Ya.mk H
    clear H
    have oO : 0 ≤ (bE : Int) := of_decide_eq_true Zc
    have oP : bE < (t138.length : Int) := of_decide_eq_true Zc
    obtain ⟨aFa, aBB, xL⟩ := Kd.at_string (Kd.R_reads' HO_14.out).2.2 bE oO oP
    cases aBB
    replace oO := eq_true oO
    replace oP := eq_true oP
    go_wp2_with (first | ((with_reducible refine Yh (f := 95) rfl ?_); refine Yba (some 21) rfl rfl Tryz.func95 Zi rfl #[.string (rdOf ByteArray.empty t138 bE)] rfl Zb ?_; (with_reducible refine (Ynb.calls k1 (rdOf ByteArray.empty t138 bE) true _ ?side1 A8.out).mono ?_); (case side1 => first | exact HE.out | exact EnvOk.below HE.out Za); rintro e w' ⟨rfl, ⟨nd, rfl⟩⟩; refine ⟨_, rfl, ?_⟩))
    go_roundg k1
    case measure => have := dD.out; omega
    case rel => exact ⟨(false), (wrap64 (bE + 1)), Zf, Zf, H', ⟨Zaa⟩, ⟨Zm⟩, ⟨Zab⟩, ⟨Za⟩⟩
   subst dR
   rw [if_pos rfl] at H
   replace H := Option.bind_eq_some_iff.mp H
   obtain ⟨t146, aIw, H⟩ := H
   try dsimp -simprocs only at H
   have A11 := Ya.mk aIw
   clear aIw
   have H' := Ya.mk H
   clear H
   have oO : 0 ≤ (bE : Int) := of_decide_eq_true Zc
   have oP : bE < (t138.length : Int) := of_decide_eq_true Zc
   obtain ⟨aFa, aBB, xL⟩ := Kd.at_string (Kd.R_reads' HO_14.out).2.2 bE oO oP
   cases aBB
   replace oO := eq_true oO
   replace oP := eq_true oP
   go_wp2_with (first | ((with_reducible refine Yh (f := 95) rfl ?_); refine Yba (some 21) rfl rfl Tryz.func95 Zi rfl #[.string (rdOf ByteArray.empty t138 bE)] rfl Zb ?_; (with_reducible refine (Ynb.calls k1 (rdOf ByteArray.empty t138 bE) true _ ?side1 A8.out).mono ?_); (case side1 => first | exact HE.out | exact EnvOk.below HE.out Za); rintro e w' ⟨rfl, ⟨nd, rfl⟩⟩; refine ⟨_, rfl, ?_⟩) | (go_at_call 96; (with_reducible refine (Yff.calls k1 (rdOf ByteArray.empty t138 bE) t146 _ ?side1 A11.out).mono ?_); (case side1 => first | exact HE.out | exact EnvOk.below HE.out Za); rintro e vG ⟨rfl, hb⟩; have aM := Ya.mk (Kd.R_below Zm hb); have aU := Ya.mk (Kd.R_below Zab hb); have bI := Ya.mk (Ys Za hb); clear HO_3; clear HO_14; clear HB; have HO_3 := aM; have HO_14 := aU; have HB := bI; clear aM aU bI; (try clear hb); (try clear cC); (try clear hk); (try clear hi)))
   go_roundg k1
   case measure => have := dD.out; omega
   case rel => exact ⟨(t146), (wrap64 (bE + 1)), Zf, Zf, H', ⟨Zaa⟩, ⟨Zm⟩, ⟨Zab⟩, ⟨Za⟩⟩
def Ygg.f (a0 : ByteArray) : Option (Int) := if a0.toList = ([104, 116, 116, 112] : List UInt8) then (some 80) else (some 443)
theorem Ygg.calls (a0 : ByteArray) (r : Int) (w : World) (hE : EnvOk w) (h : Ygg.f a0 = some r) :
  Calls Tryz.prog 84 #[.string a0] w fun e w' => e = .returned (.int .i64 r) ∧ Drawn0 w w' := by
 have HE := Ya.mk hE
 clear hE
 have H : (if a0.toList = ([104, 116, 116, 112] : List UInt8) then (some 80) else (some 443)) = some r := h
 clear h
 by_cases c2 : a0.toList = ([104, 116, 116, 112] : List UInt8)
 rotate_left
 ·rw [if_neg c2] at H
  have eT : (a0.toList == ([104, 116, 116, 112] : List UInt8)) = false := beq_eq_false_iff_ne.mpr c2
  have kG : (a0.toList != ([104, 116, 116, 112] : List UInt8)) = true := bne_iff_ne.mpr c2
  obtain rfl := Option.some.inj H
  go_enter Tryz.func84, Tryz.ntmps84
  go_wp2
  go_ret
  exact ⟨Zf, Zh⟩
 rw [if_pos c2] at H
 have eT : (a0.toList == ([104, 116, 116, 112] : List UInt8)) = true := beq_iff_eq.mpr c2
 have kG : (a0.toList != ([104, 116, 116, 112] : List UInt8)) = false := bne_eq_false_iff_eq.mpr c2
 clear c2
 obtain rfl := Option.some.inj H
 go_enter Tryz.func84, Tryz.ntmps84
 go_wp2
 go_ret
 exact ⟨Zf, Zh⟩
end Go.Proofs.YtnmglnglbdpjjaaGreatDoor.X
