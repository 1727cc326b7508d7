/- Printed by a program of ours: functions as plain Lean, and what a call of each does. -/
import Derived.Test.YtnmglnglbdpjjaaGreatDoorUlWords
import Derived.Test.YtnmglnglbdpjjaaGreatDoorUlX0
import Derived.Test.YtnmglnglbdpjjaaGreatDoorUlX2
import Derived.Test.YtnmglnglbdpjjaaGreatDoorUlX3
import Derived.Test.YtnmglnglbdpjjaaGreatDoorUlH0e
namespace Go.Proofs.YtnmglnglbdpjjaaGreatDoor.X
open Go.RowKit Go.Yw.PrintWords Go.Yw.PrintLast Go.Yw.PrintMore
attribute [local go_sem] Yxd Yae Yoe Yqe Yld Yjd Yyd Yzd
set_option linter.unusedVariables false
set_option linter.unusedSimpArgs false
set_option maxHeartbeats 8000000
set_option maxRecDepth 100000
def Ylb.l0 : Nat → ByteArray → Int → List ByteArray → Option (List ByteArray)
 | 0, _, _, _ => none
 | k + 1, x0, x1, x5 => (strings_IndexByte.f x0 x1).bind fun gM => (if gM < 0 then (if x5.length < 8796093022208 then (some (x5 ++ [x0])) else (none)) else (if 0 ≤ gM then (if gM ≤ (x0.size : Int) then (if x5.length < 8796093022208 then (if 0 ≤ (wrap64 (gM + 1)) then (if (wrap64 (gM + 1)) ≤ (x0.size : Int) then (Ylb.l0 k (x0.extract ((wrap64 (gM + 1)) : Int).toNat x0.size) x1 (x5 ++ [x0.extract 0 (gM : Int).toNat])) else (none)) else (none)) else (none)) else (none)) else (none)))
def Ylb.f (k : Nat) (a0 : ByteArray) (a1 : Int) : Option (List ByteArray) := Ylb.l0 k a0 a1 ([] : List ByteArray)
theorem Ylb.mono_l : ∀ k, (∀ y0 y1 y2, LeO (Ylb.l0 k y0 y1 y2) (Ylb.l0 (k + 1) y0 y1 y2))
 | 0 => fun _ _ _ r h => by simp [Ylb.l0] at h
 | k + 1 => by
  have sL := Ylb.mono_l k
  ·intro y0 y1 y2
   unfold Ylb.l0
   repeat' first
   | (with_reducible exact sL _ _ _)
   | (with_reducible exact LeO.refl _)
   | (with_reducible exact LeO.none _)
   | (with_reducible refine LeO.ite ?_ ?_)
   | (with_reducible refine LeO.bind ?_ (fun _ => ?_))
   | exact sL _ _ _
   | exact LeO.none _
   | refine LeO.ite ?_ ?_
   | refine LeO.bind ?_ (fun _ => ?_)
theorem Ylb.mono : ∀ a0 a1 k, LeO (Ylb.f k a0 a1) (Ylb.f (k + 1) a0 a1) := by
 intro a0 a1 k
 have sL := Ylb.mono_l k
 unfold Ylb.f
 repeat' first
   | (with_reducible exact sL _ _ _)
   | (with_reducible exact LeO.refl _)
   | (with_reducible exact LeO.none _)
   | (with_reducible refine LeO.ite ?_ ?_)
   | (with_reducible refine LeO.bind ?_ (fun _ => ?_))
   | exact sL _ _ _
   | exact LeO.none _
   | refine LeO.ite ?_ ?_
   | refine LeO.bind ?_ (fun _ => ?_)
theorem Ylb.calls (k : Nat) (a0 : ByteArray) (a1 : Int) (r : List ByteArray) (w : World) (hE : EnvOk w) (h : Ylb.f k a0 a1 = some r) :
  Calls Tryz.prog 60 #[.string a0, .int .u8 a1] w fun e w' => ∃ v0_ : Value, e = .returned (v0_) ∧ Kd.R Kd.string 9 w' w.heap.size (fun _ => True) v0_ r ∧ Below w.heap.size w w' := by
 have HE := Ya.mk hE
 clear hE
 have HB := Ya.mk (Below.refl w.heap.size w)
 have H : (Ylb.l0 k a0 a1 ([] : List ByteArray)) = some r := h
 clear h
 have H' := Ya.mk H
 clear H
 go_enter Tryz.func60, Tryz.ntmps60
 go_wp2
 go_loopg [0, 5] k (fun kq v0 v5 w' => ∃ (aX : ByteArray) (bA : List ByteArray), v0 = .string aX ∧ Ya (Ylb.l0 kq aX a1 bA = some r) ∧ Ya (kq ≤ k) ∧ Ya (Kd.R Kd.string 9 w' w.heap.size (fun _ => True) v5 bA) ∧ Ya (Below w.heap.size w w'))
 case atStart => exact ⟨(a0), (([] : List ByteArray)), Zf, H', ⟨Nat.le_refl _⟩, ⟨Zfa⟩, ⟨Za⟩⟩
 case round =>
  clear H'
  try clear p2
  obtain ⟨aX, bA, rfl, HA, cU, HO_5, HB⟩ := hrel
  cases gk with
  | zero => exact absurd HA.out (by simp [Ylb.l0])
  | succ k1 =>
   have H := HA.out
   clear HA
   simp only [Ylb.l0] at H
   replace H := Option.bind_eq_some_iff.mp H
   obtain ⟨gM, iY, H⟩ := H
   try dsimp -simprocs only at H
   have A3 := Ya.mk iY
   clear iY
   by_cases c4 : gM < 0
   ·rw [if_pos c4] at H
    have bX : decide (gM < 0) = true := decide_eq_true c4
    clear c4
    by_cases c5 : bA.length < 8796093022208
    rotate_left
    ·rw [if_neg c5] at H
     exact absurd H Zv
    rw [if_pos c5] at H
    have aUR := Ya.mk c5
    clear c5
    obtain ⟨aUS, sX⟩ : ∃ y_ : List ByteArray, y_ = (bA ++ [aX]) := ⟨_, rfl⟩
    replace H : (some aUS) = some r := by first | (rw [sX]; with_reducible exact H) | (have dH := (Option.bind_some _ _).symm.trans H; rw [sX]; with_reducible exact dH) | (have dH := (Option.bind_some _ _).symm.trans H; with_reducible exact dH) | with_reducible exact H | (rw [sX]; exact H) | exact H
    have aHI := Ya.mk sX
    clear sX
    obtain rfl := Option.some.inj H
    go_wp2_with (first | ((with_reducible refine Yi (f := 79) rfl ?_); refine Yaa (some 9) rfl rfl Tryz.func79 Zi rfl #[.string aX, .int .u8 a1] rfl Zb ?_; (with_reducible refine (strings_IndexByte.calls aX a1 gM _ ?side1 A3.out).mono ?_); (case side1 => first | exact HE.out | exact EnvOk.below HE.out Za); rintro e w' ⟨rfl, ⟨nd, rfl⟩⟩; refine ⟨_, rfl, ?_⟩) | ((with_reducible refine Yde (b := .append) (xs := #[.tmp 12, .tmp 14]) rfl ?_); at_builtin; refine Kd.R_append Kd.string (w0 := w) w.heap.size rfl (.tmp 12) (.tmp 14) 44 9 (.string ⟨#[]⟩) 16 rfl Tryz.underlying44 Yeg rfl Zda Zk u5 bA aX [.string aX] (fun _ => True) (fun _ => False) rfl rfl ?aP (fun _ hk => hk.elim) ?aF ?aO ?aB ?aS ?aL ?_; (case aP => exact rfl); (case aB => exact Za); (case aF => exact (fun _ _ => trivial)); (case aO => exact Zoa); (case aS => exact (Yia Za)); (case aL => have := aUR.out; omega); intro v127 w6 ho hb hg hat; rw [← aHI.out] at ho; have aH := Ya.mk (hb); have aR := Ya.mk (ho); clear HB; clear HO_5; have HB := aH; have aHJ := aR; clear aH aR; clear ho hb hg hat))
    go_ret
    exact ⟨_, Zl, by (with_reducible repeat (first | apply Kd.R_alloc | apply Kd.R_drewN | apply Kd.R_drew)); exact aHJ.out, Za⟩
   rw [if_neg c4] at H
   have bX : decide (gM < 0) = false := decide_eq_false c4
   clear c4
   by_cases c7 : 0 ≤ gM
   rotate_left
   ·rw [if_neg c7] at H
    exact absurd H Zv
   rw [if_pos c7] at H
   have cQ := eq_true c7
   have iB : decide (0 ≤ gM) = true := decide_eq_true c7
   clear c7
   by_cases c8 : gM ≤ (aX.size : Int)
   rotate_left
   ·rw [if_neg c8] at H
    exact absurd H Zv
   rw [if_pos c8] at H
   have gQ := eq_true c8
   have iW : decide (gM ≤ (aX.size : Int)) = true := decide_eq_true c8
   clear c8
   by_cases c9 : bA.length < 8796093022208
   rotate_left
   ·rw [if_neg c9] at H
    exact absurd H Zv
   rw [if_pos c9] at H
   have uU := Ya.mk c9
   clear c9
   obtain ⟨aFv, sY⟩ : ∃ y_ : List ByteArray, y_ = (bA ++ [aX.extract 0 (gM : Int).toNat]) := ⟨_, rfl⟩
   replace H : (if 0 ≤ (wrap64 (gM + 1)) then (if (wrap64 (gM + 1)) ≤ (aX.size : Int) then (Ylb.l0 k1 (aX.extract ((wrap64 (gM + 1)) : Int).toNat aX.size) a1 aFv) else (none)) else (none)) = some r := by first | (rw [sY]; with_reducible exact H) | (have dH := (Option.bind_some _ _).symm.trans H; rw [sY]; with_reducible exact dH) | (have dH := (Option.bind_some _ _).symm.trans H; with_reducible exact dH) | with_reducible exact H | (rw [sY]; exact H) | exact H
   have aHK := Ya.mk sY
   clear sY
   obtain ⟨ji10, jL⟩ : ∃ j_ : Int, (wrap64 (gM + 1)) = j_ := ⟨_, rfl⟩
   replace H : (if 0 ≤ (ji10) then (if (ji10) ≤ (aX.size : Int) then (Ylb.l0 k1 (aX.extract ((ji10) : Int).toNat aX.size) a1 aFv) else (none)) else (none)) = some r := by first | (rw [jL] at H; exact H) | (simp only [jL] at H ⊢; exact H)
   (try rw [jL] at A3)
   have hji10w : (IntKind.i64.wrap (gM + 1)) = ji10 := (Yca _).trans jL
   by_cases c11 : 0 ≤ (ji10)
   rotate_left
   ·rw [if_neg c11] at H
    exact absurd H Zv
   rw [if_pos c11] at H
   have gR := eq_true c11
   have pQ : decide (0 ≤ (ji10)) = true := decide_eq_true c11
   clear c11
   by_cases dD : (ji10) ≤ (aX.size : Int)
   rotate_left
   ·rw [if_neg dD] at H
    exact absurd H Zv
   rw [if_pos dD] at H
   have dS := eq_true dD
   have oA : decide ((ji10) ≤ (aX.size : Int)) = true := decide_eq_true dD
   clear dD
   have H' := Ya.mk H
   clear H
   go_wp2_with (first | ((with_reducible refine Yi (f := 79) rfl ?_); refine Yaa (some 9) rfl rfl Tryz.func79 Zi rfl #[.string aX, .int .u8 a1] rfl Zb ?_; (with_reducible refine (strings_IndexByte.calls aX a1 gM _ ?side1 A3.out).mono ?_); (case side1 => first | exact HE.out | exact EnvOk.below HE.out Za); rintro e w' ⟨rfl, ⟨nd, rfl⟩⟩; refine ⟨_, rfl, ?_⟩) | ((with_reducible refine Yde (b := .append) (xs := #[.tmp 16, .tmp 20]) rfl ?_); at_builtin; refine Kd.R_append Kd.string (w0 := w) w.heap.size rfl (.tmp 16) (.tmp 20) 44 9 (.string ⟨#[]⟩) 16 rfl Tryz.underlying44 Yeg rfl Zda Zk u5 bA (aX.extract 0 (gM : Int).toNat) [.string (aX.extract 0 (gM : Int).toNat)] (fun _ => True) (fun _ => False) rfl rfl ?aP (fun _ hk => hk.elim) ?aF ?aO ?aB ?aS ?aL ?_; (case aP => exact rfl); (case aB => exact Za); (case aF => exact (fun _ _ => trivial)); (case aO => exact Zoa); (case aS => exact (Yia Za)); (case aL => have := uU.out; omega); intro aXC nB ho hb hg hat; rw [← aHK.out] at ho; have aH := Ya.mk (hb); have aR := Ya.mk (ho); clear HB; clear HO_5; have HB := aH; have aHL := aR; clear aH aR; clear ho hb hg hat))
   go_roundg k1
   case measure => have := cU.out; omega
   case rel => exact ⟨(aX.extract ((ji10) : Int).toNat aX.size), (aFv), (by first | rfl | (simp; done) | (simp only [← jL] <;> (first | rfl | simp)) | (simp [*]; done)), H', ⟨Zaa⟩, ⟨by (with_reducible repeat (first | apply Kd.R_alloc | apply Kd.R_drewN | apply Kd.R_drew)); exact aHL.out⟩, ⟨Za⟩⟩
def Yja.l0 : Nat → ByteArray → Int → Int → Bool → Int → Int → Option (Int × Int)
 | 0, _, _, _, _, _, _ => none
 | k + 1, x0, x1, x6, x7, x15, qL => if qL < x15 then (if 0 ≤ qL then (if qL < (x0.size : Int) then ((Yta.f (bt x0 qL)).bind fun aFw => (if aFw = true then (if x7 = true then (Yja.l0 k x0 x1 x6 true x15 (wrap64 (qL + 1))) else (if x6 > (wrap64 (Int.tdiv (wrap64 (x1 - (((bt x0 qL) - 48) % 256))) 10)) then (Yja.l0 k x0 x1 x6 true x15 (wrap64 (qL + 1))) else (if x1 < (((bt x0 qL) - 48) % 256) then (Yja.l0 k x0 x1 x6 true x15 (wrap64 (qL + 1))) else (Yja.l0 k x0 x1 (wrap64 ((wrap64 (x6 * 10)) + (((bt x0 qL) - 48) % 256))) x7 x15 (wrap64 (qL + 1)))))) else (some (0, 3)))) else (none)) else (none)) else (if x7 = true then (some (0, 5)) else (some (x6, 0)))
def Yja.f (k : Nat) (a0 : ByteArray) (a1 : Int) : Option (Int × Int) := if a0.toList = ([] : List UInt8) then (some (0, 3)) else (Yja.l0 k a0 a1 0 (decide (a1 < 0)) (a0.size : Int) 0)
theorem Yja.calls (k : Nat) (a0 : ByteArray) (a1 r1 r2 : Int) (w : World) (hE : EnvOk w) (h : Yja.f k a0 a1 = some (r1, r2)) :
  Calls Tryz.prog 83 #[.string a0, .int .i64 a1] w fun e w' => e = .returned (.tuple #[.int .i64 r1, .int .i64 r2]) ∧ Drawn0 w w' := by
 have HE := Ya.mk hE
 clear hE
 have H : (if a0.toList = ([] : List UInt8) then (some (0, 3)) else (Yja.l0 k a0 a1 0 (decide (a1 < 0)) (a0.size : Int) 0)) = some (r1, r2) := h
 clear h
 by_cases c3 : a0.toList = ([] : List UInt8)
 ·rw [if_pos c3] at H
  have cB : (a0.toList == ([] : List UInt8)) = true := beq_iff_eq.mpr c3
  have fV : (a0.toList != ([] : List UInt8)) = false := bne_eq_false_iff_eq.mpr c3
  clear c3
  simp only [Option.some.injEq, Prod.mk.injEq] at H
  obtain ⟨rfl, rfl⟩ := H
  go_enter Tryz.func83, Tryz.ntmps83
  go_wp2
  go_ret2
  exact ⟨Zf, Zh⟩
 rw [if_neg c3] at H
 have cB : (a0.toList == ([] : List UInt8)) = false := beq_eq_false_iff_ne.mpr c3
 have fV : (a0.toList != ([] : List UInt8)) = true := bne_iff_ne.mpr c3
 have H' := Ya.mk H
 clear H
 go_enter Tryz.func83, Tryz.ntmps83
 go_wp2
 go_loopg [6, 7, 16] k (fun kq v6 v7 v16 w' => ∃ (aC : Int) (cC : Bool) (bE : Int), v6 = .int .i64 aC ∧ v7 = .bool cC ∧ v16 = .int .i64 bE ∧ Ya (Yja.l0 kq a0 a1 aC cC (a0.size : Int) bE = some (r1, r2)) ∧ Ya (kq ≤ k) ∧ Drawn0 w w')
 case atStart => exact ⟨(0), (decide (a1 < 0)), (0), Zf, Zf, Zf, H', ⟨Nat.le_refl _⟩, Zh⟩
 case round =>
  clear H'
  try clear p2
  try clear c3
  try clear cB
  try clear fV
  obtain ⟨aC, cC, bE, rfl, rfl, rfl, HA, cU, ⟨m1, rfl⟩⟩ := hrel
  cases gk with
  | zero => exact absurd HA.out (by simp [Yja.l0])
  | succ k1 =>
   have H := HA.out
   clear HA
   simp only [Yja.l0] at H
   by_cases c4 : bE < (a0.size : Int)
   rotate_left
   ·rw [if_neg c4] at H
    have bX : decide (bE < (a0.size : Int)) = false := decide_eq_false c4
    clear c4
    by_cases gO : cC = true
    ·subst gO
     rw [if_pos rfl] at H
     simp only [Option.some.injEq, Prod.mk.injEq] at H
     obtain ⟨rfl, rfl⟩ := H
     go_wp2
     go_ret2
     exact ⟨Zf, Zh⟩
    replace gO := Bool.eq_false_iff.mpr gO
    subst gO
    rw [if_neg (show ¬ (false = true) by decide)] at H
    simp only [Option.some.injEq, Prod.mk.injEq] at H
    obtain ⟨rfl, rfl⟩ := H
    go_wp2
    go_ret2
    exact ⟨Zf, Zh⟩
   rw [if_pos c4] at H
   have bX : decide (bE < (a0.size : Int)) = true := decide_eq_true c4
   clear c4
   by_cases c5 : 0 ≤ bE
   rotate_left
   ·rw [if_neg c5] at H
    exact absurd H Zv
   rw [if_pos c5] at H
   have dI : decide (0 ≤ bE) = true := decide_eq_true c5
   clear c5
   by_cases c6 : bE < (a0.size : Int)
   rotate_left
   ·rw [if_neg c6] at H
    exact absurd H Zv
   rw [if_pos c6] at H
   have dN : decide (bE < (a0.size : Int)) = true := decide_eq_true c6
   clear c6
   replace H := Option.bind_eq_some_iff.mp H
   obtain ⟨aFw, vY, H⟩ := H
   try dsimp -simprocs only at H
   have A8 := Ya.mk vY
   clear vY
   by_cases c9 : aFw = true
   rotate_left
   ·replace c9 := Bool.eq_false_iff.mpr c9
    subst c9
    rw [if_neg (show ¬ (false = true) by decide)] at H
    simp only [Option.some.injEq, Prod.mk.injEq] at H
    obtain ⟨rfl, rfl⟩ := H
    have p7 : 0 ≤ (bE : Int) := of_decide_eq_true Zc
    have q7 : bE < (a0.size : Int) := of_decide_eq_true Zc
    have hx7 := Yza a0 bE
    replace p7 := eq_true p7
    replace q7 := eq_true q7
    go_wp2_with (first | ((with_reducible refine Yi (f := 78) rfl ?_); refine Yaa (some 22) rfl rfl Tryz.func78 Zi rfl #[.int .u8 (bt a0 bE)] rfl Zb ?_; (with_reducible refine (Yta.calls (bt a0 bE) false _ ?side1 A8.out).mono ?_); (case side1 => first | exact HE.out | exact EnvOk.heap HE.out rfl); rintro e w' ⟨rfl, ⟨nd, rfl⟩⟩; refine ⟨_, rfl, ?_⟩))
    go_ret2
    exact ⟨Zf, Zh⟩
   subst c9
   rw [if_pos rfl] at H
   by_cases c11 : cC = true
   ·subst c11
    rw [if_pos rfl] at H
    have H' := Ya.mk H
    clear H
    have p7 : 0 ≤ (bE : Int) := of_decide_eq_true Zc
    have q7 : bE < (a0.size : Int) := of_decide_eq_true Zc
    have hx7 := Yza a0 bE
    replace p7 := eq_true p7
    replace q7 := eq_true q7
    go_wp2_with (first | ((with_reducible refine Yi (f := 78) rfl ?_); refine Yaa (some 22) rfl rfl Tryz.func78 Zi rfl #[.int .u8 (bt a0 bE)] rfl Zb ?_; (with_reducible refine (Yta.calls (bt a0 bE) true _ ?side1 A8.out).mono ?_); (case side1 => first | exact HE.out | exact EnvOk.heap HE.out rfl); rintro e w' ⟨rfl, ⟨nd, rfl⟩⟩; refine ⟨_, rfl, ?_⟩; have vV : 0 ≤ (bE : Int) := of_decide_eq_true Zc; have vW : bE < (a0.size : Int) := of_decide_eq_true Zc; have aDk := Yza a0 bE; replace vV := eq_true vV; replace vW := eq_true vW))
    go_roundg k1
    case measure => have := cU.out; omega
    case rel => exact ⟨(aC), (true), (wrap64 (bE + 1)), Zf, Zf, Zf, H', ⟨Zaa⟩, Zh⟩
   replace c11 := Bool.eq_false_iff.mpr c11
   subst c11
   rw [if_neg (show ¬ (false = true) by decide)] at H
   by_cases dD : aC > (wrap64 (Int.tdiv (wrap64 (a1 - (((bt a0 bE) - 48) % 256))) 10))
   ·rw [if_pos dD] at H
    have dS : decide ((wrap64 (Int.tdiv (wrap64 (a1 - (((bt a0 bE) - 48) % 256))) 10)) < aC) = true := decide_eq_true dD
    clear dD
    have H' := Ya.mk H
    clear H
    have p7 : 0 ≤ (bE : Int) := of_decide_eq_true Zc
    have q7 : bE < (a0.size : Int) := of_decide_eq_true Zc
    have hx7 := Yza a0 bE
    replace p7 := eq_true p7
    replace q7 := eq_true q7
    go_wp2_with (first | ((with_reducible refine Yi (f := 78) rfl ?_); refine Yaa (some 22) rfl rfl Tryz.func78 Zi rfl #[.int .u8 (bt a0 bE)] rfl Zb ?_; (with_reducible refine (Yta.calls (bt a0 bE) true _ ?side1 A8.out).mono ?_); (case side1 => first | exact HE.out | exact EnvOk.heap HE.out rfl); rintro e w' ⟨rfl, ⟨nd, rfl⟩⟩; refine ⟨_, rfl, ?_⟩; have vV : 0 ≤ (bE : Int) := of_decide_eq_true Zc; have vW : bE < (a0.size : Int) := of_decide_eq_true Zc; have aDk := Yza a0 bE; replace vV := eq_true vV; replace vW := eq_true vW))
    go_roundg k1
    case measure => have := cU.out; omega
    case rel => exact ⟨(aC), (true), (wrap64 (bE + 1)), Zf, Zf, Zf, H', ⟨Zaa⟩, Zh⟩
   rw [if_neg dD] at H
   have dS : decide ((wrap64 (Int.tdiv (wrap64 (a1 - (((bt a0 bE) - 48) % 256))) 10)) < aC) = false := decide_eq_false dD
   clear dD
   by_cases eL : a1 < (((bt a0 bE) - 48) % 256)
   ·rw [if_pos eL] at H
    have hD : decide (a1 < (((bt a0 bE) - 48) % 256)) = true := decide_eq_true eL
    clear eL
    have H' := Ya.mk H
    clear H
    have p7 : 0 ≤ (bE : Int) := of_decide_eq_true Zc
    have q7 : bE < (a0.size : Int) := of_decide_eq_true Zc
    have hx7 := Yza a0 bE
    replace p7 := eq_true p7
    replace q7 := eq_true q7
    go_wp2_with (first | ((with_reducible refine Yi (f := 78) rfl ?_); refine Yaa (some 22) rfl rfl Tryz.func78 Zi rfl #[.int .u8 (bt a0 bE)] rfl Zb ?_; (with_reducible refine (Yta.calls (bt a0 bE) true _ ?side1 A8.out).mono ?_); (case side1 => first | exact HE.out | exact EnvOk.heap HE.out rfl); rintro e w' ⟨rfl, ⟨nd, rfl⟩⟩; refine ⟨_, rfl, ?_⟩; have vV : 0 ≤ (bE : Int) := of_decide_eq_true Zc; have vW : bE < (a0.size : Int) := of_decide_eq_true Zc; have aDk := Yza a0 bE; replace vV := eq_true vV; replace vW := eq_true vW))
    go_roundg k1
    case measure => have := cU.out; omega
    case rel => exact ⟨(aC), (true), (wrap64 (bE + 1)), Zf, Zf, Zf, H', ⟨Zaa⟩, Zh⟩
   rw [if_neg eL] at H
   have hD : decide (a1 < (((bt a0 bE) - 48) % 256)) = false := decide_eq_false eL
   clear eL
   have H' := Ya.mk H
   clear H
   have p7 : 0 ≤ (bE : Int) := of_decide_eq_true Zc
   have q7 : bE < (a0.size : Int) := of_decide_eq_true Zc
   have hx7 := Yza a0 bE
   replace p7 := eq_true p7
   replace q7 := eq_true q7
   go_wp2_with (first | ((with_reducible refine Yi (f := 78) rfl ?_); refine Yaa (some 22) rfl rfl Tryz.func78 Zi rfl #[.int .u8 (bt a0 bE)] rfl Zb ?_; (with_reducible refine (Yta.calls (bt a0 bE) true _ ?side1 A8.out).mono ?_); (case side1 => first | exact HE.out | exact EnvOk.heap HE.out rfl); rintro e w' ⟨rfl, ⟨nd, rfl⟩⟩; refine ⟨_, rfl, ?_⟩; have vV : 0 ≤ (bE : Int) := of_decide_eq_true Zc; have vW : bE < (a0.size : Int) := of_decide_eq_true Zc; have aDk := Yza a0 bE; replace vV := eq_true vV; replace vW := eq_true vW))
   go_roundg k1
   case measure => have := cU.out; omega
   case rel => exact ⟨(wrap64 ((wrap64 (aC * 10)) + (((bt a0 bE) - 48) % 256))), (false), (wrap64 (bE + 1)), Zf, Zf, Zf, H', ⟨Zaa⟩, Zh⟩
def Ypb.l0 : Nat → ByteArray → Int → Int → Option (Bool)
 | 0, _, _, _ => none
 | k + 1, x0, x6, x7 => if x7 < x6 then (if 0 ≤ x7 then (if x7 < (x0.size : Int) then ((Ywa.f (bt x0 x7)).bind fun aFx => (if aFx = true then (Ypb.l0 k x0 x6 (wrap64 (x7 + 1))) else ((Yta.f (bt x0 x7)).bind fun aFy => (if aFy = true then (Ypb.l0 k x0 x6 (wrap64 (x7 + 1))) else (if (bt x0 x7) = 45 then (Ypb.l0 k x0 x6 (wrap64 (x7 + 1))) else (if (bt x0 x7) = 95 then (Ypb.l0 k x0 x6 (wrap64 (x7 + 1))) else (some false))))))) else (none)) else (none)) else (if x0.toList = ([] : List UInt8) then (some false) else (some (decide ((x0.size : Int) ≤ 63))))
def Ypb.f (k : Nat) (a0 : ByteArray) : Option (Bool) := Ypb.l0 k a0 (a0.size : Int) 0
theorem Ypb.calls (k : Nat) (a0 : ByteArray) (r : Bool) (w : World) (hE : EnvOk w) (h : Ypb.f k a0 = some r) :
  Calls Tryz.prog 95 #[.string a0] w fun e w' => e = .returned (.bool r) ∧ Drawn0 w w' := by
 have HE := Ya.mk hE
 clear hE
 have H : (Ypb.l0 k a0 (a0.size : Int) 0) = some r := h
 clear h
 have H' := Ya.mk H
 clear H
 go_enter Tryz.func95, Tryz.ntmps95
 go_wp2
 go_loopg [7] k (fun kq v7 w' => ∃ (cC : Int), v7 = .int .i64 cC ∧ Ya (Ypb.l0 kq a0 (a0.size : Int) cC = some r) ∧ Ya (kq ≤ k) ∧ Drawn0 w w')
 case atStart => exact ⟨(0), Zf, H', ⟨Nat.le_refl _⟩, Zh⟩
 case round =>
  clear H'
  obtain ⟨cC, rfl, HA, cU, ⟨m1, rfl⟩⟩ := hrel
  cases gk with
  | zero => exact absurd HA.out (by simp [Ypb.l0])
  | succ k1 =>
   have H := HA.out
   clear HA
   simp only [Ypb.l0] at H
   by_cases c2 : cC < (a0.size : Int)
   rotate_left
   ·rw [if_neg c2] at H
    have eR : decide (cC < (a0.size : Int)) = false := decide_eq_false c2
    clear c2
    by_cases dD : a0.toList = ([] : List UInt8)
    rotate_left
    ·rw [if_neg dD] at H
     have dS : (a0.toList == ([] : List UInt8)) = false := beq_eq_false_iff_ne.mpr dD
     have oA : (a0.toList != ([] : List UInt8)) = true := bne_iff_ne.mpr dD
     obtain rfl := Option.some.inj H
     go_wp2
     go_ret
     exact ⟨Zf, Zh⟩
    rw [if_pos dD] at H
    have dS : (a0.toList == ([] : List UInt8)) = true := beq_iff_eq.mpr dD
    have oA : (a0.toList != ([] : List UInt8)) = false := bne_eq_false_iff_eq.mpr dD
    clear dD
    obtain rfl := Option.some.inj H
    go_wp2
    go_ret
    exact ⟨Zf, Zh⟩
   rw [if_pos c2] at H
   have eR : decide (cC < (a0.size : Int)) = true := decide_eq_true c2
   clear c2
   by_cases c3 : 0 ≤ cC
   rotate_left
   ·rw [if_neg c3] at H
    exact absurd H Zv
   rw [if_pos c3] at H
   have cB : decide (0 ≤ cC) = true := decide_eq_true c3
   clear c3
   by_cases c4 : cC < (a0.size : Int)
   rotate_left
   ·rw [if_neg c4] at H
    exact absurd H Zv
   rw [if_pos c4] at H
   have bX : decide (cC < (a0.size : Int)) = true := decide_eq_true c4
   clear c4
   replace H := Option.bind_eq_some_iff.mp H
   obtain ⟨aFx, pM, H⟩ := H
   try dsimp -simprocs only at H
   have A6 := Ya.mk pM
   clear pM
   by_cases c7 : aFx = true
   ·subst c7
    rw [if_pos rfl] at H
    have H' := Ya.mk H
    clear H
    have p5 : 0 ≤ (cC : Int) := of_decide_eq_true Zc
    have q5 : cC < (a0.size : Int) := of_decide_eq_true Zc
    have kB := Yza a0 cC
    replace p5 := eq_true p5
    replace q5 := eq_true q5
    go_wp2_with (first | ((with_reducible refine Yi (f := 77) rfl ?_); refine Yaa (some 14) rfl rfl Tryz.func77 Zi rfl #[.int .u8 (bt a0 cC)] rfl Zb ?_; (with_reducible refine (Ywa.calls (bt a0 cC) true _ ?side1 A6.out).mono ?_); (case side1 => first | exact HE.out | exact EnvOk.heap HE.out rfl); rintro e w' ⟨rfl, ⟨nd, rfl⟩⟩; refine ⟨_, rfl, ?_⟩))
    go_roundg k1
    case measure => have := cU.out; omega
    case rel => exact ⟨(wrap64 (cC + 1)), Zf, H', ⟨Zaa⟩, Zh⟩
   replace c7 := Bool.eq_false_iff.mpr c7
   subst c7
   rw [if_neg (show ¬ (false = true) by decide)] at H
   replace H := Option.bind_eq_some_iff.mp H
   obtain ⟨aFy, vY, H⟩ := H
   try dsimp -simprocs only at H
   have A8 := Ya.mk vY
   clear vY
   by_cases c9 : aFy = true
   ·subst c9
    rw [if_pos rfl] at H
    have H' := Ya.mk H
    clear H
    have p5 : 0 ≤ (cC : Int) := of_decide_eq_true Zc
    have q5 : cC < (a0.size : Int) := of_decide_eq_true Zc
    have kB := Yza a0 cC
    replace p5 := eq_true p5
    replace q5 := eq_true q5
    go_wp2_with (first | ((with_reducible refine Yi (f := 77) rfl ?_); refine Yaa (some 14) rfl rfl Tryz.func77 Zi rfl #[.int .u8 (bt a0 cC)] rfl Zb ?_; (with_reducible refine (Ywa.calls (bt a0 cC) false _ ?side1 A6.out).mono ?_); (case side1 => first | exact HE.out | exact EnvOk.heap HE.out rfl); rintro e w' ⟨rfl, ⟨nd, rfl⟩⟩; refine ⟨_, rfl, ?_⟩) | (go_at_call 78; (with_reducible refine (Yta.calls (bt a0 cC) true _ ?side1 A8.out).mono ?_); (case side1 => first | exact HE.out | exact EnvOk.heap HE.out rfl); rintro e w' ⟨rfl, ⟨nd, rfl⟩⟩))
    go_roundg k1
    case measure => have := cU.out; omega
    case rel => exact ⟨(wrap64 (cC + 1)), Zf, H', ⟨Zaa⟩, Zh⟩
   replace c9 := Bool.eq_false_iff.mpr c9
   subst c9
   rw [if_neg (show ¬ (false = true) by decide)] at H
   by_cases dP : (bt a0 cC) = 45
   ·rw [if_pos dP] at H
    have gY : ((bt a0 cC) == 45) = true := beq_iff_eq.mpr dP
    have aAJ : ((bt a0 cC) != 45) = false := bne_eq_false_iff_eq.mpr dP
    clear dP
    have H' := Ya.mk H
    clear H
    have p5 : 0 ≤ (cC : Int) := of_decide_eq_true Zc
    have q5 : cC < (a0.size : Int) := of_decide_eq_true Zc
    have kB := Yza a0 cC
    replace p5 := eq_true p5
    replace q5 := eq_true q5
    go_wp2_with (first | ((with_reducible refine Yi (f := 77) rfl ?_); refine Yaa (some 14) rfl rfl Tryz.func77 Zi rfl #[.int .u8 (bt a0 cC)] rfl Zb ?_; (with_reducible refine (Ywa.calls (bt a0 cC) false _ ?side1 A6.out).mono ?_); (case side1 => first | exact HE.out | exact EnvOk.heap HE.out rfl); rintro e w' ⟨rfl, ⟨nd, rfl⟩⟩; refine ⟨_, rfl, ?_⟩) | (go_at_call 78; (with_reducible refine (Yta.calls (bt a0 cC) false _ ?side1 A8.out).mono ?_); (case side1 => first | exact HE.out | exact EnvOk.heap HE.out rfl); rintro e w' ⟨rfl, ⟨nd, rfl⟩⟩))
    go_roundg k1
    case measure => have := cU.out; omega
    case rel => exact ⟨(wrap64 (cC + 1)), Zf, H', ⟨Zaa⟩, Zh⟩
   rw [if_neg dP] at H
   have gY : ((bt a0 cC) == 45) = false := beq_eq_false_iff_ne.mpr dP
   have aAJ : ((bt a0 cC) != 45) = true := bne_iff_ne.mpr dP
   by_cases c11 : (bt a0 cC) = 95
   rotate_left
   ·rw [if_neg c11] at H
    have gR : ((bt a0 cC) == 95) = false := beq_eq_false_iff_ne.mpr c11
    have pQ : ((bt a0 cC) != 95) = true := bne_iff_ne.mpr c11
    obtain rfl := Option.some.inj H
    have p5 : 0 ≤ (cC : Int) := of_decide_eq_true Zc
    have q5 : cC < (a0.size : Int) := of_decide_eq_true Zc
    have kB := Yza a0 cC
    replace p5 := eq_true p5
    replace q5 := eq_true q5
    go_wp2_with (first | ((with_reducible refine Yi (f := 77) rfl ?_); refine Yaa (some 14) rfl rfl Tryz.func77 Zi rfl #[.int .u8 (bt a0 cC)] rfl Zb ?_; (with_reducible refine (Ywa.calls (bt a0 cC) false _ ?side1 A6.out).mono ?_); (case side1 => first | exact HE.out | exact EnvOk.heap HE.out rfl); rintro e w' ⟨rfl, ⟨nd, rfl⟩⟩; refine ⟨_, rfl, ?_⟩) | (go_at_call 78; (with_reducible refine (Yta.calls (bt a0 cC) false _ ?side1 A8.out).mono ?_); (case side1 => first | exact HE.out | exact EnvOk.heap HE.out rfl); rintro e w' ⟨rfl, ⟨nd, rfl⟩⟩))
    go_ret
    exact ⟨Zf, Zh⟩
   rw [if_pos c11] at H
   have gR : ((bt a0 cC) == 95) = true := beq_iff_eq.mpr c11
   have pQ : ((bt a0 cC) != 95) = false := bne_eq_false_iff_eq.mpr c11
   clear c11
   have H' := Ya.mk H
   clear H
   have p5 : 0 ≤ (cC : Int) := of_decide_eq_true Zc
   have q5 : cC < (a0.size : Int) := of_decide_eq_true Zc
   have kB := Yza a0 cC
   replace p5 := eq_true p5
   replace q5 := eq_true q5
   go_wp2_with (first | ((with_reducible refine Yi (f := 77) rfl ?_); refine Yaa (some 14) rfl rfl Tryz.func77 Zi rfl #[.int .u8 (bt a0 cC)] rfl Zb ?_; (with_reducible refine (Ywa.calls (bt a0 cC) false _ ?side1 A6.out).mono ?_); (case side1 => first | exact HE.out | exact EnvOk.heap HE.out rfl); rintro e w' ⟨rfl, ⟨nd, rfl⟩⟩; refine ⟨_, rfl, ?_⟩) | (go_at_call 78; (with_reducible refine (Yta.calls (bt a0 cC) false _ ?side1 A8.out).mono ?_); (case side1 => first | exact HE.out | exact EnvOk.heap HE.out rfl); rintro e w' ⟨rfl, ⟨nd, rfl⟩⟩))
   go_roundg k1
   case measure => have := cU.out; omega
   case rel => exact ⟨(wrap64 (cC + 1)), Zf, H', ⟨Zaa⟩, Zh⟩
def Yxe.f (k : Nat) (a0 : ByteArray) : Option (Bool) := (Yja.f k a0 255).bind fun sZ => (if sZ.2 = 0 then ((Yme.f k sZ.1).bind fun aAK => (some (aAK.toList == a0.toList))) else (some false))
theorem Yxe.calls (k : Nat) (a0 : ByteArray) (r : Bool) (w : World) (hE : EnvOk w) (h : Yxe.f k a0 = some r) :
  Calls Tryz.prog 96 #[.string a0] w fun e w' => e = .returned (.bool r) ∧ Below w.heap.size w w' := by
 have HE := Ya.mk hE
 clear hE
 have HB := Ya.mk (Below.refl w.heap.size w)
 have H : ((Yja.f k a0 255).bind fun sZ => (if sZ.2 = 0 then ((Yme.f k sZ.1).bind fun aAK => (some (aAK.toList == a0.toList))) else (some false))) = some r := h
 clear h
 replace H := Option.bind_eq_some_iff.mp H
 obtain ⟨⟨aFz, uV⟩, dV, H⟩ := H
 try dsimp -simprocs only at H
 have A2 := Ya.mk dV
 clear dV
 by_cases c3 : uV = 0
 rotate_left
 ·rw [if_neg c3] at H
  have cB : (uV == 0) = false := beq_eq_false_iff_ne.mpr c3
  have fV : (uV != 0) = true := bne_iff_ne.mpr c3
  obtain rfl := Option.some.inj H
  go_enter Tryz.func96, Tryz.ntmps96
  go_wp2_with (first | ((with_reducible refine Yi (f := 83) rfl ?_); refine Yaa (some 7) rfl rfl Tryz.func83 Zi rfl #[.string a0, .int .i64 255] rfl Zb ?_; (with_reducible refine (Yja.calls k a0 255 aFz uV _ ?side1 A2.out).mono ?_); (case side1 => first | exact HE.out | exact EnvOk.below HE.out Za); rintro e w' ⟨rfl, ⟨nd, rfl⟩⟩; refine ⟨_, rfl, ?_⟩))
  go_ret
  exact ⟨Zl, Za⟩
 rw [if_pos c3] at H
 have cB : (uV == 0) = true := beq_iff_eq.mpr c3
 have fV : (uV != 0) = false := bne_eq_false_iff_eq.mpr c3
 clear c3
 replace H := Option.bind_eq_some_iff.mp H
 obtain ⟨aAK, sU, H⟩ := H
 try dsimp -simprocs only at H
 have A4 := Ya.mk sU
 clear sU
 obtain rfl := Option.some.inj H
 go_enter Tryz.func96, Tryz.ntmps96
 go_wp2_with (first | ((with_reducible refine Yi (f := 83) rfl ?_); refine Yaa (some 7) rfl rfl Tryz.func83 Zi rfl #[.string a0, .int .i64 255] rfl Zb ?_; (with_reducible refine (Yja.calls k a0 255 aFz uV _ ?side1 A2.out).mono ?_); (case side1 => first | exact HE.out | exact EnvOk.below HE.out Za); rintro e w' ⟨rfl, ⟨nd, rfl⟩⟩; refine ⟨_, rfl, ?_⟩) | (go_at_call 68; (with_reducible refine (Yme.calls k aFz aAK _ ?side1 A4.out).mono ?_); (case side1 => first | exact HE.out | exact EnvOk.below HE.out Za); rintro e w5 ⟨rfl, hb⟩; have aH := Ya.mk (Yt Za hb); clear HB; have HB := aH; clear aH; (try clear hb); (try clear bU); (try clear hk); (try clear hi)))
 go_ret
 exact ⟨Zl, Za⟩
def Ynb.l0 : Nat → ByteArray → List ByteArray → Bool → List ByteArray → Int → Int → Option (Bool)
 | 0, _, _, _, _, _, _ => none
 | k + 1, x0, x3, x4, x14, x15, qL => if qL < x15 then (if 0 ≤ qL then (if qL < (x14.length : Int) then ((Ypb.f k (rdOf ByteArray.empty x14 qL)).bind fun aFA => (if aFA = true then (if x4 = true then ((Yxe.f k (rdOf ByteArray.empty x14 qL)).bind fun t146 => (Ynb.l0 k x0 x3 t146 x14 x15 (wrap64 (qL + 1)))) else (Ynb.l0 k x0 x3 false x14 x15 (wrap64 (qL + 1)))) else (some false))) else (none)) else (none)) else (if 0 ≤ (wrap64 ((x3.length : Int) - 1)) then (if (wrap64 ((x3.length : Int) - 1)) < (x3.length : Int) then ((Yja.f k (rdOf ByteArray.empty x3 (wrap64 ((x3.length : Int) - 1))) 0).bind fun aAL => (if (x0.size : Int) ≤ 253 then (if aAL.2 = 3 then (some true) else (some x4)) else (some false))) else (none)) else (none))
def Ynb.f (k : Nat) (a0 : ByteArray) : Option (Bool) := (Ylb.f k a0 46).bind fun t138 => (Ynb.l0 k a0 t138 ((t138.length : Int) == 4) t138 (t138.length : Int) 0)
theorem Ynb.calls (k : Nat) (a0 : ByteArray) (r : Bool) (w : World) (hE : EnvOk w) (h : Ynb.f k a0 = some r) :
  Calls Tryz.prog 54 #[.string a0] w fun e w' => e = .returned (.bool r) ∧ Below w.heap.size w w' := by
 have HE := Ya.mk hE
 clear hE
 have HB := Ya.mk (Below.refl w.heap.size w)
 have H : ((Ylb.f k a0 46).bind fun t138 => (Ynb.l0 k a0 t138 ((t138.length : Int) == 4) t138 (t138.length : Int) 0)) = some r := h
 clear h
 replace H := Option.bind_eq_some_iff.mp H
 obtain ⟨t138, dV, H⟩ := H
 try dsimp -simprocs only at H
 have A2 := Ya.mk dV
 clear dV
 have H' := Ya.mk H
 clear H
 go_enter Tryz.func54, Tryz.ntmps54
 go_wp2_with (first | ((with_reducible refine Yi (f := 60) rfl ?_); refine Yaa (some 10) rfl rfl Tryz.func60 Zi rfl #[.string a0, .int .u8 46] rfl Zb ?_; (with_reducible refine (Ylb.calls k a0 46 t138 _ ?side1 A2.out).mono ?_); (case side1 => first | exact HE.out | exact EnvOk.below HE.out Za); rintro e w3 ⟨v139, rfl, qE, hb⟩; refine ⟨_, rfl, ?_⟩; have aH := Ya.mk (Kd.R_lower qE (Yia Za)); have aR := Ya.mk (Yt Za hb); clear HB; have aAM := aH; have HB := aR; clear aH aR; (try clear hb); (try clear bU); (try clear hk); (try clear hi); (try clear qE); obtain ⟨Ao4, co4, eo4⟩ := Kd.R_slice aAM.out; subst eo4))
 go_loopg [4, 16] k (fun kq v4 v16 w' => ∃ (aA : Bool) (bE : Int), v4 = .bool aA ∧ v16 = .int .i64 bE ∧ Ya (Ynb.l0 kq a0 t138 aA t138 (t138.length : Int) bE = some r) ∧ Ya (kq ≤ k) ∧ Ya (Kd.R Kd.string 9 w' w.heap.size (fun _ => True) (.slice Ao4 t138.length co4) t138) ∧ Ya (Kd.R Kd.string 9 w' w.heap.size (fun _ => True) (.slice Ao4 t138.length co4) t138) ∧ Ya (Below w.heap.size w w'))
 case atStart => exact ⟨(((t138.length : Int) == 4)), (0), Zf, Zf, H', ⟨Nat.le_refl _⟩, ⟨by (with_reducible repeat (first | apply Kd.R_alloc | apply Kd.R_drewN | apply Kd.R_drew)); exact aAM.out⟩, ⟨by (with_reducible repeat (first | apply Kd.R_alloc | apply Kd.R_drewN | apply Kd.R_drew)); exact aAM.out⟩, ⟨Za⟩⟩
 case round =>
  clear H'
  try clear p2
  obtain ⟨aA, bE, rfl, rfl, HA, cU, HO_3, HO_14, HB⟩ := hrel
  cases gk with
  | zero => exact absurd HA.out (by simp [Ynb.l0])
  | succ k1 =>
   have H := HA.out
   clear HA
   simp only [Ynb.l0] at H
   by_cases c5 : bE < (t138.length : Int)
   rotate_left
   ·rw [if_neg c5] at H
    have dI : decide (bE < (t138.length : Int)) = false := decide_eq_false c5
    clear c5
    obtain ⟨ji13, sJ⟩ : ∃ j_ : Int, (wrap64 ((t138.length : Int) - 1)) = j_ := ⟨_, rfl⟩
    replace H : (if 0 ≤ (ji13) then (if (ji13) < (t138.length : Int) then ((Yja.f k1 (rdOf ByteArray.empty t138 (ji13)) 0).bind fun aAL => (if (a0.size : Int) ≤ 253 then (if aAL.2 = 3 then (some true) else (some aA)) else (some false))) else (none)) else (none)) = some r := by first | (rw [sJ] at H; exact H) | (simp only [sJ] at H ⊢; exact H)
    have hji13w : (IntKind.i64.wrap ((t138.length : Int) - 1)) = ji13 := (Yca _).trans sJ
    by_cases gO : 0 ≤ (ji13)
    rotate_left
    ·rw [if_neg gO] at H
     exact absurd H Zv
    rw [if_pos gO] at H
    have iC : decide (0 ≤ (ji13)) = true := decide_eq_true gO
    clear gO
    by_cases dG : (ji13) < (t138.length : Int)
    rotate_left
    ·rw [if_neg dG] at H
     exact absurd H Zv
    rw [if_pos dG] at H
    have eS : decide ((ji13) < (t138.length : Int)) = true := decide_eq_true dG
    clear dG
    replace H := Option.bind_eq_some_iff.mp H
    obtain ⟨⟨aFB, tA⟩, sS, H⟩ := H
    try dsimp -simprocs only at H
    have A16 := Ya.mk sS
    clear sS
    by_cases eF : (a0.size : Int) ≤ 253
    rotate_left
    ·rw [if_neg eF] at H
     have jK : decide ((a0.size : Int) ≤ 253) = false := decide_eq_false eF
     have lI : decide (a0.size ≤ 253) = false := decide_eq_false Zk
     clear eF
     obtain rfl := Option.some.inj H
     have oB : 0 ≤ ((ji13) : Int) := of_decide_eq_true Zc
     have oC : (ji13) < (t138.length : Int) := of_decide_eq_true Zc
     obtain ⟨aEH, aAN, vZ⟩ := Kd.at_string (Kd.R_reads' HO_3.out).2.2 (ji13) oB oC
     cases aAN
     replace oB := eq_true oB
     replace oC := eq_true oC
     go_wp2_with (first | ((with_reducible refine Yi (f := 83) rfl ?_); refine Yaa (some 36) rfl rfl Tryz.func83 Zi rfl #[.string (rdOf ByteArray.empty t138 (ji13)), .int .i64 0] rfl Zka ?_; (with_reducible refine (Yja.calls k1 (rdOf ByteArray.empty t138 (ji13)) 0 aFB tA _ ?side1 A16.out).mono ?_); (case side1 => first | exact HE.out | exact EnvOk.below HE.out Za); rintro e w' ⟨rfl, ⟨nd, rfl⟩⟩; refine ⟨_, rfl, ?_⟩))
     go_ret
     exact ⟨Zra, Za⟩
    rw [if_pos eF] at H
    have jK : decide ((a0.size : Int) ≤ 253) = true := decide_eq_true eF
    have lI : decide (a0.size ≤ 253) = true := decide_eq_true Zk
    clear eF
    by_cases eO : tA = 3
    rotate_left
    ·rw [if_neg eO] at H
     have nV : (tA == 3) = false := beq_eq_false_iff_ne.mpr eO
     have pO : (tA != 3) = true := bne_iff_ne.mpr eO
     obtain rfl := Option.some.inj H
     have oB : 0 ≤ ((ji13) : Int) := of_decide_eq_true Zc
     have oC : (ji13) < (t138.length : Int) := of_decide_eq_true Zc
     obtain ⟨aEH, aAN, vZ⟩ := Kd.at_string (Kd.R_reads' HO_3.out).2.2 (ji13) oB oC
     cases aAN
     replace oB := eq_true oB
     replace oC := eq_true oC
     go_wp2_with (first | ((with_reducible refine Yi (f := 83) rfl ?_); refine Yaa (some 36) rfl rfl Tryz.func83 Zi rfl #[.string (rdOf ByteArray.empty t138 (ji13)), .int .i64 0] rfl Zka ?_; (with_reducible refine (Yja.calls k1 (rdOf ByteArray.empty t138 (ji13)) 0 aFB tA _ ?side1 A16.out).mono ?_); (case side1 => first | exact HE.out | exact EnvOk.below HE.out Za); rintro e w' ⟨rfl, ⟨nd, rfl⟩⟩; refine ⟨_, rfl, ?_⟩))
     go_ret
     exact ⟨Zra, Za⟩
    rw [if_pos eO] at H
    have nV : (tA == 3) = true := beq_iff_eq.mpr eO
    have pO : (tA != 3) = false := bne_eq_false_iff_eq.mpr eO
    clear eO
    obtain rfl := Option.some.inj H
    have oB : 0 ≤ ((ji13) : Int) := of_decide_eq_true Zc
    have oC : (ji13) < (t138.length : Int) := of_decide_eq_true Zc
    obtain ⟨aEH, aAN, vZ⟩ := Kd.at_string (Kd.R_reads' HO_3.out).2.2 (ji13) oB oC
    cases aAN
    replace oB := eq_true oB
    replace oC := eq_true oC
    go_wp2_with (first | ((with_reducible refine Yi (f := 83) rfl ?_); refine Yaa (some 36) rfl rfl Tryz.func83 Zi rfl #[.string (rdOf ByteArray.empty t138 (ji13)), .int .i64 0] rfl Zka ?_; (with_reducible refine (Yja.calls k1 (rdOf ByteArray.empty t138 (ji13)) 0 aFB tA _ ?side1 A16.out).mono ?_); (case side1 => first | exact HE.out | exact EnvOk.below HE.out Za); rintro e w' ⟨rfl, ⟨nd, rfl⟩⟩; refine ⟨_, rfl, ?_⟩))
    go_ret
    exact ⟨Zra, Za⟩
   rw [if_pos c5] at H
   have dI : decide (bE < (t138.length : Int)) = true := decide_eq_true c5
   clear c5
   by_cases c6 : 0 ≤ bE
   rotate_left
   ·rw [if_neg c6] at H
    exact absurd H Zv
   rw [if_pos c6] at H
   have dN : decide (0 ≤ bE) = true := decide_eq_true c6
   clear c6
   by_cases c7 : bE < (t138.length : Int)
   rotate_left
   ·rw [if_neg c7] at H
    exact absurd H Zv
   rw [if_pos c7] at H
   have cQ : decide (bE < (t138.length : Int)) = true := decide_eq_true c7
   clear c7
   replace H := Option.bind_eq_some_iff.mp H
   obtain ⟨aFA, vY, H⟩ := H
   try dsimp -simprocs only at H
   have A8 := Ya.mk vY
   clear vY
   by_cases c9 : aFA = true
   rotate_left
   ·replace c9 := Bool.eq_false_iff.mpr c9
    subst c9
    rw [if_neg (show ¬ (false = true) by decide)] at H
    obtain rfl := Option.some.inj H
    have oD : 0 ≤ (bE : Int) := of_decide_eq_true Zc
    have oE : bE < (t138.length : Int) := of_decide_eq_true Zc
    obtain ⟨aEI, aAO, wA⟩ := Kd.at_string (Kd.R_reads' HO_14.out).2.2 bE oD oE
    cases aAO
    replace oD := eq_true oD
    replace oE := eq_true oE
    go_wp2_with (first | ((with_reducible refine Yi (f := 95) rfl ?_); refine Yaa (some 21) rfl rfl Tryz.func95 Zi rfl #[.string (rdOf ByteArray.empty t138 bE)] rfl Zb ?_; (with_reducible refine (Ypb.calls k1 (rdOf ByteArray.empty t138 bE) false _ ?side1 A8.out).mono ?_); (case side1 => first | exact HE.out | exact EnvOk.below HE.out Za); rintro e w' ⟨rfl, ⟨nd, rfl⟩⟩; refine ⟨_, rfl, ?_⟩))
    go_ret
    exact ⟨Zl, Za⟩
   subst c9
   rw [if_pos rfl] at H
   by_cases dP : aA = true
   rotate_left
   ·replace dP := Bool.eq_false_iff.mpr dP
    subst dP
    rw [if_neg (show ¬ (false = true) by decide)] at H
    have H' := Ya.mk H
    clear H
    have oD : 0 ≤ (bE : Int) := of_decide_eq_true Zc
    have oE : bE < (t138.length : Int) := of_decide_eq_true Zc
    obtain ⟨aEI, aAO, wA⟩ := Kd.at_string (Kd.R_reads' HO_14.out).2.2 bE oD oE
    cases aAO
    replace oD := eq_true oD
    replace oE := eq_true oE
    go_wp2_with (first | ((with_reducible refine Yi (f := 95) rfl ?_); refine Yaa (some 21) rfl rfl Tryz.func95 Zi rfl #[.string (rdOf ByteArray.empty t138 bE)] rfl Zb ?_; (with_reducible refine (Ypb.calls k1 (rdOf ByteArray.empty t138 bE) true _ ?side1 A8.out).mono ?_); (case side1 => first | exact HE.out | exact EnvOk.below HE.out Za); rintro e w' ⟨rfl, ⟨nd, rfl⟩⟩; refine ⟨_, rfl, ?_⟩))
    go_roundg k1
    case measure => have := cU.out; omega
    case rel => exact ⟨(false), (wrap64 (bE + 1)), Zf, Zf, H', ⟨Zaa⟩, ⟨Zm⟩, ⟨Zwa⟩, ⟨Za⟩⟩
   subst dP
   rw [if_pos rfl] at H
   replace H := Option.bind_eq_some_iff.mp H
   obtain ⟨t146, aHN, H⟩ := H
   try dsimp -simprocs only at H
   have A11 := Ya.mk aHN
   clear aHN
   have H' := Ya.mk H
   clear H
   have oD : 0 ≤ (bE : Int) := of_decide_eq_true Zc
   have oE : bE < (t138.length : Int) := of_decide_eq_true Zc
   obtain ⟨aEI, aAO, wA⟩ := Kd.at_string (Kd.R_reads' HO_14.out).2.2 bE oD oE
   cases aAO
   replace oD := eq_true oD
   replace oE := eq_true oE
   go_wp2_with (first | ((with_reducible refine Yi (f := 95) rfl ?_); refine Yaa (some 21) rfl rfl Tryz.func95 Zi rfl #[.string (rdOf ByteArray.empty t138 bE)] rfl Zb ?_; (with_reducible refine (Ypb.calls k1 (rdOf ByteArray.empty t138 bE) true _ ?side1 A8.out).mono ?_); (case side1 => first | exact HE.out | exact EnvOk.below HE.out Za); rintro e w' ⟨rfl, ⟨nd, rfl⟩⟩; refine ⟨_, rfl, ?_⟩) | (go_at_call 96; (with_reducible refine (Yxe.calls k1 (rdOf ByteArray.empty t138 bE) t146 _ ?side1 A11.out).mono ?_); (case side1 => first | exact HE.out | exact EnvOk.below HE.out Za); rintro e uN ⟨rfl, hb⟩; have aH := Ya.mk (Kd.R_below Zm hb); have aR := Ya.mk (Kd.R_below Zwa hb); have bK := Ya.mk (Yt Za hb); clear HO_3; clear HO_14; clear HB; have HO_3 := aH; have HO_14 := aR; have HB := bK; clear aH aR bK; (try clear hb); (try clear bU); (try clear hk); (try clear hi)))
   go_roundg k1
   case measure => have := cU.out; omega
   case rel => exact ⟨(t146), (wrap64 (bE + 1)), Zf, Zf, H', ⟨Zaa⟩, ⟨Zm⟩, ⟨Zwa⟩, ⟨Za⟩⟩
def Yzf.f (a0 : ByteArray) : Option (Int) := if a0.toList = ([104, 116, 116, 112] : List UInt8) then (some 80) else (some 443)
theorem Yzf.calls (a0 : ByteArray) (r : Int) (w : World) (hE : EnvOk w) (h : Yzf.f a0 = some r) :
  Calls Tryz.prog 84 #[.string a0] w fun e w' => e = .returned (.int .i64 r) ∧ Drawn0 w w' := by
 have HE := Ya.mk hE
 clear hE
 have H : (if a0.toList = ([104, 116, 116, 112] : List UInt8) then (some 80) else (some 443)) = some r := h
 clear h
 by_cases c2 : a0.toList = ([104, 116, 116, 112] : List UInt8)
 rotate_left
 ·rw [if_neg c2] at H
  have eR : (a0.toList == ([104, 116, 116, 112] : List UInt8)) = false := beq_eq_false_iff_ne.mpr c2
  have jY : (a0.toList != ([104, 116, 116, 112] : List UInt8)) = true := bne_iff_ne.mpr c2
  obtain rfl := Option.some.inj H
  go_enter Tryz.func84, Tryz.ntmps84
  go_wp2
  go_ret
  exact ⟨Zf, Zh⟩
 rw [if_pos c2] at H
 have eR : (a0.toList == ([104, 116, 116, 112] : List UInt8)) = true := beq_iff_eq.mpr c2
 have jY : (a0.toList != ([104, 116, 116, 112] : List UInt8)) = false := bne_eq_false_iff_eq.mpr c2
 clear c2
 obtain rfl := Option.some.inj H
 go_enter Tryz.func84, Tryz.ntmps84
 go_wp2
 go_ret
 exact ⟨Zf, Zh⟩
end Go.Proofs.YtnmglnglbdpjjaaGreatDoor.X
