import Derived.Test.YtnmglnglbdpjjaaGreatDoorUfX3
import Derived.Test.YtnmglnglbdpjjaaGreatDoorUfQa
set_option linter.all false
namespace Go.Proofs.YtnmglnglbdpjjaaGreatDoor.X
open Go.RowKit Go.Yw.PrintWords Go.Yw.PrintLast Go.Yw.PrintMore
attribute [local go_sem] Yfe Ybe Yre Yue Yld Ykd Yee Yde
set_option maxHeartbeats 8000000
set_option maxRecDepth 100000
def Ylb.l0 : Nat → Y → Int → List Y → Option (List Y)
 | 0, _, _, _ => none
 | k + 1, x0, x1, x5 => (strings_IndexByte.f x0 x1).bind fun gO => (if gO < 0 then (if x5.length < 8796093022208 then (some (x5 ++ [x0])) else (none)) else (if 0 ≤ gO then (if gO ≤ (x0.size : Int) then (if x5.length < 8796093022208 then (if 0 ≤ (wrap64 (gO + 1)) then (if (wrap64 (gO + 1)) ≤ (x0.size : Int) then (Ylb.l0 k (x0.extract ((wrap64 (gO + 1)) : Int).toNat x0.size) x1 (x5 ++ [x0.extract 0 (gO : Int).toNat])) else (none)) else (none)) else (none)) else (none)) else (none)))
def Ylb.f (k : Nat) (a0 : Y) (a1 : Int) : Option (List Y) := Ylb.l0 k a0 a1 ([] : List Y)
theorem Ylb.mono_l : ∀ k, (∀ y0 y1 y2, LeO (Ylb.l0 k y0 y1 y2) (Ylb.l0 (k + 1) y0 y1 y2))
 | 0 => fun _ _ _ r h => by simp [Ylb.l0] at h
 | k + 1 => by
  have sP := Ylb.mono_l k
  ·intro y0 y1 y2
   unfold Ylb.l0
   repeat' first
   | (with_reducible exact sP _ _ _)
   | (with_reducible exact LeO.refl _)
   | (with_reducible exact LeO.none _)
   | (with_reducible refine LeO.ite ?_ ?_)
   | (with_reducible refine LeO.bind ?_ (fun _ => ?_))
   | exact sP _ _ _
   | exact LeO.none _
   | refine LeO.ite ?_ ?_
   | refine LeO.bind ?_ (fun _ => ?_)
theorem Ylb.mono : ∀ a0 a1 k, LeO (Ylb.f k a0 a1) (Ylb.f (k + 1) a0 a1) := by
 intro a0 a1 k
 have sP := Ylb.mono_l k
 unfold Ylb.f
 repeat' first
   | (with_reducible exact sP _ _ _)
   | (with_reducible exact LeO.refl _)
   | (with_reducible exact LeO.none _)
   | (with_reducible refine LeO.ite ?_ ?_)
   | (with_reducible refine LeO.bind ?_ (fun _ => ?_))
   | exact sP _ _ _
   | exact LeO.none _
   | refine LeO.ite ?_ ?_
   | refine LeO.bind ?_ (fun _ => ?_)
theorem Ylb.calls (k : Nat) (a0 : Y) (a1 : Int) (r : List Y) (w : World) (hE : EnvOk w) (h : Ylb.f k a0 a1 = some r) :
  Calls Tryz.prog 60 #[.string a0, .int .u8 a1] w fun e w' => ∃ v0_ : Value, e = .returned (v0_) ∧ Kd.R Kd.string 9 w' w.heap.size (fun _ => True) v0_ r ∧ Below w.heap.size w w' := by
 have HE := Ya.mk hE
 clear hE
 have HB := Ya.mk (Below.refl w.heap.size w)
 have H : (Ylb.l0 k a0 a1 ([] : List Y)) = some r := h
 clear h
 have H' := Ya.mk H
 clear H
 go_enter Tryz.func60, Tryz.ntmps60
 go_wp2
 go_loopg [0, 5] k (fun kq v0 v5 w' => ∃ (aX : Y) (bA : List Y), v0 = .string aX ∧ Ya (Ylb.l0 kq aX a1 bA = some r) ∧ Ya (kq ≤ k) ∧ Ya (Kd.R Kd.string 9 w' w.heap.size (fun _ => True) v5 bA) ∧ Ya (Below w.heap.size w w'))
 case atStart => exact ⟨(a0), (([] : List Y)), Zf, H', ⟨Kw _⟩, ⟨Zfa⟩, ⟨Za⟩⟩
 case round =>
  clear H'
  try clear p2
  obtain ⟨aX, bA, rfl, HA, dB, HO_5, HB⟩ := hrel
  cases gk with
  | zero => exact absurd HA.out (by simp [Ylb.l0])
  | succ k1 =>
   have H := HA.out
   clear HA
   simp only [Ylb.l0] at H
   obtain ⟨gO, jC, H⟩ := Ku H
   try dsimp -simprocs only at H
   have A3 := Ya.mk jC
   clear jC
   by_cases c4 : gO < 0
   ·rw [if_pos c4] at H
    have bX : decide (gO < 0) = true := Kr c4
    clear c4
    by_cases c5 : bA.length < 8796093022208
    rotate_left
    ·rw [if_neg c5] at H
     exact absurd H Zv
    rw [if_pos c5] at H
    have aVm := Ya.mk c5
    clear c5
    obtain ⟨aVn, tB⟩ : ∃ y_ : List Y, y_ = (bA ++ [aX]) := ⟨_, rfl⟩
    replace H : (some aVn) = some r := by first | (rw [tB]; with_reducible exact H) | (have dH := (Kfa _ _).symm.trans H; rw [tB]; with_reducible exact dH) | (have dH := (Kfa _ _).symm.trans H; with_reducible exact dH) | with_reducible exact H | (rw [tB]; exact H) | exact H
    have aHU := Ya.mk tB
    clear tB
    obtain rfl := Kv H
    go_wp2_with (first | ((with_reducible refine Yh (f := 79) rfl ?_); refine Yca (some 9) rfl rfl Tryz.func79 Zi rfl #[.string aX, .int .u8 a1] rfl Zb ?_; (with_reducible refine (strings_IndexByte.calls aX a1 gO _ ?z1 A3.out).mono ?_); (case z1 => exact Kh); rintro e w' ⟨rfl, ⟨nd, rfl⟩⟩; refine ⟨_, rfl, ?_⟩) | ((with_reducible refine Yje (b := .append) (xs := #[.tmp 12, .tmp 14]) rfl ?_); at_builtin; refine Kd.R_append Kd.string (w0 := w) w.heap.size rfl (.tmp 12) (.tmp 14) 44 9 (.string ⟨#[]⟩) 16 rfl Tryz.underlying44 Yog rfl Zca Zk u5 bA aX [.string aX] (fun _ => True) (fun _ => False) rfl rfl ?aP (fun _ hk => hk.elim) ?aF ?aO ?aB ?aS ?aL ?_; (case aP => exact rfl); (case aB => exact Za); (case aF => exact (fun _ _ => trivial)); (case aO => exact Zoa); (case aS => exact Kg); (case aL => have := aVm.out; omega); intro v127 w6 ho hb hg hat; rw [← aHU.out] at ho; replace HB := Ya.mk (hb); have aHV := Ya.mk (ho); clear HO_5; clear ho hb hg hat))
    go_ret
    exact ⟨_, Zl, by (with_reducible repeat (first | apply Kd.R_alloc | apply Kd.R_drewN | apply Kd.R_drew)); exact aHV.out, Za⟩
   rw [if_neg c4] at H
   have bX : decide (gO < 0) = false := Ks c4
   clear c4
   by_cases c7 : 0 ≤ gO
   rotate_left
   ·rw [if_neg c7] at H
    exact absurd H Zv
   rw [if_pos c7] at H
   have cW := Kt c7
   have iD : decide (0 ≤ gO) = true := Kr c7
   clear c7
   by_cases c8 : gO ≤ (aX.size : Int)
   rotate_left
   ·rw [if_neg c8] at H
    exact absurd H Zv
   rw [if_pos c8] at H
   have gS := Kt c8
   have jA : decide (gO ≤ (aX.size : Int)) = true := Kr c8
   clear c8
   by_cases c9 : bA.length < 8796093022208
   rotate_left
   ·rw [if_neg c9] at H
    exact absurd H Zv
   rw [if_pos c9] at H
   have vB := Ya.mk c9
   clear c9
   obtain ⟨aFz, tC⟩ : ∃ y_ : List Y, y_ = (bA ++ [aX.extract 0 (gO : Int).toNat]) := ⟨_, rfl⟩
   replace H : (if 0 ≤ (wrap64 (gO + 1)) then (if (wrap64 (gO + 1)) ≤ (aX.size : Int) then (Ylb.l0 k1 (aX.extract ((wrap64 (gO + 1)) : Int).toNat aX.size) a1 aFz) else (none)) else (none)) = some r := by first | (rw [tC]; with_reducible exact H) | (have dH := (Kfa _ _).symm.trans H; rw [tC]; with_reducible exact dH) | (have dH := (Kfa _ _).symm.trans H; with_reducible exact dH) | with_reducible exact H | (rw [tC]; exact H) | exact H
   have aHW := Ya.mk tC
   clear tC
   obtain ⟨ji10, jP⟩ : ∃ j_ : Int, (wrap64 (gO + 1)) = j_ := ⟨_, rfl⟩
   replace H : (if 0 ≤ (ji10) then (if (ji10) ≤ (aX.size : Int) then (Ylb.l0 k1 (aX.extract ((ji10) : Int).toNat aX.size) a1 aFz) else (none)) else (none)) = some r := by first | (rw [jP] at H; exact H) | (simp only [jP] at H ⊢; exact H)
   (try rw [jP] at A3)
   have hji10w : (IntKind.i64.wrap (gO + 1)) = ji10 := (Yaa _).trans jP
   by_cases c11 : 0 ≤ (ji10)
   rotate_left
   ·rw [if_neg c11] at H
    exact absurd H Zv
   rw [if_pos c11] at H
   have gT := Kt c11
   have pU : decide (0 ≤ (ji10)) = true := Kr c11
   clear c11
   by_cases dD : (ji10) ≤ (aX.size : Int)
   rotate_left
   ·rw [if_neg dD] at H
    exact absurd H Zv
   rw [if_pos dD] at H
   have dS := Kt dD
   have oG : decide ((ji10) ≤ (aX.size : Int)) = true := Kr dD
   clear dD
   have H' := Ya.mk H
   clear H
   go_wp2_with (first | ((with_reducible refine Yh (f := 79) rfl ?_); refine Yca (some 9) rfl rfl Tryz.func79 Zi rfl #[.string aX, .int .u8 a1] rfl Zb ?_; (with_reducible refine (strings_IndexByte.calls aX a1 gO _ ?z1 A3.out).mono ?_); (case z1 => exact Kh); rintro e w' ⟨rfl, ⟨nd, rfl⟩⟩; refine ⟨_, rfl, ?_⟩) | ((with_reducible refine Yje (b := .append) (xs := #[.tmp 16, .tmp 20]) rfl ?_); at_builtin; refine Kd.R_append Kd.string (w0 := w) w.heap.size rfl (.tmp 16) (.tmp 20) 44 9 (.string ⟨#[]⟩) 16 rfl Tryz.underlying44 Yog rfl Zca Zk u5 bA (aX.extract 0 (gO : Int).toNat) [.string (aX.extract 0 (gO : Int).toNat)] (fun _ => True) (fun _ => False) rfl rfl ?aP (fun _ hk => hk.elim) ?aF ?aO ?aB ?aS ?aL ?_; (case aP => exact rfl); (case aB => exact Za); (case aF => exact (fun _ _ => trivial)); (case aO => exact Zoa); (case aS => exact Kg); (case aL => have := vB.out; omega); intro aXX nH ho hb hg hat; rw [← aHW.out] at ho; replace HB := Ya.mk (hb); have aHX := Ya.mk (ho); clear HO_5; clear ho hb hg hat))
   go_roundg k1
   case measure => have := dB.out; omega
   case rel => exact ⟨(aX.extract ((ji10) : Int).toNat aX.size), (aFz), (by first | rfl | (simp; done) | (simp only [← jP] <;> (first | rfl | simp)) | (simp [*]; done)), H', ⟨Zba⟩, ⟨by (with_reducible repeat (first | apply Kd.R_alloc | apply Kd.R_drewN | apply Kd.R_drew)); exact aHX.out⟩, ⟨Za⟩⟩
def Yja.l0 : Nat → Y → Int → Int → Bool → Int → Int → Option (Int × Int)
 | 0, _, _, _, _, _, _ => none
 | k + 1, x0, x1, x6, x7, x15, qQ => if qQ < x15 then (if 0 ≤ qQ then (if qQ < (x0.size : Int) then ((Yua.f (bt x0 qQ)).bind fun aFA => (if aFA = true then (if x7 = true then (Yja.l0 k x0 x1 x6 true x15 (wrap64 (qQ + 1))) else (if x6 > (wrap64 (Int.tdiv (wrap64 (x1 - (((bt x0 qQ) - 48) % 256))) 10)) then (Yja.l0 k x0 x1 x6 true x15 (wrap64 (qQ + 1))) else (if x1 < (((bt x0 qQ) - 48) % 256) then (Yja.l0 k x0 x1 x6 true x15 (wrap64 (qQ + 1))) else (Yja.l0 k x0 x1 (wrap64 ((wrap64 (x6 * 10)) + (((bt x0 qQ) - 48) % 256))) x7 x15 (wrap64 (qQ + 1)))))) else (some (0, 3)))) else (none)) else (none)) else (if x7 = true then (some (0, 5)) else (some (x6, 0)))
def Yja.f (k : Nat) (a0 : Y) (a1 : Int) : Option (Int × Int) := if a0.toList = ([] : List UInt8) then (some (0, 3)) else (Yja.l0 k a0 a1 0 (decide (a1 < 0)) (a0.size : Int) 0)
theorem Yja.calls (k : Nat) (a0 : Y) (a1 r1 r2 : Int) (w : World) (hE : EnvOk w) (h : Yja.f k a0 a1 = some (r1, r2)) :
  Calls Tryz.prog 83 #[.string a0, .int .i64 a1] w fun e w' => e = .returned (.tuple #[.int .i64 r1, .int .i64 r2]) ∧ Drawn0 w w' := by
 have HE := Ya.mk hE
 clear hE
 have H : (if a0.toList = ([] : List UInt8) then (some (0, 3)) else (Yja.l0 k a0 a1 0 (decide (a1 < 0)) (a0.size : Int) 0)) = some (r1, r2) := h
 clear h
 by_cases c3 : a0.toList = ([] : List UInt8)
 ·rw [if_pos c3] at H
  have cC : (a0.toList == ([] : List UInt8)) = true := Kba c3
  have fX : (a0.toList != ([] : List UInt8)) = false := Ky c3
  clear c3
  simp only [Kda, Kea] at H
  obtain ⟨rfl, rfl⟩ := H
  go_enter Tryz.func83, Tryz.ntmps83
  go_wp2
  go_ret2
  exact ⟨Zf, Zh⟩
 rw [if_neg c3] at H
 have cC : (a0.toList == ([] : List UInt8)) = false := Kz c3
 have fX : (a0.toList != ([] : List UInt8)) = true := Kaa c3
 have H' := Ya.mk H
 clear H
 go_enter Tryz.func83, Tryz.ntmps83
 go_wp2
 go_loopg [6, 7, 16] k (fun kq v6 v7 v16 w' => ∃ (aC : Int) (cD : Bool) (bF : Int), v6 = .int .i64 aC ∧ v7 = .bool cD ∧ v16 = .int .i64 bF ∧ Ya (Yja.l0 kq a0 a1 aC cD (a0.size : Int) bF = some (r1, r2)) ∧ Ya (kq ≤ k) ∧ Drawn0 w w')
 case atStart => exact ⟨(0), (decide (a1 < 0)), (0), Zf, Zf, Zf, H', ⟨Kw _⟩, Zh⟩
 case round =>
  clear H'
  try clear p2
  try clear c3
  try clear cC
  try clear fX
  obtain ⟨aC, cD, bF, rfl, rfl, rfl, HA, dB, ⟨m1, rfl⟩⟩ := hrel
  cases gk with
  | zero => exact absurd HA.out (by simp [Yja.l0])
  | succ k1 =>
   have H := HA.out
   clear HA
   simp only [Yja.l0] at H
   by_cases c4 : bF < (a0.size : Int)
   rotate_left
   ·rw [if_neg c4] at H
    have bX : decide (bF < (a0.size : Int)) = false := Ks c4
    clear c4
    by_cases gQ : cD = true
    ·subst gQ
     rw [if_pos rfl] at H
     simp only [Kda, Kea] at H
     obtain ⟨rfl, rfl⟩ := H
     go_wp2
     go_ret2
     exact ⟨Zf, Zh⟩
    replace gQ := Kx gQ
    subst gQ
    rw [if_neg (show ¬ (false = true) by decide)] at H
    simp only [Kda, Kea] at H
    obtain ⟨rfl, rfl⟩ := H
    go_wp2
    go_ret2
    exact ⟨Zf, Zh⟩
   rw [if_pos c4] at H
   have bX : decide (bF < (a0.size : Int)) = true := Kr c4
   clear c4
   by_cases c5 : 0 ≤ bF
   rotate_left
   ·rw [if_neg c5] at H
    exact absurd H Zv
   rw [if_pos c5] at H
   have dI : decide (0 ≤ bF) = true := Kr c5
   clear c5
   by_cases c6 : bF < (a0.size : Int)
   rotate_left
   ·rw [if_neg c6] at H
    exact absurd H Zv
   rw [if_pos c6] at H
   have dN : decide (bF < (a0.size : Int)) = true := Kr c6
   clear c6
   obtain ⟨aFA, wF, H⟩ := Ku H
   try dsimp -simprocs only at H
   have A8 := Ya.mk wF
   clear wF
   by_cases c9 : aFA = true
   rotate_left
   ·replace c9 := Kx c9
    subst c9
    rw [if_neg (show ¬ (false = true) by decide)] at H
    simp only [Kda, Kea] at H
    obtain ⟨rfl, rfl⟩ := H
    have p7 : (0 ≤ (bF : Int)) = True := Kp
    have q7 : bF < (a0.size : Int) := Kq Zc
    have hx7 := Ybb a0 bF
    replace q7 := Kt q7
    go_wp2_with (first | ((with_reducible refine Yh (f := 78) rfl ?_); refine Yca (some 22) rfl rfl Tryz.func78 Zi rfl #[.int .u8 (bt a0 bF)] rfl Zb ?_; (with_reducible refine (Yua.calls (bt a0 bF) false _ ?z1 A8.out).mono ?_); (case z1 => exact Kj); rintro e w' ⟨rfl, ⟨nd, rfl⟩⟩; refine ⟨_, rfl, ?_⟩))
    go_ret2
    exact ⟨Zf, Zh⟩
   subst c9
   rw [if_pos rfl] at H
   by_cases c11 : cD = true
   ·subst c11
    rw [if_pos rfl] at H
    have H' := Ya.mk H
    clear H
    have p7 : (0 ≤ (bF : Int)) = True := Kp
    have q7 : bF < (a0.size : Int) := Kq Zc
    have hx7 := Ybb a0 bF
    replace q7 := Kt q7
    go_wp2_with (first | ((with_reducible refine Yh (f := 78) rfl ?_); refine Yca (some 22) rfl rfl Tryz.func78 Zi rfl #[.int .u8 (bt a0 bF)] rfl Zb ?_; (with_reducible refine (Yua.calls (bt a0 bF) true _ ?z1 A8.out).mono ?_); (case z1 => exact Kj); rintro e w' ⟨rfl, ⟨nd, rfl⟩⟩; refine ⟨_, rfl, ?_⟩; have wC : (0 ≤ (bF : Int)) = True := Kp; have wD : bF < (a0.size : Int) := Kq Zc; have aDp := Ybb a0 bF; replace wD := Kt wD))
    go_roundg k1
    case measure => have := dB.out; omega
    case rel => exact ⟨(aC), (true), (wrap64 (bF + 1)), Zf, Zf, Zf, H', ⟨Zba⟩, Zh⟩
   replace c11 := Kx c11
   subst c11
   rw [if_neg (show ¬ (false = true) by decide)] at H
   by_cases dD : aC > (wrap64 (Int.tdiv (wrap64 (a1 - (((bt a0 bF) - 48) % 256))) 10))
   ·rw [if_pos dD] at H
    have dS : decide ((wrap64 (Int.tdiv (wrap64 (a1 - (((bt a0 bF) - 48) % 256))) 10)) < aC) = true := Kr dD
    clear dD
    have H' := Ya.mk H
    clear H
    have p7 : (0 ≤ (bF : Int)) = True := Kp
    have q7 : bF < (a0.size : Int) := Kq Zc
    have hx7 := Ybb a0 bF
    replace q7 := Kt q7
    go_wp2_with (first | ((with_reducible refine Yh (f := 78) rfl ?_); refine Yca (some 22) rfl rfl Tryz.func78 Zi rfl #[.int .u8 (bt a0 bF)] rfl Zb ?_; (with_reducible refine (Yua.calls (bt a0 bF) true _ ?z1 A8.out).mono ?_); (case z1 => exact Kj); rintro e w' ⟨rfl, ⟨nd, rfl⟩⟩; refine ⟨_, rfl, ?_⟩; have wC : (0 ≤ (bF : Int)) = True := Kp; have wD : bF < (a0.size : Int) := Kq Zc; have aDp := Ybb a0 bF; replace wD := Kt wD))
    go_roundg k1
    case measure => have := dB.out; omega
    case rel => exact ⟨(aC), (true), (wrap64 (bF + 1)), Zf, Zf, Zf, H', ⟨Zba⟩, Zh⟩
   rw [if_neg dD] at H
   have dS : decide ((wrap64 (Int.tdiv (wrap64 (a1 - (((bt a0 bF) - 48) % 256))) 10)) < aC) = false := Ks dD
   clear dD
   by_cases eM : a1 < (((bt a0 bF) - 48) % 256)
   ·rw [if_pos eM] at H
    have hG : decide (a1 < (((bt a0 bF) - 48) % 256)) = true := Kr eM
    clear eM
    have H' := Ya.mk H
    clear H
    have p7 : (0 ≤ (bF : Int)) = True := Kp
    have q7 : bF < (a0.size : Int) := Kq Zc
    have hx7 := Ybb a0 bF
    replace q7 := Kt q7
    go_wp2_with (first | ((with_reducible refine Yh (f := 78) rfl ?_); refine Yca (some 22) rfl rfl Tryz.func78 Zi rfl #[.int .u8 (bt a0 bF)] rfl Zb ?_; (with_reducible refine (Yua.calls (bt a0 bF) true _ ?z1 A8.out).mono ?_); (case z1 => exact Kj); rintro e w' ⟨rfl, ⟨nd, rfl⟩⟩; refine ⟨_, rfl, ?_⟩; have wC : (0 ≤ (bF : Int)) = True := Kp; have wD : bF < (a0.size : Int) := Kq Zc; have aDp := Ybb a0 bF; replace wD := Kt wD))
    go_roundg k1
    case measure => have := dB.out; omega
    case rel => exact ⟨(aC), (true), (wrap64 (bF + 1)), Zf, Zf, Zf, H', ⟨Zba⟩, Zh⟩
   rw [if_neg eM] at H
   have hG : decide (a1 < (((bt a0 bF) - 48) % 256)) = false := Ks eM
   clear eM
   have H' := Ya.mk H
   clear H
   have p7 : (0 ≤ (bF : Int)) = True := Kp
   have q7 : bF < (a0.size : Int) := Kq Zc
   have hx7 := Ybb a0 bF
   replace q7 := Kt q7
   go_wp2_with (first | ((with_reducible refine Yh (f := 78) rfl ?_); refine Yca (some 22) rfl rfl Tryz.func78 Zi rfl #[.int .u8 (bt a0 bF)] rfl Zb ?_; (with_reducible refine (Yua.calls (bt a0 bF) true _ ?z1 A8.out).mono ?_); (case z1 => exact Kj); rintro e w' ⟨rfl, ⟨nd, rfl⟩⟩; refine ⟨_, rfl, ?_⟩; have wC : (0 ≤ (bF : Int)) = True := Kp; have wD : bF < (a0.size : Int) := Kq Zc; have aDp := Ybb a0 bF; replace wD := Kt wD))
   go_roundg k1
   case measure => have := dB.out; omega
   case rel => exact ⟨(wrap64 ((wrap64 (aC * 10)) + (((bt a0 bF) - 48) % 256))), (false), (wrap64 (bF + 1)), Zf, Zf, Zf, H', ⟨Zba⟩, Zh⟩
def Yqb.l0 : Nat → Y → Int → Int → Option (Bool)
 | 0, _, _, _ => none
 | k + 1, x0, x6, x7 => if x7 < x6 then (if 0 ≤ x7 then (if x7 < (x0.size : Int) then ((Ywa.f (bt x0 x7)).bind fun aFB => (if aFB = true then (Yqb.l0 k x0 x6 (wrap64 (x7 + 1))) else ((Yua.f (bt x0 x7)).bind fun aFC => (if aFC = true then (Yqb.l0 k x0 x6 (wrap64 (x7 + 1))) else (if (bt x0 x7) = 45 then (Yqb.l0 k x0 x6 (wrap64 (x7 + 1))) else (if (bt x0 x7) = 95 then (Yqb.l0 k x0 x6 (wrap64 (x7 + 1))) else (some false))))))) else (none)) else (none)) else (if x0.toList = ([] : List UInt8) then (some false) else (some (decide ((x0.size : Int) ≤ 63))))
def Yqb.f (k : Nat) (a0 : Y) : Option (Bool) := Yqb.l0 k a0 (a0.size : Int) 0
theorem Yqb.calls (k : Nat) (a0 : Y) (r : Bool) (w : World) (hE : EnvOk w) (h : Yqb.f k a0 = some r) :
  Calls Tryz.prog 95 #[.string a0] w fun e w' => e = .returned (.bool r) ∧ Drawn0 w w' := by
 have HE := Ya.mk hE
 clear hE
 have H : (Yqb.l0 k a0 (a0.size : Int) 0) = some r := h
 clear h
 have H' := Ya.mk H
 clear H
 go_enter Tryz.func95, Tryz.ntmps95
 go_wp2
 go_loopg [7] k (fun kq v7 w' => ∃ (cD : Int), v7 = .int .i64 cD ∧ Ya (Yqb.l0 kq a0 (a0.size : Int) cD = some r) ∧ Ya (kq ≤ k) ∧ Drawn0 w w')
 case atStart => exact ⟨(0), Zf, H', ⟨Kw _⟩, Zh⟩
 case round =>
  clear H'
  obtain ⟨cD, rfl, HA, dB, ⟨m1, rfl⟩⟩ := hrel
  cases gk with
  | zero => exact absurd HA.out (by simp [Yqb.l0])
  | succ k1 =>
   have H := HA.out
   clear HA
   simp only [Yqb.l0] at H
   by_cases c2 : cD < (a0.size : Int)
   rotate_left
   ·rw [if_neg c2] at H
    have eS : decide (cD < (a0.size : Int)) = false := Ks c2
    clear c2
    by_cases dD : a0.toList = ([] : List UInt8)
    rotate_left
    ·rw [if_neg dD] at H
     have dS : (a0.toList == ([] : List UInt8)) = false := Kz dD
     have oG : (a0.toList != ([] : List UInt8)) = true := Kaa dD
     obtain rfl := Kv H
     go_wp2
     go_ret
     exact ⟨Zf, Zh⟩
    rw [if_pos dD] at H
    have dS : (a0.toList == ([] : List UInt8)) = true := Kba dD
    have oG : (a0.toList != ([] : List UInt8)) = false := Ky dD
    clear dD
    obtain rfl := Kv H
    go_wp2
    go_ret
    exact ⟨Zf, Zh⟩
   rw [if_pos c2] at H
   have eS : decide (cD < (a0.size : Int)) = true := Kr c2
   clear c2
   by_cases c3 : 0 ≤ cD
   rotate_left
   ·rw [if_neg c3] at H
    exact absurd H Zv
   rw [if_pos c3] at H
   have cC : decide (0 ≤ cD) = true := Kr c3
   clear c3
   by_cases c4 : cD < (a0.size : Int)
   rotate_left
   ·rw [if_neg c4] at H
    exact absurd H Zv
   rw [if_pos c4] at H
   have bX : decide (cD < (a0.size : Int)) = true := Kr c4
   clear c4
   obtain ⟨aFB, pQ, H⟩ := Ku H
   try dsimp -simprocs only at H
   have A6 := Ya.mk pQ
   clear pQ
   by_cases c7 : aFB = true
   ·subst c7
    rw [if_pos rfl] at H
    have H' := Ya.mk H
    clear H
    have p5 : (0 ≤ (cD : Int)) = True := Kp
    have q5 : cD < (a0.size : Int) := Kq Zc
    have dV := Ybb a0 cD
    replace q5 := Kt q5
    go_wp2_with (first | ((with_reducible refine Yh (f := 77) rfl ?_); refine Yca (some 14) rfl rfl Tryz.func77 Zi rfl #[.int .u8 (bt a0 cD)] rfl Zb ?_; (with_reducible refine (Ywa.calls (bt a0 cD) true _ ?z1 A6.out).mono ?_); (case z1 => exact Kj); rintro e w' ⟨rfl, ⟨nd, rfl⟩⟩; refine ⟨_, rfl, ?_⟩))
    go_roundg k1
    case measure => have := dB.out; omega
    case rel => exact ⟨(wrap64 (cD + 1)), Zf, H', ⟨Zba⟩, Zh⟩
   replace c7 := Kx c7
   subst c7
   rw [if_neg (show ¬ (false = true) by decide)] at H
   obtain ⟨aFC, wF, H⟩ := Ku H
   try dsimp -simprocs only at H
   have A8 := Ya.mk wF
   clear wF
   by_cases c9 : aFC = true
   ·subst c9
    rw [if_pos rfl] at H
    have H' := Ya.mk H
    clear H
    have p5 : (0 ≤ (cD : Int)) = True := Kp
    have q5 : cD < (a0.size : Int) := Kq Zc
    have dV := Ybb a0 cD
    replace q5 := Kt q5
    go_wp2_with (first | ((with_reducible refine Yh (f := 77) rfl ?_); refine Yca (some 14) rfl rfl Tryz.func77 Zi rfl #[.int .u8 (bt a0 cD)] rfl Zb ?_; (with_reducible refine (Ywa.calls (bt a0 cD) false _ ?z1 A6.out).mono ?_); (case z1 => exact Kj); rintro e w' ⟨rfl, ⟨nd, rfl⟩⟩; refine ⟨_, rfl, ?_⟩) | (go_at_call 78; (with_reducible refine (Yua.calls (bt a0 cD) true _ ?z1 A8.out).mono ?_); (case z1 => exact Kj); rintro e w' ⟨rfl, ⟨nd, rfl⟩⟩))
    go_roundg k1
    case measure => have := dB.out; omega
    case rel => exact ⟨(wrap64 (cD + 1)), Zf, H', ⟨Zba⟩, Zh⟩
   replace c9 := Kx c9
   subst c9
   rw [if_neg (show ¬ (false = true) by decide)] at H
   by_cases dP : (bt a0 cD) = 45
   ·rw [if_pos dP] at H
    have hD : ((bt a0 cD) == 45) = true := Kba dP
    have aAV : ((bt a0 cD) != 45) = false := Ky dP
    clear dP
    have H' := Ya.mk H
    clear H
    have p5 : (0 ≤ (cD : Int)) = True := Kp
    have q5 : cD < (a0.size : Int) := Kq Zc
    have dV := Ybb a0 cD
    replace q5 := Kt q5
    go_wp2_with (first | ((with_reducible refine Yh (f := 77) rfl ?_); refine Yca (some 14) rfl rfl Tryz.func77 Zi rfl #[.int .u8 (bt a0 cD)] rfl Zb ?_; (with_reducible refine (Ywa.calls (bt a0 cD) false _ ?z1 A6.out).mono ?_); (case z1 => exact Kj); rintro e w' ⟨rfl, ⟨nd, rfl⟩⟩; refine ⟨_, rfl, ?_⟩) | (go_at_call 78; (with_reducible refine (Yua.calls (bt a0 cD) false _ ?z1 A8.out).mono ?_); (case z1 => exact Kj); rintro e w' ⟨rfl, ⟨nd, rfl⟩⟩))
    go_roundg k1
    case measure => have := dB.out; omega
    case rel => exact ⟨(wrap64 (cD + 1)), Zf, H', ⟨Zba⟩, Zh⟩
   rw [if_neg dP] at H
   have hD : ((bt a0 cD) == 45) = false := Kz dP
   have aAV : ((bt a0 cD) != 45) = true := Kaa dP
   by_cases c11 : (bt a0 cD) = 95
   rotate_left
   ·rw [if_neg c11] at H
    have gT : ((bt a0 cD) == 95) = false := Kz c11
    have pU : ((bt a0 cD) != 95) = true := Kaa c11
    obtain rfl := Kv H
    have p5 : (0 ≤ (cD : Int)) = True := Kp
    have q5 : cD < (a0.size : Int) := Kq Zc
    have dV := Ybb a0 cD
    replace q5 := Kt q5
    go_wp2_with (first | ((with_reducible refine Yh (f := 77) rfl ?_); refine Yca (some 14) rfl rfl Tryz.func77 Zi rfl #[.int .u8 (bt a0 cD)] rfl Zb ?_; (with_reducible refine (Ywa.calls (bt a0 cD) false _ ?z1 A6.out).mono ?_); (case z1 => exact Kj); rintro e w' ⟨rfl, ⟨nd, rfl⟩⟩; refine ⟨_, rfl, ?_⟩) | (go_at_call 78; (with_reducible refine (Yua.calls (bt a0 cD) false _ ?z1 A8.out).mono ?_); (case z1 => exact Kj); rintro e w' ⟨rfl, ⟨nd, rfl⟩⟩))
    go_ret
    exact ⟨Zf, Zh⟩
   rw [if_pos c11] at H
   have gT : ((bt a0 cD) == 95) = true := Kba c11
   have pU : ((bt a0 cD) != 95) = false := Ky c11
   clear c11
   have H' := Ya.mk H
   clear H
   have p5 : (0 ≤ (cD : Int)) = True := Kp
   have q5 : cD < (a0.size : Int) := Kq Zc
   have dV := Ybb a0 cD
   replace q5 := Kt q5
   go_wp2_with (first | ((with_reducible refine Yh (f := 77) rfl ?_); refine Yca (some 14) rfl rfl Tryz.func77 Zi rfl #[.int .u8 (bt a0 cD)] rfl Zb ?_; (with_reducible refine (Ywa.calls (bt a0 cD) false _ ?z1 A6.out).mono ?_); (case z1 => exact Kj); rintro e w' ⟨rfl, ⟨nd, rfl⟩⟩; refine ⟨_, rfl, ?_⟩) | (go_at_call 78; (with_reducible refine (Yua.calls (bt a0 cD) false _ ?z1 A8.out).mono ?_); (case z1 => exact Kj); rintro e w' ⟨rfl, ⟨nd, rfl⟩⟩))
   go_roundg k1
   case measure => have := dB.out; omega
   case rel => exact ⟨(wrap64 (cD + 1)), Zf, H', ⟨Zba⟩, Zh⟩
def Ybf.f (k : Nat) (a0 : Y) : Option (Bool) := (Yja.f k a0 255).bind fun tD => (if tD.2 = 0 then ((Yqe.f k tD.1).bind fun aAW => (some (aAW.toList == a0.toList))) else (some false))
theorem Ybf.calls (k : Nat) (a0 : Y) (r : Bool) (w : World) (hE : EnvOk w) (h : Ybf.f k a0 = some r) :
  Calls Tryz.prog 96 #[.string a0] w fun e w' => e = .returned (.bool r) ∧ Below w.heap.size w w' := by
 have HE := Ya.mk hE
 clear hE
 have HB := Ya.mk (Below.refl w.heap.size w)
 have H : ((Yja.f k a0 255).bind fun tD => (if tD.2 = 0 then ((Yqe.f k tD.1).bind fun aAW => (some (aAW.toList == a0.toList))) else (some false))) = some r := h
 clear h
 obtain ⟨⟨aFD, vC⟩, dW, H⟩ := Ku H
 try dsimp -simprocs only at H
 have A2 := Ya.mk dW
 clear dW
 by_cases c3 : vC = 0
 rotate_left
 ·rw [if_neg c3] at H
  have cC : (vC == 0) = false := Kz c3
  have fX : (vC != 0) = true := Kaa c3
  obtain rfl := Kv H
  go_enter Tryz.func96, Tryz.ntmps96
  go_wp2_with (first | ((with_reducible refine Yh (f := 83) rfl ?_); refine Yca (some 7) rfl rfl Tryz.func83 Zi rfl #[.string a0, .int .i64 255] rfl Zb ?_; (with_reducible refine (Yja.calls k a0 255 aFD vC _ ?z1 A2.out).mono ?_); (case z1 => exact Kh); rintro e w' ⟨rfl, ⟨nd, rfl⟩⟩; refine ⟨_, rfl, ?_⟩))
  go_ret
  exact ⟨Zl, Za⟩
 rw [if_pos c3] at H
 have cC : (vC == 0) = true := Kba c3
 have fX : (vC != 0) = false := Ky c3
 clear c3
 obtain ⟨aAW, sY, H⟩ := Ku H
 try dsimp -simprocs only at H
 have A4 := Ya.mk sY
 clear sY
 obtain rfl := Kv H
 go_enter Tryz.func96, Tryz.ntmps96
 go_wp2_with (first | ((with_reducible refine Yh (f := 83) rfl ?_); refine Yca (some 7) rfl rfl Tryz.func83 Zi rfl #[.string a0, .int .i64 255] rfl Zb ?_; (with_reducible refine (Yja.calls k a0 255 aFD vC _ ?z1 A2.out).mono ?_); (case z1 => exact Kh); rintro e w' ⟨rfl, ⟨nd, rfl⟩⟩; refine ⟨_, rfl, ?_⟩) | (go_at_call 68; (with_reducible refine (Yqe.calls k aFD aAW _ ?z1 A4.out).mono ?_); (case z1 => exact Kh); rintro e w5 ⟨rfl, hb⟩; replace HB := Ya.mk (Yt Za hb); (try clear hb)))
 go_ret
 exact ⟨Zl, Za⟩
def Yob.l0 : Nat → Y → List Y → Bool → List Y → Int → Int → Option (Bool)
 | 0, _, _, _, _, _, _ => none
 | k + 1, x0, x3, x4, x14, x15, qQ => if qQ < x15 then (if 0 ≤ qQ then (if qQ < (x14.length : Int) then ((Yqb.f k (rdOf ByteArray.empty x14 qQ)).bind fun aFE => (if aFE = true then (if x4 = true then ((Ybf.f k (rdOf ByteArray.empty x14 qQ)).bind fun t146 => (Yob.l0 k x0 x3 t146 x14 x15 (wrap64 (qQ + 1)))) else (Yob.l0 k x0 x3 false x14 x15 (wrap64 (qQ + 1)))) else (some false))) else (none)) else (none)) else (if 0 ≤ (wrap64 ((x3.length : Int) - 1)) then (if (wrap64 ((x3.length : Int) - 1)) < (x3.length : Int) then ((Yja.f k (rdOf ByteArray.empty x3 (wrap64 ((x3.length : Int) - 1))) 0).bind fun aAX => (if (x0.size : Int) ≤ 253 then (if aAX.2 = 3 then (some true) else (some x4)) else (some false))) else (none)) else (none))
def Yob.f (k : Nat) (a0 : Y) : Option (Bool) := (Ylb.f k a0 46).bind fun t138 => (Yob.l0 k a0 t138 ((t138.length : Int) == 4) t138 (t138.length : Int) 0)
theorem Yob.calls (k : Nat) (a0 : Y) (r : Bool) (w : World) (hE : EnvOk w) (h : Yob.f k a0 = some r) :
  Calls Tryz.prog 54 #[.string a0] w fun e w' => e = .returned (.bool r) ∧ Below w.heap.size w w' := by
 have HE := Ya.mk hE
 clear hE
 have HB := Ya.mk (Below.refl w.heap.size w)
 have H : ((Ylb.f k a0 46).bind fun t138 => (Yob.l0 k a0 t138 ((t138.length : Int) == 4) t138 (t138.length : Int) 0)) = some r := h
 clear h
 obtain ⟨t138, dW, H⟩ := Ku H
 try dsimp -simprocs only at H
 have A2 := Ya.mk dW
 clear dW
 have H' := Ya.mk H
 clear H
 go_enter Tryz.func54, Tryz.ntmps54
 go_wp2_with (first | ((with_reducible refine Yh (f := 60) rfl ?_); refine Yca (some 10) rfl rfl Tryz.func60 Zi rfl #[.string a0, .int .u8 46] rfl Zb ?_; (with_reducible refine (Ylb.calls k a0 46 t138 _ ?z1 A2.out).mono ?_); (case z1 => exact Kh); rintro e w3 ⟨v139, rfl, qJ, hb⟩; refine ⟨_, rfl, ?_⟩; have aAY := Ya.mk (Kd.R_lower qJ (Yka Za)); replace HB := Ya.mk (Yt Za hb); (try clear hb); (try clear qJ); obtain ⟨Ao4, co4, eo4⟩ := Kd.R_slice aAY.out; subst eo4))
 go_loopg [4, 16] k (fun kq v4 v16 w' => ∃ (aA : Bool) (bF : Int), v4 = .bool aA ∧ v16 = .int .i64 bF ∧ Ya (Yob.l0 kq a0 t138 aA t138 (t138.length : Int) bF = some r) ∧ Ya (kq ≤ k) ∧ Ya (Kd.R Kd.string 9 w' w.heap.size (fun _ => True) (.slice Ao4 t138.length co4) t138) ∧ Ya (Kd.R Kd.string 9 w' w.heap.size (fun _ => True) (.slice Ao4 t138.length co4) t138) ∧ Ya (Below w.heap.size w w'))
 case atStart => exact ⟨(((t138.length : Int) == 4)), (0), Zf, Zf, H', ⟨Kw _⟩, ⟨by (with_reducible repeat (first | apply Kd.R_alloc | apply Kd.R_drewN | apply Kd.R_drew)); exact aAY.out⟩, ⟨by (with_reducible repeat (first | apply Kd.R_alloc | apply Kd.R_drewN | apply Kd.R_drew)); exact aAY.out⟩, ⟨Za⟩⟩
 case round =>
  clear H'
  try clear p2
  obtain ⟨aA, bF, rfl, rfl, HA, dB, HO_3, HO_14, HB⟩ := hrel
  cases gk with
  | zero => exact absurd HA.out (by simp [Yob.l0])
  | succ k1 =>
   have H := HA.out
   clear HA
   simp only [Yob.l0] at H
   by_cases c5 : bF < (t138.length : Int)
   rotate_left
   ·rw [if_neg c5] at H
    have dI : decide (bF < (t138.length : Int)) = false := Ks c5
    clear c5
    obtain ⟨ji13, sO⟩ : ∃ j_ : Int, (wrap64 ((t138.length : Int) - 1)) = j_ := ⟨_, rfl⟩
    replace H : (if 0 ≤ (ji13) then (if (ji13) < (t138.length : Int) then ((Yja.f k1 (rdOf ByteArray.empty t138 (ji13)) 0).bind fun aAX => (if (a0.size : Int) ≤ 253 then (if aAX.2 = 3 then (some true) else (some aA)) else (some false))) else (none)) else (none)) = some r := by first | (rw [sO] at H; exact H) | (simp only [sO] at H ⊢; exact H)
    have hji13w : (IntKind.i64.wrap ((t138.length : Int) - 1)) = ji13 := (Yaa _).trans sO
    by_cases gQ : 0 ≤ (ji13)
    rotate_left
    ·rw [if_neg gQ] at H
     exact absurd H Zv
    rw [if_pos gQ] at H
    have iE : decide (0 ≤ (ji13)) = true := Kr gQ
    clear gQ
    by_cases dG : (ji13) < (t138.length : Int)
    rotate_left
    ·rw [if_neg dG] at H
     exact absurd H Zv
    rw [if_pos dG] at H
    have eT : decide ((ji13) < (t138.length : Int)) = true := Kr dG
    clear dG
    obtain ⟨⟨aFF, tE⟩, sW, H⟩ := Ku H
    try dsimp -simprocs only at H
    have A16 := Ya.mk sW
    clear sW
    by_cases eG : (a0.size : Int) ≤ 253
    rotate_left
    ·rw [if_neg eG] at H
     have jO : decide ((a0.size : Int) ≤ 253) = false := Ks eG
     have lN : decide (a0.size ≤ 253) = false := Ks Zk
     clear eG
     obtain rfl := Kv H
     have oH : 0 ≤ ((ji13) : Int) := Kq Zc
     have oI : (ji13) < (t138.length : Int) := Kq Zc
     obtain ⟨aEM, aAZ, wG⟩ := Kd.at_string (Kd.R_reads' HO_3.out).2.2 (ji13) oH oI
     cases aAZ
     replace oH := Kt oH
     replace oI := Kt oI
     go_wp2_with (first | ((with_reducible refine Yh (f := 83) rfl ?_); refine Yca (some 36) rfl rfl Tryz.func83 Zi rfl #[.string (rdOf ByteArray.empty t138 (ji13)), .int .i64 0] rfl Zka ?_; (with_reducible refine (Yja.calls k1 (rdOf ByteArray.empty t138 (ji13)) 0 aFF tE _ ?z1 A16.out).mono ?_); (case z1 => exact Kh); rintro e w' ⟨rfl, ⟨nd, rfl⟩⟩; refine ⟨_, rfl, ?_⟩))
     go_ret
     exact ⟨Zra, Za⟩
    rw [if_pos eG] at H
    have jO : decide ((a0.size : Int) ≤ 253) = true := Kr eG
    have lN : decide (a0.size ≤ 253) = true := Kr Zk
    clear eG
    by_cases eP : tE = 3
    rotate_left
    ·rw [if_neg eP] at H
     have oB : (tE == 3) = false := Kz eP
     have pS : (tE != 3) = true := Kaa eP
     obtain rfl := Kv H
     have oH : 0 ≤ ((ji13) : Int) := Kq Zc
     have oI : (ji13) < (t138.length : Int) := Kq Zc
     obtain ⟨aEM, aAZ, wG⟩ := Kd.at_string (Kd.R_reads' HO_3.out).2.2 (ji13) oH oI
     cases aAZ
     replace oH := Kt oH
     replace oI := Kt oI
     go_wp2_with (first | ((with_reducible refine Yh (f := 83) rfl ?_); refine Yca (some 36) rfl rfl Tryz.func83 Zi rfl #[.string (rdOf ByteArray.empty t138 (ji13)), .int .i64 0] rfl Zka ?_; (with_reducible refine (Yja.calls k1 (rdOf ByteArray.empty t138 (ji13)) 0 aFF tE _ ?z1 A16.out).mono ?_); (case z1 => exact Kh); rintro e w' ⟨rfl, ⟨nd, rfl⟩⟩; refine ⟨_, rfl, ?_⟩))
     go_ret
     exact ⟨Zra, Za⟩
    rw [if_pos eP] at H
    have oB : (tE == 3) = true := Kba eP
    have pS : (tE != 3) = false := Ky eP
    clear eP
    obtain rfl := Kv H
    have oH : 0 ≤ ((ji13) : Int) := Kq Zc
    have oI : (ji13) < (t138.length : Int) := Kq Zc
    obtain ⟨aEM, aAZ, wG⟩ := Kd.at_string (Kd.R_reads' HO_3.out).2.2 (ji13) oH oI
    cases aAZ
    replace oH := Kt oH
    replace oI := Kt oI
    go_wp2_with (first | ((with_reducible refine Yh (f := 83) rfl ?_); refine Yca (some 36) rfl rfl Tryz.func83 Zi rfl #[.string (rdOf ByteArray.empty t138 (ji13)), .int .i64 0] rfl Zka ?_; (with_reducible refine (Yja.calls k1 (rdOf ByteArray.empty t138 (ji13)) 0 aFF tE _ ?z1 A16.out).mono ?_); (case z1 => exact Kh); rintro e w' ⟨rfl, ⟨nd, rfl⟩⟩; refine ⟨_, rfl, ?_⟩))
    go_ret
    exact ⟨Zra, Za⟩
   rw [if_pos c5] at H
   have dI : decide (bF < (t138.length : Int)) = true := Kr c5
   clear c5
   by_cases c6 : 0 ≤ bF
   rotate_left
   ·rw [if_neg c6] at H
    exact absurd H Zv
   rw [if_pos c6] at H
   have dN : decide (0 ≤ bF) = true := Kr c6
   clear c6
   by_cases c7 : bF < (t138.length : Int)
   rotate_left
   ·rw [if_neg c7] at H
    exact absurd H Zv
   rw [if_pos c7] at H
   have cW : decide (bF < (t138.length : Int)) = true := Kr c7
   clear c7
   obtain ⟨aFE, wF, H⟩ := Ku H
   try dsimp -simprocs only at H
   have A8 := Ya.mk wF
   clear wF
   by_cases c9 : aFE = true
   rotate_left
   ·replace c9 := Kx c9
    subst c9
    rw [if_neg (show ¬ (false = true) by decide)] at H
    obtain rfl := Kv H
    have oJ : 0 ≤ (bF : Int) := Kq Zc
    have oK : bF < (t138.length : Int) := Kq Zc
    obtain ⟨aEN, aBa, wH⟩ := Kd.at_string (Kd.R_reads' HO_14.out).2.2 bF oJ oK
    cases aBa
    replace oJ := Kt oJ
    replace oK := Kt oK
    go_wp2_with (first | ((with_reducible refine Yh (f := 95) rfl ?_); refine Yca (some 21) rfl rfl Tryz.func95 Zi rfl #[.string (rdOf ByteArray.empty t138 bF)] rfl Zb ?_; (with_reducible refine (Yqb.calls k1 (rdOf ByteArray.empty t138 bF) false _ ?z1 A8.out).mono ?_); (case z1 => exact Kh); rintro e w' ⟨rfl, ⟨nd, rfl⟩⟩; refine ⟨_, rfl, ?_⟩))
    go_ret
    exact ⟨Zl, Za⟩
   subst c9
   rw [if_pos rfl] at H
   by_cases dP : aA = true
   rotate_left
   ·replace dP := Kx dP
    subst dP
    rw [if_neg (show ¬ (false = true) by decide)] at H
    have H' := Ya.mk H
    clear H
    have oJ : 0 ≤ (bF : Int) := Kq Zc
    have oK : bF < (t138.length : Int) := Kq Zc
    obtain ⟨aEN, aBa, wH⟩ := Kd.at_string (Kd.R_reads' HO_14.out).2.2 bF oJ oK
    cases aBa
    replace oJ := Kt oJ
    replace oK := Kt oK
    go_wp2_with (first | ((with_reducible refine Yh (f := 95) rfl ?_); refine Yca (some 21) rfl rfl Tryz.func95 Zi rfl #[.string (rdOf ByteArray.empty t138 bF)] rfl Zb ?_; (with_reducible refine (Yqb.calls k1 (rdOf ByteArray.empty t138 bF) true _ ?z1 A8.out).mono ?_); (case z1 => exact Kh); rintro e w' ⟨rfl, ⟨nd, rfl⟩⟩; refine ⟨_, rfl, ?_⟩))
    go_roundg k1
    case measure => have := dB.out; omega
    case rel => exact ⟨(false), (wrap64 (bF + 1)), Zf, Zf, H', ⟨Zba⟩, ⟨Zm⟩, ⟨Zwa⟩, ⟨Za⟩⟩
   subst dP
   rw [if_pos rfl] at H
   obtain ⟨t146, aHZ, H⟩ := Ku H
   try dsimp -simprocs only at H
   have A11 := Ya.mk aHZ
   clear aHZ
   have H' := Ya.mk H
   clear H
   have oJ : 0 ≤ (bF : Int) := Kq Zc
   have oK : bF < (t138.length : Int) := Kq Zc
   obtain ⟨aEN, aBa, wH⟩ := Kd.at_string (Kd.R_reads' HO_14.out).2.2 bF oJ oK
   cases aBa
   replace oJ := Kt oJ
   replace oK := Kt oK
   go_wp2_with (first | ((with_reducible refine Yh (f := 95) rfl ?_); refine Yca (some 21) rfl rfl Tryz.func95 Zi rfl #[.string (rdOf ByteArray.empty t138 bF)] rfl Zb ?_; (with_reducible refine (Yqb.calls k1 (rdOf ByteArray.empty t138 bF) true _ ?z1 A8.out).mono ?_); (case z1 => exact Kh); rintro e w' ⟨rfl, ⟨nd, rfl⟩⟩; refine ⟨_, rfl, ?_⟩) | (go_at_call 96; (with_reducible refine (Ybf.calls k1 (rdOf ByteArray.empty t138 bF) t146 _ ?z1 A11.out).mono ?_); (case z1 => exact Kh); rintro e uS ⟨rfl, hb⟩; replace HO_3 := Ya.mk (Kd.R_below Zm hb); replace HO_14 := Ya.mk (Kd.R_below Zwa hb); replace HB := Ya.mk (Yt Za hb); (try clear hb)))
   go_roundg k1
   case measure => have := dB.out; omega
   case rel => exact ⟨(t146), (wrap64 (bF + 1)), Zf, Zf, H', ⟨Zba⟩, ⟨Zm⟩, ⟨Zwa⟩, ⟨Za⟩⟩
def Yjg.f (a0 : Y) : Option (Int) := if a0.toList = ([104, 116, 116, 112] : List UInt8) then (some 80) else (some 443)
theorem Yjg.calls (a0 : Y) (r : Int) (w : World) (hE : EnvOk w) (h : Yjg.f a0 = some r) :
  Calls Tryz.prog 84 #[.string a0] w fun e w' => e = .returned (.int .i64 r) ∧ Drawn0 w w' := by
 have HE := Ya.mk hE
 clear hE
 have H : (if a0.toList = ([104, 116, 116, 112] : List UInt8) then (some 80) else (some 443)) = some r := h
 clear h
 by_cases c2 : a0.toList = ([104, 116, 116, 112] : List UInt8)
 rotate_left
 ·rw [if_neg c2] at H
  have eS : (a0.toList == ([104, 116, 116, 112] : List UInt8)) = false := Kz c2
  have kC : (a0.toList != ([104, 116, 116, 112] : List UInt8)) = true := Kaa c2
  obtain rfl := Kv H
  go_enter Tryz.func84, Tryz.ntmps84
  go_wp2
  go_ret
  exact ⟨Zf, Zh⟩
 rw [if_pos c2] at H
 have eS : (a0.toList == ([104, 116, 116, 112] : List UInt8)) = true := Kba c2
 have kC : (a0.toList != ([104, 116, 116, 112] : List UInt8)) = false := Ky c2
 clear c2
 obtain rfl := Kv H
 go_enter Tryz.func84, Tryz.ntmps84
 go_wp2
 go_ret
 exact ⟨Zf, Zh⟩
end Go.Proofs.YtnmglnglbdpjjaaGreatDoor.X
