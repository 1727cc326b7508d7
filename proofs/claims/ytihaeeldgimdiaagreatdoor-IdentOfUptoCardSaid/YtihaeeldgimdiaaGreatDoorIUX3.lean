import Derived.Test.YtihaeeldgimdiaaGreatDoorIUX2
import Derived.Test.YtihaeeldgimdiaaGreatDoorIUQa
set_option linter.all false
namespace Go.Proofs.YtihaeeldgimdiaaGreatDoor.X
open Go.RowKit Go.Yw.PrintWords Go.Yw.PrintLast Go.Yw.PrintMore
attribute [local go_sem] Yxd Yvd Yze Yye Ymd Yld Yyd Ywd
set_option maxHeartbeats 8000000
set_option maxRecDepth 100000
def Yaa.l0 : Nat → Y → Int → Int → Bool → Int → Int → Option (Int × Int)
 | 0, _, _, _, _, _, _ => none
 | k + 1, x0, x1, x6, x7, zW, iR => if iR < zW then (if 0 ≤ iR then (if iR < (x0.size : Int) then ((Ysa.f (bt x0 iR)).bind fun aFm => (if aFm = true then (if x7 = true then (Yaa.l0 k x0 x1 x6 true zW (wrap64 (iR + 1))) else (if x6 > (wrap64 (Int.tdiv (wrap64 (x1 - (((bt x0 iR) - 48) % 256))) 10)) then (Yaa.l0 k x0 x1 x6 true zW (wrap64 (iR + 1))) else (if x1 < (((bt x0 iR) - 48) % 256) then (Yaa.l0 k x0 x1 x6 true zW (wrap64 (iR + 1))) else (Yaa.l0 k x0 x1 (wrap64 ((wrap64 (x6 * 10)) + (((bt x0 iR) - 48) % 256))) x7 zW (wrap64 (iR + 1)))))) else (some (0, 3)))) else (none)) else (none)) else (if x7 = true then (some (0, 5)) else (some (x6, 0)))
def Yaa.f (k : Nat) (a0 : Y) (a1 : Int) : Option (Int × Int) := if a0.toList = ([] : List UInt8) then (some (0, 3)) else (Yaa.l0 k a0 a1 0 (decide (a1 < 0)) (a0.size : Int) 0)
theorem Yaa.calls (k : Nat) (a0 : Y) (a1 r1 r2 : Int) (w : World) (hE : EnvOk w) (h : Yaa.f k a0 a1 = some (r1, r2)) :
  Calls Tryz.prog 75 #[.string a0, .int .i64 a1] w fun e w' => e = .returned (.tuple #[.int .i64 r1, .int .i64 r2]) ∧ Drawn0 w w' := by
 have HE := Ya.mk hE
 clear hE
 have H : (if a0.toList = ([] : List UInt8) then (some (0, 3)) else (Yaa.l0 k a0 a1 0 (decide (a1 < 0)) (a0.size : Int) 0)) = some (r1, r2) := h
 clear h
 by_cases c3 : a0.toList = ([] : List UInt8)
 ·rw [if_pos c3] at H
  have bV : (a0.toList == ([] : List UInt8)) = true := Kx c3
  have dY : (a0.toList != ([] : List UInt8)) = false := Ku c3
  clear c3
  simp only [Kz, Kaa] at H
  obtain ⟨rfl, rfl⟩ := H
  go_enter Tryz.func75, Tryz.ntmps75
  go_wp2
  go_ret2
  exact ⟨Zf, Zh⟩
 rw [if_neg c3] at H
 have bV : (a0.toList == ([] : List UInt8)) = false := Kv c3
 have dY : (a0.toList != ([] : List UInt8)) = true := Kw c3
 have H' := Ya.mk H
 clear H
 go_enter Tryz.func75, Tryz.ntmps75
 go_wp2
 go_loopg [6, 7, 16] k (fun kq v6 v7 v16 w' => ∃ (aD : Int) (bI : Bool) (aA : Int), v6 = .int .i64 aD ∧ v7 = .bool bI ∧ v16 = .int .i64 aA ∧ Ya (Yaa.l0 kq a0 a1 aD bI (a0.size : Int) aA = some (r1, r2)) ∧ Ya (kq ≤ k) ∧ Drawn0 w w')
 case atStart => exact ⟨(0), (decide (a1 < 0)), (0), Zf, Zf, Zf, H', ⟨Ks _⟩, Zh⟩
 case round =>
  clear H'
  try clear p2
  try clear c3
  try clear bV
  try clear dY
  obtain ⟨aD, bI, aA, rfl, rfl, rfl, HA, cC, ⟨m1, rfl⟩⟩ := hrel
  cases gk with
  | zero => exact absurd HA.out (by simp [Yaa.l0])
  | succ k1 =>
   have H := HA.out
   clear HA
   simp only [Yaa.l0] at H
   by_cases c4 : aA < (a0.size : Int)
   rotate_left
   ·rw [if_neg c4] at H
    have bM : decide (aA < (a0.size : Int)) = false := Ko c4
    clear c4
    by_cases cD : bI = true
    ·subst cD
     rw [if_pos rfl] at H
     simp only [Kz, Kaa] at H
     obtain ⟨rfl, rfl⟩ := H
     go_wp2
     go_ret2
     exact ⟨Zf, Zh⟩
    replace cD := Kt cD
    subst cD
    rw [if_neg (show ¬ (false = true) by decide)] at H
    simp only [Kz, Kaa] at H
    obtain ⟨rfl, rfl⟩ := H
    go_wp2
    go_ret2
    exact ⟨Zf, Zh⟩
   rw [if_pos c4] at H
   have bM : decide (aA < (a0.size : Int)) = true := Kn c4
   clear c4
   by_cases c5 : 0 ≤ aA
   rotate_left
   ·rw [if_neg c5] at H
    exact absurd H Zq
   rw [if_pos c5] at H
   have dG : decide (0 ≤ aA) = true := Kn c5
   clear c5
   by_cases c6 : aA < (a0.size : Int)
   rotate_left
   ·rw [if_neg c6] at H
    exact absurd H Zq
   rw [if_pos c6] at H
   have dN : decide (aA < (a0.size : Int)) = true := Kn c6
   clear c6
   obtain ⟨aFm, xP, H⟩ := Kq H
   try dsimp -simprocs only at H
   have A8 := Ya.mk xP
   clear xP
   by_cases c9 : aFm = true
   rotate_left
   ·replace c9 := Kt c9
    subst c9
    rw [if_neg (show ¬ (false = true) by decide)] at H
    simp only [Kz, Kaa] at H
    obtain ⟨rfl, rfl⟩ := H
    have p7 : (0 ≤ (aA : Int)) = True := Kl
    have q7 : aA < (a0.size : Int) := Km Zc
    have hx7 := Ypa a0 aA
    replace q7 := Kp q7
    go_wp2_with (first | ((with_reducible refine Yh (f := 69) rfl ?_); refine Yy (some 22) rfl rfl Tryz.func69 Zi rfl #[.int .u8 (bt a0 aA)] rfl Zb ?_; (with_reducible refine (Ysa.calls (bt a0 aA) false _ ?z1 A8.out).mono ?_); (case z1 => exact Kg); rintro e w' ⟨rfl, ⟨nd, rfl⟩⟩; refine ⟨_, rfl, ?_⟩))
    go_ret2
    exact ⟨Zf, Zh⟩
   subst c9
   rw [if_pos rfl] at H
   by_cases bK : bI = true
   ·subst bK
    rw [if_pos rfl] at H
    have H' := Ya.mk H
    clear H
    have p7 : (0 ≤ (aA : Int)) = True := Kl
    have q7 : aA < (a0.size : Int) := Km Zc
    have hx7 := Ypa a0 aA
    replace q7 := Kp q7
    go_wp2_with (first | ((with_reducible refine Yh (f := 69) rfl ?_); refine Yy (some 22) rfl rfl Tryz.func69 Zi rfl #[.int .u8 (bt a0 aA)] rfl Zb ?_; (with_reducible refine (Ysa.calls (bt a0 aA) true _ ?z1 A8.out).mono ?_); (case z1 => exact Kg); rintro e w' ⟨rfl, ⟨nd, rfl⟩⟩; refine ⟨_, rfl, ?_⟩; have mU : (0 ≤ (aA : Int)) = True := Kl; have iQ : aA < (a0.size : Int) := Km Zc; have rL := Ypa a0 aA; replace iQ := Kp iQ))
    go_roundg k1
    case measure => have := cC.out; omega
    case rel => exact ⟨(aD), (true), (wrap64 (aA + 1)), Zf, Zf, Zf, H', ⟨Zu⟩, Zh⟩
   replace bK := Kt bK
   subst bK
   rw [if_neg (show ¬ (false = true) by decide)] at H
   by_cases bT : aD > (wrap64 (Int.tdiv (wrap64 (a1 - (((bt a0 aA) - 48) % 256))) 10))
   ·rw [if_pos bT] at H
    have dZ : decide ((wrap64 (Int.tdiv (wrap64 (a1 - (((bt a0 aA) - 48) % 256))) 10)) < aD) = true := Kn bT
    clear bT
    have H' := Ya.mk H
    clear H
    have p7 : (0 ≤ (aA : Int)) = True := Kl
    have q7 : aA < (a0.size : Int) := Km Zc
    have hx7 := Ypa a0 aA
    replace q7 := Kp q7
    go_wp2_with (first | ((with_reducible refine Yh (f := 69) rfl ?_); refine Yy (some 22) rfl rfl Tryz.func69 Zi rfl #[.int .u8 (bt a0 aA)] rfl Zb ?_; (with_reducible refine (Ysa.calls (bt a0 aA) true _ ?z1 A8.out).mono ?_); (case z1 => exact Kg); rintro e w' ⟨rfl, ⟨nd, rfl⟩⟩; refine ⟨_, rfl, ?_⟩; have mU : (0 ≤ (aA : Int)) = True := Kl; have iQ : aA < (a0.size : Int) := Km Zc; have rL := Ypa a0 aA; replace iQ := Kp iQ))
    go_roundg k1
    case measure => have := cC.out; omega
    case rel => exact ⟨(aD), (true), (wrap64 (aA + 1)), Zf, Zf, Zf, H', ⟨Zu⟩, Zh⟩
   rw [if_neg bT] at H
   have dZ : decide ((wrap64 (Int.tdiv (wrap64 (a1 - (((bt a0 aA) - 48) % 256))) 10)) < aD) = false := Ko bT
   clear bT
   by_cases cI : a1 < (((bt a0 aA) - 48) % 256)
   ·rw [if_pos cI] at H
    have hJ : decide (a1 < (((bt a0 aA) - 48) % 256)) = true := Kn cI
    clear cI
    have H' := Ya.mk H
    clear H
    have p7 : (0 ≤ (aA : Int)) = True := Kl
    have q7 : aA < (a0.size : Int) := Km Zc
    have hx7 := Ypa a0 aA
    replace q7 := Kp q7
    go_wp2_with (first | ((with_reducible refine Yh (f := 69) rfl ?_); refine Yy (some 22) rfl rfl Tryz.func69 Zi rfl #[.int .u8 (bt a0 aA)] rfl Zb ?_; (with_reducible refine (Ysa.calls (bt a0 aA) true _ ?z1 A8.out).mono ?_); (case z1 => exact Kg); rintro e w' ⟨rfl, ⟨nd, rfl⟩⟩; refine ⟨_, rfl, ?_⟩; have mU : (0 ≤ (aA : Int)) = True := Kl; have iQ : aA < (a0.size : Int) := Km Zc; have rL := Ypa a0 aA; replace iQ := Kp iQ))
    go_roundg k1
    case measure => have := cC.out; omega
    case rel => exact ⟨(aD), (true), (wrap64 (aA + 1)), Zf, Zf, Zf, H', ⟨Zu⟩, Zh⟩
   rw [if_neg cI] at H
   have hJ : decide (a1 < (((bt a0 aA) - 48) % 256)) = false := Ko cI
   clear cI
   have H' := Ya.mk H
   clear H
   have p7 : (0 ≤ (aA : Int)) = True := Kl
   have q7 : aA < (a0.size : Int) := Km Zc
   have hx7 := Ypa a0 aA
   replace q7 := Kp q7
   go_wp2_with (first | ((with_reducible refine Yh (f := 69) rfl ?_); refine Yy (some 22) rfl rfl Tryz.func69 Zi rfl #[.int .u8 (bt a0 aA)] rfl Zb ?_; (with_reducible refine (Ysa.calls (bt a0 aA) true _ ?z1 A8.out).mono ?_); (case z1 => exact Kg); rintro e w' ⟨rfl, ⟨nd, rfl⟩⟩; refine ⟨_, rfl, ?_⟩; have mU : (0 ≤ (aA : Int)) = True := Kl; have iQ : aA < (a0.size : Int) := Km Zc; have rL := Ypa a0 aA; replace iQ := Kp iQ))
   go_roundg k1
   case measure => have := cC.out; omega
   case rel => exact ⟨(wrap64 ((wrap64 (aD * 10)) + (((bt a0 aA) - 48) % 256))), (false), (wrap64 (aA + 1)), Zf, Zf, Zf, H', ⟨Zu⟩, Zh⟩
def Yab.l0 : Nat → Y → Int → List Y → Option (List Y)
 | 0, _, _, _ => none
 | k + 1, x0, x1, x5 => (strings_IndexByte.f x0 x1).bind fun t124 => (if t124 < 0 then (if x5.length < 8796093022208 then (some (x5 ++ [x0])) else (none)) else (if 0 ≤ t124 then (if t124 ≤ (x0.size : Int) then (if x5.length < 8796093022208 then (if 0 ≤ (wrap64 (t124 + 1)) then (if (wrap64 (t124 + 1)) ≤ (x0.size : Int) then (Yab.l0 k (x0.extract ((wrap64 (t124 + 1)) : Int).toNat x0.size) x1 (x5 ++ [x0.extract 0 (t124 : Int).toNat])) else (none)) else (none)) else (none)) else (none)) else (none)))
def Yab.f (k : Nat) (a0 : Y) (a1 : Int) : Option (List Y) := Yab.l0 k a0 a1 ([] : List Y)
theorem Yab.mono_l : ∀ k, (∀ y0 y1 y2, LeO (Yab.l0 k y0 y1 y2) (Yab.l0 (k + 1) y0 y1 y2))
 | 0 => fun _ _ _ r h => by simp [Yab.l0] at h
 | k + 1 => by
  have rZ := Yab.mono_l k
  ·intro y0 y1 y2
   unfold Yab.l0
   repeat' first
   | (with_reducible exact rZ _ _ _)
   | (with_reducible exact LeO.refl _)
   | (with_reducible exact LeO.none _)
   | (with_reducible refine LeO.ite ?_ ?_)
   | (with_reducible refine LeO.bind ?_ (fun _ => ?_))
   | exact rZ _ _ _
   | exact LeO.none _
   | refine LeO.ite ?_ ?_
   | refine LeO.bind ?_ (fun _ => ?_)
theorem Yab.mono : ∀ a0 a1 k, LeO (Yab.f k a0 a1) (Yab.f (k + 1) a0 a1) := by
 intro a0 a1 k
 have rZ := Yab.mono_l k
 unfold Yab.f
 repeat' first
   | (with_reducible exact rZ _ _ _)
   | (with_reducible exact LeO.refl _)
   | (with_reducible exact LeO.none _)
   | (with_reducible refine LeO.ite ?_ ?_)
   | (with_reducible refine LeO.bind ?_ (fun _ => ?_))
   | exact rZ _ _ _
   | exact LeO.none _
   | refine LeO.ite ?_ ?_
   | refine LeO.bind ?_ (fun _ => ?_)
theorem Yab.calls (k : Nat) (a0 : Y) (a1 : Int) (r : List Y) (w : World) (hE : EnvOk w) (h : Yab.f k a0 a1 = some r) :
  Calls Tryz.prog 106 #[.string a0, .int .u8 a1] w fun e w' => ∃ v0_ : Value, e = .returned (v0_) ∧ Kd.R Kd.string 9 w' w.heap.size (fun _ => True) v0_ r ∧ Below w.heap.size w w' := by
 have HE := Ya.mk hE
 clear hE
 have HB := Ya.mk (Below.refl w.heap.size w)
 have H : (Yab.l0 k a0 a1 ([] : List Y)) = some r := h
 clear h
 have H' := Ya.mk H
 clear H
 go_enter Tryz.func106, Tryz.ntmps106
 go_wp2
 go_loopg [0, 5] k (fun kq v0 v5 w' => ∃ (aK : Y) (aI : List Y), v0 = .string aK ∧ Ya (Yab.l0 kq aK a1 aI = some r) ∧ Ya (kq ≤ k) ∧ Ya (Kd.R Kd.string 9 w' w.heap.size (fun _ => True) v5 aI) ∧ Ya (Below w.heap.size w w'))
 case atStart => exact ⟨(a0), (([] : List Y)), Zf, H', ⟨Ks _⟩, ⟨Zv⟩, ⟨Za⟩⟩
 case round =>
  clear H'
  try clear c1
  try clear p2
  obtain ⟨aK, aI, rfl, HA, cC, HO_5, HB⟩ := hrel
  cases gk with
  | zero => exact absurd HA.out (by simp [Yab.l0])
  | succ k1 =>
   have H := HA.out
   clear HA
   simp only [Yab.l0] at H
   obtain ⟨t124, pF, H⟩ := Kq H
   try dsimp -simprocs only at H
   have A3 := Ya.mk pF
   clear pF
   by_cases c4 : t124 < 0
   ·rw [if_pos c4] at H
    have bM : decide (t124 < 0) = true := Kn c4
    clear c4
    by_cases c5 : aI.length < 8796093022208
    rotate_left
    ·rw [if_neg c5] at H
     exact absurd H Zq
    rw [if_pos c5] at H
    have aFn := Ya.mk c5
    clear c5
    obtain ⟨aWF, sA⟩ : ∃ y_ : List Y, y_ = (aI ++ [aK]) := ⟨_, rfl⟩
    replace H : (some aWF) = some r := by first | (rw [sA]; with_reducible exact H) | (have cO := (Kba _ _).symm.trans H; rw [sA]; with_reducible exact cO) | (have cO := (Kba _ _).symm.trans H; with_reducible exact cO) | with_reducible exact H | (rw [sA]; exact H) | exact H
    have aII := Ya.mk sA
    clear sA
    obtain rfl := Kr H
    go_wp2_with (first | ((with_reducible refine Yh (f := 25) rfl ?_); refine Yy (some 9) rfl rfl Tryz.func25 Zi rfl #[.string aK, .int .u8 a1] rfl Zb ?_; (with_reducible refine (strings_IndexByte.calls aK a1 t124 _ ?z1 A3.out).mono ?_); (case z1 => exact Kh); rintro e w' ⟨rfl, ⟨nd, rfl⟩⟩; refine ⟨_, rfl, ?_⟩) | ((with_reducible refine Yic (b := .append) (xs := #[.tmp 12, .tmp 14]) rfl ?_); at_builtin; refine Kd.R_append Kd.string (w0 := w) w.heap.size rfl (.tmp 12) (.tmp 14) 23 9 (.string ⟨#[]⟩) 16 rfl Tryz.underlying23 Ype rfl Zw Zj u5 aI aK [.string aK] (fun _ => True) (fun _ => False) rfl rfl ?aP (fun _ hk => hk.elim) ?aF ?aO ?aB ?aS ?aL ?_; (case aP => exact rfl); (case aB => exact Za); (case aF => exact (fun _ _ => trivial)); (case aO => exact Zz); (case aS => exact Ki); (case aL => have := aFn.out; omega); intro aZT w6 ho hb hg hat; rw [← aII.out] at ho; replace HB := Ya.mk (hb); have aIJ := Ya.mk (ho); clear HO_5; clear ho hb hg hat))
    go_ret
    exact ⟨_, Zk, by (with_reducible repeat (first | apply Kd.R_alloc | apply Kd.R_drewN | apply Kd.R_drew)); exact aIJ.out, Za⟩
   rw [if_neg c4] at H
   have bM : decide (t124 < 0) = false := Ko c4
   clear c4
   by_cases c7 : 0 ≤ t124
   rotate_left
   ·rw [if_neg c7] at H
    exact absurd H Zq
   rw [if_pos c7] at H
   have cM := Kp c7
   have gZ : decide (0 ≤ t124) = true := Kn c7
   clear c7
   by_cases c8 : t124 ≤ (aK.size : Int)
   rotate_left
   ·rw [if_neg c8] at H
    exact absurd H Zq
   rw [if_pos c8] at H
   have fS := Kp c8
   have jA : decide (t124 ≤ (aK.size : Int)) = true := Kn c8
   clear c8
   by_cases c9 : aI.length < 8796093022208
   rotate_left
   ·rw [if_neg c9] at H
    exact absurd H Zq
   rw [if_pos c9] at H
   have uO := Ya.mk c9
   clear c9
   obtain ⟨aFo, sB⟩ : ∃ y_ : List Y, y_ = (aI ++ [aK.extract 0 (t124 : Int).toNat]) := ⟨_, rfl⟩
   replace H : (if 0 ≤ (wrap64 (t124 + 1)) then (if (wrap64 (t124 + 1)) ≤ (aK.size : Int) then (Yab.l0 k1 (aK.extract ((wrap64 (t124 + 1)) : Int).toNat aK.size) a1 aFo) else (none)) else (none)) = some r := by first | (rw [sB]; with_reducible exact H) | (have cO := (Kba _ _).symm.trans H; rw [sB]; with_reducible exact cO) | (have cO := (Kba _ _).symm.trans H; with_reducible exact cO) | with_reducible exact H | (rw [sB]; exact H) | exact H
   have aIK := Ya.mk sB
   clear sB
   obtain ⟨ji10, gT⟩ : ∃ j_ : Int, (wrap64 (t124 + 1)) = j_ := ⟨_, rfl⟩
   replace H : (if 0 ≤ (ji10) then (if (ji10) ≤ (aK.size : Int) then (Yab.l0 k1 (aK.extract ((ji10) : Int).toNat aK.size) a1 aFo) else (none)) else (none)) = some r := by first | (rw [gT] at H; exact H) | (simp only [gT] at H ⊢; exact H)
   (try rw [gT] at A3)
   have hji10w : (IntKind.i64.wrap (t124 + 1)) = ji10 := (Yha _).trans gT
   by_cases bK : 0 ≤ (ji10)
   rotate_left
   ·rw [if_neg bK] at H
    exact absurd H Zq
   rw [if_pos bK] at H
   have fM := Kp bK
   have kH : decide (0 ≤ (ji10)) = true := Kn bK
   clear bK
   by_cases bT : (ji10) ≤ (aK.size : Int)
   rotate_left
   ·rw [if_neg bT] at H
    exact absurd H Zq
   rw [if_pos bT] at H
   have dZ := Kp bT
   have rJ : decide ((ji10) ≤ (aK.size : Int)) = true := Kn bT
   clear bT
   have H' := Ya.mk H
   clear H
   go_wp2_with (first | ((with_reducible refine Yh (f := 25) rfl ?_); refine Yy (some 9) rfl rfl Tryz.func25 Zi rfl #[.string aK, .int .u8 a1] rfl Zb ?_; (with_reducible refine (strings_IndexByte.calls aK a1 t124 _ ?z1 A3.out).mono ?_); (case z1 => exact Kh); rintro e w' ⟨rfl, ⟨nd, rfl⟩⟩; refine ⟨_, rfl, ?_⟩) | ((with_reducible refine Yic (b := .append) (xs := #[.tmp 16, .tmp 20]) rfl ?_); at_builtin; refine Kd.R_append Kd.string (w0 := w) w.heap.size rfl (.tmp 16) (.tmp 20) 23 9 (.string ⟨#[]⟩) 16 rfl Tryz.underlying23 Ype rfl Zw Zj u5 aI (aK.extract 0 (t124 : Int).toNat) [.string (aK.extract 0 (t124 : Int).toNat)] (fun _ => True) (fun _ => False) rfl rfl ?aP (fun _ hk => hk.elim) ?aF ?aO ?aB ?aS ?aL ?_; (case aP => exact rfl); (case aB => exact Za); (case aF => exact (fun _ _ => trivial)); (case aO => exact Zz); (case aS => exact Ki); (case aL => have := uO.out; omega); intro aZU mW ho hb hg hat; rw [← aIK.out] at ho; replace HB := Ya.mk (hb); have aIL := Ya.mk (ho); clear HO_5; clear ho hb hg hat))
   go_roundg k1
   case measure => have := cC.out; omega
   case rel => exact ⟨(aK.extract ((ji10) : Int).toNat aK.size), (aFo), (by first | rfl | (simp; done) | (simp only [← gT] <;> (first | rfl | simp)) | (simp [*]; done)), H', ⟨Zu⟩, ⟨by (with_reducible repeat (first | apply Kd.R_alloc | apply Kd.R_drewN | apply Kd.R_drew)); exact aIL.out⟩, ⟨Za⟩⟩
def Ygb.l0 : Nat → Y → Int → Int → Option (Bool)
 | 0, _, _, _ => none
 | k + 1, x0, x6, x7 => if x7 < x6 then (if 0 ≤ x7 then (if x7 < (x0.size : Int) then ((Yib.f (bt x0 x7)).bind fun aFp => (if aFp = true then (Ygb.l0 k x0 x6 (wrap64 (x7 + 1))) else ((Ysa.f (bt x0 x7)).bind fun aFq => (if aFq = true then (Ygb.l0 k x0 x6 (wrap64 (x7 + 1))) else (if (bt x0 x7) = 45 then (Ygb.l0 k x0 x6 (wrap64 (x7 + 1))) else (if (bt x0 x7) = 95 then (Ygb.l0 k x0 x6 (wrap64 (x7 + 1))) else (some false))))))) else (none)) else (none)) else (if x0.toList = ([] : List UInt8) then (some false) else (some (decide ((x0.size : Int) ≤ 63))))
def Ygb.f (k : Nat) (a0 : Y) : Option (Bool) := Ygb.l0 k a0 (a0.size : Int) 0
theorem Ygb.calls (k : Nat) (a0 : Y) (r : Bool) (w : World) (hE : EnvOk w) (h : Ygb.f k a0 = some r) :
  Calls Tryz.prog 128 #[.string a0] w fun e w' => e = .returned (.bool r) ∧ Drawn0 w w' := by
 have HE := Ya.mk hE
 clear hE
 have H : (Ygb.l0 k a0 (a0.size : Int) 0) = some r := h
 clear h
 have H' := Ya.mk H
 clear H
 go_enter Tryz.func128, Tryz.ntmps128
 go_wp2
 go_loopg [7] k (fun kq v7 w' => ∃ (bI : Int), v7 = .int .i64 bI ∧ Ya (Ygb.l0 kq a0 (a0.size : Int) bI = some r) ∧ Ya (kq ≤ k) ∧ Drawn0 w w')
 case atStart => exact ⟨(0), Zf, H', ⟨Ks _⟩, Zh⟩
 case round =>
  clear H'
  try clear c1
  obtain ⟨bI, rfl, HA, cC, ⟨m1, rfl⟩⟩ := hrel
  cases gk with
  | zero => exact absurd HA.out (by simp [Ygb.l0])
  | succ k1 =>
   have H := HA.out
   clear HA
   simp only [Ygb.l0] at H
   by_cases c2 : bI < (a0.size : Int)
   rotate_left
   ·rw [if_neg c2] at H
    have dS : decide (bI < (a0.size : Int)) = false := Ko c2
    clear c2
    by_cases bT : a0.toList = ([] : List UInt8)
    rotate_left
    ·rw [if_neg bT] at H
     have dZ : (a0.toList == ([] : List UInt8)) = false := Kv bT
     have rJ : (a0.toList != ([] : List UInt8)) = true := Kw bT
     obtain rfl := Kr H
     go_wp2
     go_ret
     exact ⟨Zf, Zh⟩
    rw [if_pos bT] at H
    have dZ : (a0.toList == ([] : List UInt8)) = true := Kx bT
    have rJ : (a0.toList != ([] : List UInt8)) = false := Ku bT
    clear bT
    obtain rfl := Kr H
    go_wp2
    go_ret
    exact ⟨Zf, Zh⟩
   rw [if_pos c2] at H
   have dS : decide (bI < (a0.size : Int)) = true := Kn c2
   clear c2
   by_cases c3 : 0 ≤ bI
   rotate_left
   ·rw [if_neg c3] at H
    exact absurd H Zq
   rw [if_pos c3] at H
   have bV : decide (0 ≤ bI) = true := Kn c3
   clear c3
   by_cases c4 : bI < (a0.size : Int)
   rotate_left
   ·rw [if_neg c4] at H
    exact absurd H Zq
   rw [if_pos c4] at H
   have bM : decide (bI < (a0.size : Int)) = true := Kn c4
   clear c4
   obtain ⟨aFp, sC, H⟩ := Kq H
   try dsimp -simprocs only at H
   have A6 := Ya.mk sC
   clear sC
   by_cases c7 : aFp = true
   ·subst c7
    rw [if_pos rfl] at H
    have H' := Ya.mk H
    clear H
    have p5 : (0 ≤ (bI : Int)) = True := Kl
    have q5 : bI < (a0.size : Int) := Km Zc
    have gJ := Ypa a0 bI
    replace q5 := Kp q5
    go_wp2_with (first | ((with_reducible refine Yh (f := 68) rfl ?_); refine Yy (some 14) rfl rfl Tryz.func68 Zi rfl #[.int .u8 (bt a0 bI)] rfl Zb ?_; (with_reducible refine (Yib.calls (bt a0 bI) true _ ?z1 A6.out).mono ?_); (case z1 => exact Kg); rintro e w' ⟨rfl, ⟨nd, rfl⟩⟩; refine ⟨_, rfl, ?_⟩))
    go_roundg k1
    case measure => have := cC.out; omega
    case rel => exact ⟨(wrap64 (bI + 1)), Zf, H', ⟨Zu⟩, Zh⟩
   replace c7 := Kt c7
   subst c7
   rw [if_neg (show ¬ (false = true) by decide)] at H
   obtain ⟨aFq, xP, H⟩ := Kq H
   try dsimp -simprocs only at H
   have A8 := Ya.mk xP
   clear xP
   by_cases c9 : aFq = true
   ·subst c9
    rw [if_pos rfl] at H
    have H' := Ya.mk H
    clear H
    have p5 : (0 ≤ (bI : Int)) = True := Kl
    have q5 : bI < (a0.size : Int) := Km Zc
    have gJ := Ypa a0 bI
    replace q5 := Kp q5
    go_wp2_with (first | ((with_reducible refine Yh (f := 68) rfl ?_); refine Yy (some 14) rfl rfl Tryz.func68 Zi rfl #[.int .u8 (bt a0 bI)] rfl Zb ?_; (with_reducible refine (Yib.calls (bt a0 bI) false _ ?z1 A6.out).mono ?_); (case z1 => exact Kg); rintro e w' ⟨rfl, ⟨nd, rfl⟩⟩; refine ⟨_, rfl, ?_⟩) | (go_at_call 69; (with_reducible refine (Ysa.calls (bt a0 bI) true _ ?z1 A8.out).mono ?_); (case z1 => exact Kg); rintro e w' ⟨rfl, ⟨nd, rfl⟩⟩))
    go_roundg k1
    case measure => have := cC.out; omega
    case rel => exact ⟨(wrap64 (bI + 1)), Zf, H', ⟨Zu⟩, Zh⟩
   replace c9 := Kt c9
   subst c9
   rw [if_neg (show ¬ (false = true) by decide)] at H
   by_cases dK : (bt a0 bI) = 45
   ·rw [if_pos dK] at H
    have iJ : ((bt a0 bI) == 45) = true := Kx dK
    have aAS : ((bt a0 bI) != 45) = false := Ku dK
    clear dK
    have H' := Ya.mk H
    clear H
    have p5 : (0 ≤ (bI : Int)) = True := Kl
    have q5 : bI < (a0.size : Int) := Km Zc
    have gJ := Ypa a0 bI
    replace q5 := Kp q5
    go_wp2_with (first | ((with_reducible refine Yh (f := 68) rfl ?_); refine Yy (some 14) rfl rfl Tryz.func68 Zi rfl #[.int .u8 (bt a0 bI)] rfl Zb ?_; (with_reducible refine (Yib.calls (bt a0 bI) false _ ?z1 A6.out).mono ?_); (case z1 => exact Kg); rintro e w' ⟨rfl, ⟨nd, rfl⟩⟩; refine ⟨_, rfl, ?_⟩) | (go_at_call 69; (with_reducible refine (Ysa.calls (bt a0 bI) false _ ?z1 A8.out).mono ?_); (case z1 => exact Kg); rintro e w' ⟨rfl, ⟨nd, rfl⟩⟩))
    go_roundg k1
    case measure => have := cC.out; omega
    case rel => exact ⟨(wrap64 (bI + 1)), Zf, H', ⟨Zu⟩, Zh⟩
   rw [if_neg dK] at H
   have iJ : ((bt a0 bI) == 45) = false := Kv dK
   have aAS : ((bt a0 bI) != 45) = true := Kw dK
   by_cases bK : (bt a0 bI) = 95
   rotate_left
   ·rw [if_neg bK] at H
    have fM : ((bt a0 bI) == 95) = false := Kv bK
    have kH : ((bt a0 bI) != 95) = true := Kw bK
    obtain rfl := Kr H
    have p5 : (0 ≤ (bI : Int)) = True := Kl
    have q5 : bI < (a0.size : Int) := Km Zc
    have gJ := Ypa a0 bI
    replace q5 := Kp q5
    go_wp2_with (first | ((with_reducible refine Yh (f := 68) rfl ?_); refine Yy (some 14) rfl rfl Tryz.func68 Zi rfl #[.int .u8 (bt a0 bI)] rfl Zb ?_; (with_reducible refine (Yib.calls (bt a0 bI) false _ ?z1 A6.out).mono ?_); (case z1 => exact Kg); rintro e w' ⟨rfl, ⟨nd, rfl⟩⟩; refine ⟨_, rfl, ?_⟩) | (go_at_call 69; (with_reducible refine (Ysa.calls (bt a0 bI) false _ ?z1 A8.out).mono ?_); (case z1 => exact Kg); rintro e w' ⟨rfl, ⟨nd, rfl⟩⟩))
    go_ret
    exact ⟨Zf, Zh⟩
   rw [if_pos bK] at H
   have fM : ((bt a0 bI) == 95) = true := Kx bK
   have kH : ((bt a0 bI) != 95) = false := Ku bK
   clear bK
   have H' := Ya.mk H
   clear H
   have p5 : (0 ≤ (bI : Int)) = True := Kl
   have q5 : bI < (a0.size : Int) := Km Zc
   have gJ := Ypa a0 bI
   replace q5 := Kp q5
   go_wp2_with (first | ((with_reducible refine Yh (f := 68) rfl ?_); refine Yy (some 14) rfl rfl Tryz.func68 Zi rfl #[.int .u8 (bt a0 bI)] rfl Zb ?_; (with_reducible refine (Yib.calls (bt a0 bI) false _ ?z1 A6.out).mono ?_); (case z1 => exact Kg); rintro e w' ⟨rfl, ⟨nd, rfl⟩⟩; refine ⟨_, rfl, ?_⟩) | (go_at_call 69; (with_reducible refine (Ysa.calls (bt a0 bI) false _ ?z1 A8.out).mono ?_); (case z1 => exact Kg); rintro e w' ⟨rfl, ⟨nd, rfl⟩⟩))
   go_roundg k1
   case measure => have := cC.out; omega
   case rel => exact ⟨(wrap64 (bI + 1)), Zf, H', ⟨Zu⟩, Zh⟩
def Yn.l0 : Nat → List Int → Int → Int → Option (List Int)
 | 0, _, _, _ => none
 | k + 1, x0, x2, x3 => if x2 < x3 then (if 0 ≤ x3 then (if x3 < (x0.length : Int) then (if 0 ≤ x2 then (if x2 < (x0.length : Int) then (Yn.l0 k ((x0.set (x2 : Int).toNat (rd x0 x3)).set (x3 : Int).toNat (rd x0 x2)) (wrap64 (x2 + 1)) (wrap64 (x3 - 1))) else (none)) else (none)) else (none)) else (none)) else (some x0)
def Yn.f (k : Nat) (l0 : List Int) : Option (List Int) := Yn.l0 k l0 0 (wrap64 ((l0.length : Int) - 1))
theorem Yn.mono_l : ∀ k, (∀ y0 y1 y2, LeO (Yn.l0 k y0 y1 y2) (Yn.l0 (k + 1) y0 y1 y2))
 | 0 => fun _ _ _ r h => by simp [Yn.l0] at h
 | k + 1 => by
  have rZ := Yn.mono_l k
  ·intro y0 y1 y2
   unfold Yn.l0
   repeat' first
   | (with_reducible exact rZ _ _ _)
   | (with_reducible exact LeO.refl _)
   | (with_reducible exact LeO.none _)
   | (with_reducible refine LeO.ite ?_ ?_)
   | (with_reducible refine LeO.bind ?_ (fun _ => ?_))
   | exact rZ _ _ _
   | exact LeO.none _
   | refine LeO.ite ?_ ?_
   | refine LeO.bind ?_ (fun _ => ?_)
theorem Yn.mono : ∀ a0 k, LeO (Yn.f k a0) (Yn.f (k + 1) a0) := by
 intro a0 k
 have rZ := Yn.mono_l k
 unfold Yn.f
 repeat' first
   | (with_reducible exact rZ _ _ _)
   | (with_reducible exact LeO.refl _)
   | (with_reducible exact LeO.none _)
   | (with_reducible refine LeO.ite ?_ ?_)
   | (with_reducible refine LeO.bind ?_ (fun _ => ?_))
   | exact rZ _ _ _
   | exact LeO.none _
   | refine LeO.ite ?_ ?_
   | refine LeO.bind ?_ (fun _ => ?_)
def Yn.T3 : Bool × List (List Nat × List Nat) := (true, [([], []), ([], []), ([], []), ([], []), ([], []), ([], []), ([4, 5], [4, 5]), ([6], [6]), ([], []), ([], []), ([8, 9], [8, 9]), ([10], [10]), ([0, 1, 0, 1, 4, 5, 6, 7, 11], [0, 1]), ([12, 7, 0, 1, 4, 5, 6, 7, 11], [7, 12]), ([2, 3, 0, 1, 2, 3, 4, 5, 6, 7, 8, 9, 10, 11, 12, 13], [2, 3]), ([14, 11, 13, 0, 1, 2, 3, 4, 5, 6, 7, 8, 9, 10, 11, 12, 13], [11, 14])])
def Yn.B3 : List Nat := [0, 0, 0, 0, 0, 0, 48, 112, 0, 0, 768, 1792, 4083, 8179, 16383, 32767]
theorem Yn.tab3 : rtab .any (opsOf Tryz.f81 3) = Yn.T3 := by kernel_rfl
theorem Yn.bits3 : Yvg Yn.T3.2 Yn.B3 = true := by kernel_rfl
theorem Yn.calls (k : Nat) (P0_ : Nat → Prop) (qI : Value) (l0 r : List Int) (w0 w : World) (hE : EnvOk w0) (hB : Below w0.heap.size w0 w) (oQ : Kd.R (Kd.int .u8) 5 w w0.heap.size P0_ qI l0) (h : Yn.f k l0 = some r) :
  Calls Tryz.prog 81 #[qI] w fun e w' => e = .returned (.tuple #[]) ∧ Kd.R (Kd.int .u8) 5 w' w0.heap.size (fun k_ => (P0_ k_ ∨ w.heap.size ≤ k_)) qI r ∧ Below w0.heap.size w0 w' ∧ Kept w w' (fun k_ => P0_ k_) := by
 have HO0 := Ya.mk (show Kd.R (Kd.int .u8) 5 w w0.heap.size (fun k_ => (P0_ k_ ∨ w.heap.size ≤ k_)) qI l0 from Kd.R_mono oQ (fun k_ hk => (.inl hk)))
 have HK := Ya.mk (Kept.refl w (fun k_ => P0_ k_))
 have HE := Ya.mk hE
 clear hE
 have HW0 := Ya.mk hB.size
 have HB := Ya.mk hB
 clear hB
 have H : (Yn.l0 k l0 0 (wrap64 ((l0.length : Int) - 1))) = some r := h
 clear h
 have H' := Ya.mk H
 clear H
 obtain ⟨Ao2, co2, eo2⟩ := Kd.R_slice HO0.out
 subst eo2
 go_enter Tryz.func81, Tryz.ntmps81
 go_wp2
 go_loopg [2, 3] k (fun kq v2 v3 w' => ∃ (aK : List Int) (gF : Int) (aE : Int), v2 = .int .i64 gF ∧ v3 = .int .i64 aE ∧ Ya (Yn.l0 kq aK gF aE = some r) ∧ Ya (kq ≤ k) ∧ Ya (Kd.R (Kd.int .u8) 5 w' w0.heap.size (fun k_ => (P0_ k_ ∨ w.heap.size ≤ k_)) (.slice Ao2 l0.length co2) aK) ∧ Ya (Kept w w' (fun k_ => P0_ k_)) ∧ Ya (Below w0.heap.size w0 w'))
 case atStart => exact ⟨(l0), (0), (wrap64 ((l0.length : Int) - 1)), Zf, Zf, H', ⟨Ks _⟩, ⟨by (with_reducible repeat (first | apply Kd.R_alloc | apply Kd.R_drewN | apply Kd.R_drew)); exact HO0.out⟩, ⟨by repeat (first | (with_reducible first | exact HK.out | apply Kept.alloc | apply Kept.drewN | apply Kept.drew) | exact HK.out)⟩, ⟨Za⟩⟩
 case round =>
  clear H'
  try clear p2
  obtain ⟨aK, gF, aE, rfl, rfl, HA, cC, HO_0, HK, HB⟩ := hrel
  have sD := (Kd.R_reads' HO_0.out).1
  rw [sD] at HO_0
  (try simp only [sD])
  cases gk with
  | zero => exact absurd HA.out (by simp [Yn.l0])
  | succ k1 =>
   have H := HA.out
   clear HA
   simp only [Yn.l0] at H
   by_cases c3 : gF < aE
   rotate_left
   ·rw [if_neg c3] at H
    have bV : decide (gF < aE) = false := Ko c3
    clear c3
    obtain rfl := Kr H
    go_wp2
    first | go_end0 | ((try simp only [Exit.inBlock, Exit.then]); refine bodyPost_ret (results_none rfl _ _ _) rfl ?_)
    exact ⟨Zk, (by first | exact (by (with_reducible repeat (first | apply Kd.R_alloc | apply Kd.R_drewN | apply Kd.R_drew)); exact HO_0.out) | (simp only [sD]; exact (by (with_reducible repeat (first | apply Kd.R_alloc | apply Kd.R_drewN | apply Kd.R_drew)); exact HO_0.out))), Za, by repeat (first | (with_reducible first | exact HK.out | apply Kept.alloc | apply Kept.drewN | apply Kept.drew) | exact HK.out)⟩
   rw [if_pos c3] at H
   have bV : decide (gF < aE) = true := Kn c3
   clear c3
   by_cases c4 : 0 ≤ aE
   rotate_left
   ·rw [if_neg c4] at H
    exact absurd H Zq
   rw [if_pos c4] at H
   have bM : decide (0 ≤ aE) = true := Kn c4
   clear c4
   by_cases c5 : aE < (aK.length : Int)
   rotate_left
   ·rw [if_neg c5] at H
    exact absurd H Zq
   rw [if_pos c5] at H
   have dG : decide (aE < (aK.length : Int)) = true := Kn c5
   clear c5
   by_cases c6 : 0 ≤ gF
   rotate_left
   ·rw [if_neg c6] at H
    exact absurd H Zq
   rw [if_pos c6] at H
   have dN : decide (0 ≤ gF) = true := Kn c6
   clear c6
   by_cases c7 : gF < (aK.length : Int)
   rotate_left
   ·rw [if_neg c7] at H
    exact absurd H Zq
   rw [if_pos c7] at H
   have cM : decide (gF < (aK.length : Int)) = true := Kn c7
   clear c7
   obtain ⟨aIM, sE⟩ : ∃ y_ : List Int, y_ = (aK.set (gF : Int).toNat (rd aK aE)) := ⟨_, rfl⟩
   replace H : (Yn.l0 k1 (aIM.set (aE : Int).toNat (rd aK gF)) (wrap64 (gF + 1)) (wrap64 (aE - 1))) = some r := by first | (rw [sE]; with_reducible exact H) | (have cO := (Kba _ _).symm.trans H; rw [sE]; with_reducible exact cO) | (have cO := (Kba _ _).symm.trans H; with_reducible exact cO) | with_reducible exact H | (rw [sE]; exact H) | exact H
   have aIN := Ya.mk sE
   clear sE
   obtain ⟨aIO, sF⟩ : ∃ y_ : List Int, y_ = (aIM.set (aE : Int).toNat (rd aK gF)) := ⟨_, rfl⟩
   replace H : (Yn.l0 k1 aIO (wrap64 (gF + 1)) (wrap64 (aE - 1))) = some r := by first | (rw [sF]; with_reducible exact H) | (have cO := (Kba _ _).symm.trans H; rw [sF]; with_reducible exact cO) | (have cO := (Kba _ _).symm.trans H; with_reducible exact cO) | with_reducible exact H | (rw [sF]; exact H) | exact H
   have aIP := Ya.mk sF
   clear sF
   have H' := Ya.mk H
   clear H
   try go_wp2
   have aJ := Ya.mk (Kd.R_drew HO_0.out)
   have aU := Ya.mk (Kept.drew HK.out)
   have bE := Ya.mk (Yc HB.out)
   clear HO_0
   clear HK
   clear HB
   have HO_0 := aJ
   have HK := aU
   have HB := bE
   clear aJ aU bE
   have aFr : 0 ≤ (aE : Int) := Km Zc
   have aFs : aE < (aK.length : Int) := Km Zc
   obtain ⟨aIQ, aWG, qJ⟩ := Kd.at_int (Kd.R_reads' HO_0.out).2.2 aE aFr aFs
   cases aWG
   replace aFr := Kp aFr
   replace aFs := Kp aFs
   have aFt : 0 ≤ (gF : Int) := Km Zc
   have aFu : gF < (aK.length : Int) := Km Zc
   obtain ⟨ad134, aWH, qK⟩ := Kd.at_int (Kd.R_reads' HO_0.out).2.2 gF aFt aFu
   obtain rfl : aIQ = ad134 := (by injection aWH)
   replace aFt := Kp aFt
   replace aFu := Kp aFu
   have p8 : 0 ≤ (gF : Int) := Km Zc
   have q8 : (gF : Int) < ((aK.length : Int) : Int) := Km Zc
   obtain ⟨go8, co8, eo8, gb8, gl8, cl8, HG8⟩ := Kd.R_form HO_0.out Zj
   (first | cases eo8 | (injection eo8 with ea_ en_ ec_; (first | subst ea_ | (injection ea_ with ea_; subst ea_)); subst ec_; clear en_))
   have GB8 := Ya.mk gb8
   have GG8 := Ya.mk HG8
   clear gb8 gl8 HG8
   have aEs := Ya.mk (show (P0_ go8 ∨ w.heap.size ≤ go8) from (HO_0.out.1 _ rfl))
   (first | simp only [add_plain] at qJ | skip)
   (first | simp only [add_plain] at qK | skip)
   obtain ⟨aIR, aIS⟩ := Kd.R_celln 0 HO_0.out (gF : Int) p8 q8
   replace p8 := Kp p8
   replace q8 := Kp q8
   have aFv := Kd.R_putn HO_0.out (gF : Int) (rd aK aE)
   rw [← aIN.out] at aFv
   have aFw := Ya.mk aFv
   clear aFv
   have p9 : 0 ≤ (aE : Int) := Km Zc
   have q9 : (aE : Int) < ((aK.length : Int) : Int) := Km Zc
   obtain ⟨aIT, aIU⟩ := Kd.R_celln 0 aFw.out (aE : Int) p9 q9
   replace p9 := Kp p9
   replace q9 := Kp q9
   have aFx := Kd.R_putn aFw.out (aE : Int) (rd aK gF)
   rw [← aIP.out] at aFx
   have aIV := Ya.mk aFx
   clear aFx
   refine Ydh (n := 16) (S := fun w' => w'.cell? ⟨go8, (aE).toNat, none⟩ = some (.int .u8 (rd aK aE)) ∧ w'.cell? ⟨go8, (gF).toNat, none⟩ = some (.int .u8 (rd aK gF))) (ds := [13, 15]) #[false, false, false, false, false, false, false, false, false, false, false, false, false, false, false, false] Zi rfl rfl ⟨qJ, qK⟩ (fun hHeld => ?_); refine Yzg Yn.tab3 Yn.bits3 (fun HT_ HW_ => ?_)
   generalize wr.drew = qZ at HO_0 HK HB GG8 aFw aIV aIS aIU qJ qK aIR aIT hHeld ⊢
   refine Yjb (i := 0) (N := some 14) (v := ?_) (a' := ?_) #[true, false, false, false, false, false, false, false, false, false, false, false, false, false, false, false] rfl rfl (Yfb HT_.out Zi) (fun _ _ _ h => h) (Or.inl ⟨Zda, ?_⟩) ?_ ?_
   rotate_left
   ·exact Zsb
   rotate_left
   ·exact Ztb
   refine Yjb (i := 1) (N := some 15) (v := ?_) (a' := ?_) #[true, true, false, false, false, false, false, false, false, false, false, false, false, false, false, false] rfl rfl (Yfb HT_.out Zi) (fun _ _ _ h => h) (Or.inl ⟨Zda, ?_⟩) ?_ ?_
   rotate_left
   ·exact Zsb
   rotate_left
   ·exact Ztb
   refine Yjb (i := 2) (N := some 16) (v := ?_) (a' := ?_) #[true, true, true, false, false, false, false, false, false, false, false, false, false, false, false, false] rfl rfl (Yfb HT_.out Zi) (fun _ _ _ h => h) (Or.inl ⟨Zda, ?_⟩) ?_ ?_
   rotate_left
   ·exact Zsb
   rotate_left
   ·exact Ztb
   refine Yjb (i := 3) (N := some 17) (v := ?_) (a' := ?_) #[true, true, true, true, false, false, false, false, false, false, false, false, false, false, false, false] rfl rfl (Yfb HT_.out Zi) (fun _ _ _ h => h) (Or.inl ⟨Zda, ?_⟩) ?_ ?_
   rotate_left
   ·exact Zsb
   rotate_left
   ·exact Ztb
   refine Yjb (i := 4) (N := some 18) (v := ?_) (a' := ?_) #[true, true, true, true, true, false, false, false, false, false, false, false, false, false, false, false] rfl rfl (Yfb HT_.out Zi) (fun _ _ _ h => h) (Or.inl ⟨Zda, ?_⟩) ?_ ?_
   rotate_left
   ·exact Zsb
   rotate_left
   ·exact Ztb
   refine Yjb (i := 5) (N := some 19) (v := ?_) (a' := ?_) #[true, true, true, true, true, true, false, false, false, false, false, false, false, false, false, false] rfl rfl (Yfb HT_.out Zi) (fun _ _ _ h => h) (Or.inl ⟨Zda, ?_⟩) ?_ ?_
   rotate_left
   ·exact Zsb
   rotate_left
   ·exact Ztb
   refine Yjb (i := 6) (N := some 20) (v := ?_) (a' := ?_) #[true, true, true, true, true, true, true, false, false, false, false, false, false, false, false, false] rfl rfl (Yfb HT_.out Zi) (fun _ _ _ h => h) (Or.inl ⟨Zda, ?_⟩) ?_ ?_
   rotate_left
   ·exact Zsb
   rotate_left
   ·exact Ztb
   refine Yjb (i := 8) (N := some 22) (v := ?_) (a' := ?_) #[true, true, true, true, true, true, true, false, true, false, false, false, false, false, false, false] rfl rfl (Yfb HT_.out Zi) (fun _ _ _ h => h) (Or.inl ⟨Zda, ?_⟩) ?_ ?_
   rotate_left
   ·exact Zsb
   rotate_left
   ·exact Ztb
   refine Yjb (i := 9) (N := some 23) (v := ?_) (a' := ?_) #[true, true, true, true, true, true, true, false, true, true, false, false, false, false, false, false] rfl rfl (Yfb HT_.out Zi) (fun _ _ _ h => h) (Or.inl ⟨Zda, ?_⟩) ?_ ?_
   rotate_left
   ·exact Zsb
   rotate_left
   ·exact Ztb
   refine Yjb (i := 10) (N := some 24) (v := ?_) (a' := ?_) #[true, true, true, true, true, true, true, false, true, true, true, false, false, false, false, false] rfl rfl (Yfb HT_.out Zi) (fun _ _ _ h => h) (Or.inl ⟨Zda, ?_⟩) ?_ ?_
   rotate_left
   ·exact Zsb
   rotate_left
   ·exact Ztb
   refine Yxf (i := 7) (N := some 21) (v := ?_) (a' := ?_) #[true, true, true, true, true, true, true, true, true, true, true, false, false, false, false, false] rfl rfl (Yif HT_.out HW_.out Zi) (fun _ _ _ h => h) (Or.inl ⟨Zda, ?_⟩) hHeld ?_ ?_
   rotate_left
   ·exact Zub
   rotate_left
   ·exact Ztb
   refine Yxf (i := 11) (N := some 25) (v := ?_) (a' := ?_) #[true, true, true, true, true, true, true, true, true, true, true, true, false, false, false, false] rfl rfl (Yif HT_.out HW_.out Zi) (fun _ _ _ h => h) (Or.inl ⟨Zda, ?_⟩) hHeld ?_ ?_
   rotate_left
   ·exact Zub
   rotate_left
   ·exact Ztb
   refine Yjb (i := 12) (N := some 26) (v := ?_) (a' := ?_) #[true, true, true, true, true, true, true, true, true, true, true, true, true, false, false, false] rfl rfl (Yfb HT_.out Zi) (fun _ _ _ h => h) (Or.inl ⟨Zda, ?_⟩) ?_ ?_
   rotate_left
   ·exact Zsb
   rotate_left
   ·exact Ztb
   refine Ynp (i := 13) (N := none) #[true, true, true, true, true, true, true, true, true, true, true, true, true, true, false, false] rfl rfl (Yhg HT_.out Zi) Zw (fun K hK => ?_)
   refine Ygp (w1 := ?_) Zda rfl ?_ ?_
   rotate_left
   ·go_simp
    rfl
   refine hK.out _ _ ?_
   clear hK K
   refine Yjb (i := 14) (N := some 27) (v := ?_) (a' := ?_) #[true, true, true, true, true, true, true, true, true, true, true, true, true, true, true, false] rfl rfl (Yfb HT_.out Zi) (fun _ _ _ h => h) (Or.inl ⟨Zda, ?_⟩) ?_ ?_
   rotate_left
   ·exact Zsb
   rotate_left
   ·exact Ztb
   refine Ynp (i := 15) (N := none) #[true, true, true, true, true, true, true, true, true, true, true, true, true, true, true, true] rfl rfl (Yhg HT_.out Zi) Zw (fun K hK => ?_)
   refine Ygp (w1 := ?_) Zda rfl ?_ ?_
   rotate_left
   ·go_simp
    rfl
   refine hK.out _ _ ?_
   clear hK K
   refine Yoi (Yti HT_.out Zi) ?_
   try go_wp2
   (try simp only [← sD])
   go_roundg k1
   case measure => have := cC.out; omega
   case rel => exact ⟨(aIO), (wrap64 (gF + 1)), (wrap64 (aE - 1)), Zf, Zf, H', ⟨Zu⟩, ⟨by (try simp only [sD]); (with_reducible repeat (first | apply Kd.R_alloc | apply Kd.R_drewN | apply Kd.R_drew)); exact aIV.out⟩, ⟨by repeat (first | (with_reducible first | exact HK.out | apply Kept.alloc | apply Kept.drewN | apply Kept.drew | refine Kept.setCell ?_ aEs.out _ | refine Kept.setCell ?_ aEs.out _) | exact HK.out)⟩, ⟨by repeat (first | (with_reducible first | exact HB.out | apply Yd | apply Yb | apply Yc | refine Yg ?_ GB8.out | refine Yg ?_ GB8.out) | exact HB.out)⟩⟩
end Go.Proofs.YtihaeeldgimdiaaGreatDoor.X
