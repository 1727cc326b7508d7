import Derived.Test.YtihaeeldgimdiaaGreatDoorIUX3
set_option linter.all false
namespace Go.Proofs.YtihaeeldgimdiaaGreatDoor.X
open Go.RowKit Go.Yw.PrintWords Go.Yw.PrintLast Go.Yw.PrintMore
attribute [local go_sem] Yxd Yvd Yze Yye Ymd Yld Yyd Ywd
set_option maxHeartbeats 8000000
set_option maxRecDepth 100000
mutual
def Ypb.j0 : Nat → Int → Int → Int → Option (Y)
 | 0, _, _, _ => none
 | k + 1, x0, x1, x5 => Ypb.l0 k x0 x1 x5 ([] : List Int)
def Ypb.l0 : Nat → Int → Int → Int → List Int → Option (Y)
 | 0, _, _, _, _ => none
 | k + 1, x0, x1, x5, x6 => if x5 > 0 then (if x6.length < 140737488355328 then (Ypb.l0 k x0 x1 (IntKind.u64.wrap (Int.tdiv x5 10)) (x6 ++ [(IntKind.u64.wrap (48 + (Int.tmod x5 10))) % 256])) else (none)) else (if (x6.length : Int) < (mx (mn x1 20) 1) then (if x6.length < 140737488355328 then (Ypb.l0 k x0 x1 (IntKind.u64.wrap (Int.tdiv x5 10)) (x6 ++ [(IntKind.u64.wrap (48 + (Int.tmod x5 10))) % 256])) else (none)) else (if x0 < 0 then (if x6.length < 140737488355328 then ((Yn.f k (x6 ++ [45])).bind fun t146 => (some (strOfNums t146))) else (none)) else ((Yn.f k x6).bind fun uP => (some (strOfNums uP)))))
end
def Ypb.f (k : Nat) (a0 a1 : Int) : Option (Y) := if a0 < 0 then (Ypb.j0 k a0 a1 (IntKind.u64.wrap (-(IntKind.u64.wrap (a0))))) else (Ypb.j0 k a0 a1 (IntKind.u64.wrap (a0)))
theorem Ypb.calls (k : Nat) (a0 a1 : Int) (r : Y) (w : World) (hE : EnvOk w) (h : Ypb.f k a0 a1 = some r) :
  Calls Tryz.prog 50 #[.int .i64 a0, .int .i64 a1] w fun e w' => e = .returned (.string r) ∧ Below w.heap.size w w' := by
 have HE := Ya.mk hE
 clear hE
 have HB := Ya.mk (Below.refl w.heap.size w)
 have H : (if a0 < 0 then (Ypb.j0 k a0 a1 (IntKind.u64.wrap (-(IntKind.u64.wrap (a0))))) else (Ypb.j0 k a0 a1 (IntKind.u64.wrap (a0)))) = some r := h
 clear h
 have uQ := Ya.mk H
 clear H
 go_enter Tryz.func50, Tryz.ntmps50
 go_upto_if 10 with (fail)
 go_cut [5] (fun v5 wc => ∃ (kq : Nat) (dH : Int), v5 = .int .u64 dH ∧ Ya (Ypb.j0 kq a0 a1 dH = some r) ∧ Ya (kq ≤ k) ∧ Ya (Below w.heap.size w wc))
 case first =>
  have H := uQ.out
  clear uQ
  by_cases c4 : a0 < 0
  rotate_left
  ·rw [if_neg c4] at H
   have bM : decide (a0 < 0) = false := Ko c4
   clear c4
   (first | rw [bM] | (simp only [Yha, Yka]; rw [bM]) | skip)
   have H' := Ya.mk H
   clear H
   go_wp2
   go_meet
   case rel => exact ⟨_, (IntKind.u64.wrap (a0)), Zf, H', ⟨Zka⟩, ⟨Za⟩⟩
  rw [if_pos c4] at H
  have bM : decide (a0 < 0) = true := Kn c4
  clear c4
  (first | rw [bM] | (simp only [Yha, Yka]; rw [bM]) | skip)
  have H' := Ya.mk H
  clear H
  go_wp2
  go_meet
  case rel => exact ⟨_, (IntKind.u64.wrap (-(IntKind.u64.wrap (a0)))), Zf, H', ⟨Zka⟩, ⟨Za⟩⟩
 case rest =>
  clear uQ
  obtain ⟨kq, dH, rfl, HA, tW, HB⟩ := hcut
  cases kq with
  | zero => exact absurd HA.out (by simp [Ypb.j0])
  | succ pH =>
   have H := HA.out
   clear HA
   simp only [Ypb.j0] at H
   have H' := Ya.mk H
   clear H
   go_wp2
   go_loopg [5, 6] pH (fun kq v5 v6 w' => ∃ (dH : Int) (cF : List Int), v5 = .int .u64 dH ∧ Ya (Ypb.l0 kq a0 a1 dH cF = some r) ∧ Ya (kq ≤ pH) ∧ Ya (Kd.R (Kd.int .u8) 5 w' w.heap.size (fun _ => True) v6 cF) ∧ Ya (Below w.heap.size w w'))
   case atStart => exact ⟨(dH), (([] : List Int)), Zf, H', ⟨Ks _⟩, ⟨Zv⟩, ⟨Za⟩⟩
   case round =>
    clear H'
    try clear p2
    try clear c4
    try clear bM
    try clear p2
    obtain ⟨dH, cF, rfl, HA, kU, HO_6, HB⟩ := hrel
    cases gk with
    | zero => exact absurd HA.out (by simp [Ypb.l0])
    | succ k2 =>
     have H := HA.out
     clear HA
     simp only [Ypb.l0] at H
     by_cases c5 : dH > 0
     ·rw [if_pos c5] at H
      have dG : decide (0 < dH) = true := Kn c5
      clear c5
      by_cases c6 : cF.length < 140737488355328
      rotate_left
      ·rw [if_neg c6] at H
       exact absurd H Zq
      rw [if_pos c6] at H
      have aWI := Ya.mk c6
      clear c6
      obtain ⟨aIW, sG⟩ : ∃ y_ : List Int, y_ = (cF ++ [(IntKind.u64.wrap (48 + (Int.tmod dH 10))) % 256]) := ⟨_, rfl⟩
      replace H : (Ypb.l0 k2 a0 a1 (IntKind.u64.wrap (Int.tdiv dH 10)) aIW) = some r := by first | (rw [sG]; with_reducible exact H) | (have cO := (Kba _ _).symm.trans H; rw [sG]; with_reducible exact cO) | (have cO := (Kba _ _).symm.trans H; with_reducible exact cO) | with_reducible exact H | (rw [sG]; exact H) | exact H
      have aIX := Ya.mk sG
      clear sG
      have H' := Ya.mk H
      clear H
      go_wp2_with (first | ((with_reducible refine Yic (b := .append) (xs := #[.tmp 23, .tmp 28]) rfl ?_); (try (refine Yah Zda ?_; dsimp only)); at_builtin; refine Kd.R_append (Kd.int .u8) (w0 := w) w.heap.size rfl (.tmp 23) (.tmp 28) 67 5 (.int .u8 0) 1 rfl Tryz.underlying67 Yaj rfl Zw Zj u6 cF ((IntKind.u64.wrap (48 + (Int.tmod dH 10))) % 256) [.int .u8 ((IntKind.u64.wrap (48 + (Int.tmod dH 10))) % 256)] (fun _ => True) (fun _ => False) rfl rfl ?aP (fun _ hk => hk.elim) ?aF ?aO ?aB ?aS ?aL ?_; (case aP => exact rfl); (case aB => exact Za); (case aF => exact (fun _ _ => trivial)); (case aO => exact Zya); (case aS => exact Ki); (case aL => have := aWI.out; omega); intro v138 w7 ho hb hg hat; rw [← aIX.out] at ho; replace HB := Ya.mk (hb); have aIY := Ya.mk (ho); clear HO_6; clear ho hb hg hat))
      go_roundg k2
      case measure => have := tW.out; have := kU.out; omega
      case rel => exact ⟨(IntKind.u64.wrap (Int.tdiv dH 10)), (aIW), Zf, H', ⟨Zhb⟩, ⟨by (with_reducible repeat (first | apply Kd.R_alloc | apply Kd.R_drewN | apply Kd.R_drew)); exact aIY.out⟩, ⟨Za⟩⟩
     rw [if_neg c5] at H
     have dG : decide (0 < dH) = false := Ko c5
     clear c5
     obtain ⟨ji8, lE⟩ : ∃ j_ : Int, (mn a1 20) = j_ := ⟨_, rfl⟩
     replace H : (if (cF.length : Int) < (mx (ji8) 1) then (if cF.length < 140737488355328 then (Ypb.l0 k2 a0 a1 (IntKind.u64.wrap (Int.tdiv dH 10)) (cF ++ [(IntKind.u64.wrap (48 + (Int.tmod dH 10))) % 256])) else (none)) else (if a0 < 0 then (if cF.length < 140737488355328 then ((Yn.f k2 (cF ++ [45])).bind fun t146 => (some (strOfNums t146))) else (none)) else ((Yn.f k2 cF).bind fun uP => (some (strOfNums uP))))) = some r := by first | (rw [lE] at H; exact H) | (simp only [lE] at H ⊢; exact H)
     have aIZ : (if 20 < a1 then 20 else a1) = ji8 := lE
     obtain ⟨ji9, oU⟩ : ∃ j_ : Int, (mx (ji8) 1) = j_ := ⟨_, rfl⟩
     replace H : (if (cF.length : Int) < (ji9) then (if cF.length < 140737488355328 then (Ypb.l0 k2 a0 a1 (IntKind.u64.wrap (Int.tdiv dH 10)) (cF ++ [(IntKind.u64.wrap (48 + (Int.tmod dH 10))) % 256])) else (none)) else (if a0 < 0 then (if cF.length < 140737488355328 then ((Yn.f k2 (cF ++ [45])).bind fun t146 => (some (strOfNums t146))) else (none)) else ((Yn.f k2 cF).bind fun uP => (some (strOfNums uP))))) = some r := by first | (rw [oU] at H; exact H) | (simp only [oU] at H ⊢; exact H)
     have aJa : (if (ji8) < 1 then 1 else (ji8)) = ji9 := oU
     by_cases dK : (cF.length : Int) < (ji9)
     ·rw [if_pos dK] at H
      have iJ : decide ((cF.length : Int) < (ji9)) = true := Kn dK
      clear dK
      by_cases bK : cF.length < 140737488355328
      rotate_left
      ·rw [if_neg bK] at H
       exact absurd H Zq
      rw [if_pos bK] at H
      have aAT := Ya.mk bK
      clear bK
      obtain ⟨aJb, sH⟩ : ∃ y_ : List Int, y_ = (cF ++ [(IntKind.u64.wrap (48 + (Int.tmod dH 10))) % 256]) := ⟨_, rfl⟩
      replace H : (Ypb.l0 k2 a0 a1 (IntKind.u64.wrap (Int.tdiv dH 10)) aJb) = some r := by first | (rw [sH]; with_reducible exact H) | (have cO := (Kba _ _).symm.trans H; rw [sH]; with_reducible exact cO) | (have cO := (Kba _ _).symm.trans H; with_reducible exact cO) | with_reducible exact H | (rw [sH]; exact H) | exact H
      have aJc := Ya.mk sH
      clear sH
      have H' := Ya.mk H
      clear H
      obtain ⟨aWJ, aWK, aWL⟩ := Kd.R_slice HO_6.out
      subst aWL
      go_wp2_with (first | ((with_reducible refine Yic (b := .append) (xs := #[.tmp 23, .tmp 28]) rfl ?_); (try (refine Yah Zda ?_; dsimp only)); at_builtin; refine Kd.R_append (Kd.int .u8) (w0 := w) w.heap.size rfl (.tmp 23) (.tmp 28) 67 5 (.int .u8 0) 1 rfl Tryz.underlying67 Yaj rfl Zw Zj (.slice aWJ cF.length aWK) cF ((IntKind.u64.wrap (48 + (Int.tmod dH 10))) % 256) [.int .u8 ((IntKind.u64.wrap (48 + (Int.tmod dH 10))) % 256)] (fun _ => True) (fun _ => False) rfl rfl ?aP (fun _ hk => hk.elim) ?aF ?aO ?aB ?aS ?aL ?_; (case aP => exact rfl); (case aB => exact Za); (case aF => exact (fun _ _ => trivial)); (case aO => exact Zya); (case aS => exact Ki); (case aL => have := aAT.out; omega); intro aZV mW ho hb hg hat; rw [← aJc.out] at ho; replace HB := Ya.mk (hb); have aJd := Ya.mk (ho); clear HO_6; clear ho hb hg hat))
      go_roundg k2
      case measure => have := tW.out; have := kU.out; omega
      case rel => exact ⟨(IntKind.u64.wrap (Int.tdiv dH 10)), (aJb), Zf, H', ⟨Zhb⟩, ⟨by (with_reducible repeat (first | apply Kd.R_alloc | apply Kd.R_drewN | apply Kd.R_drew)); exact aJd.out⟩, ⟨Za⟩⟩
     rw [if_neg dK] at H
     have iJ : decide ((cF.length : Int) < (ji9)) = false := Ko dK
     clear dK
     by_cases cD : a0 < 0
     rotate_left
     ·rw [if_neg cD] at H
      have gC : decide (a0 < 0) = false := Ko cD
      clear cD
      obtain ⟨uP, aAU, H⟩ := Kq H
      try dsimp -simprocs only at H
      have A22 := Ya.mk aAU
      clear aAU
      obtain rfl := Kr H
      obtain ⟨aFy, aFz, aWM⟩ := Kd.R_slice HO_6.out
      subst aWM
      go_wp2_with (first | ((with_reducible refine Yh (f := 81) rfl ?_); refine Yy (some 38) rfl rfl Tryz.func81 Zi rfl #[.slice aFy cF.length aFz] rfl Zb ?_; (with_reducible refine (Yn.calls k2 (fun k_ => some k_ = (.slice aFy cF.length aFz : Value).ownBlock) (.slice aFy cF.length aFz) cF uP w _ ?z1 ?z2 ?z3 A22.out).mono ?_); (case z1 => exact HE.out); (case z2 => repeat (first | (with_reducible first | exact HB.out | apply Yd | apply Yb | apply Yc) | exact HB.out)); (case z3 => exact Kd.R_tight rfl HO_6.out); rintro e w24 ⟨rfl, hy0, hb, hkp⟩; refine ⟨_, rfl, ?_⟩; replace HO_6 := Ya.mk (Kd.R_reok rfl hy0 (fun k_ e_ => HO_6.out.1 k_ e_)); replace HB := Ya.mk (hb); (try clear hb); (try clear hkp); (try clear hy0); have aYU := Yzf (P := Tryz.prog) Tryz.underlying67 Tryz.underlying5 Tryz.underlying9 (Kd.own_of_R HO_6.out)))
      go_ret
      exact ⟨by first | rfl | (simp [Ym, Yl] <;> rfl) | (simp only [← lE, ← oU]; first | rfl | (simp [Ym, Yl] <;> rfl)) | (simp [*, Ym, Yl] <;> rfl), Za⟩
     rw [if_pos cD] at H
     have gC : decide (a0 < 0) = true := Kn cD
     clear cD
     by_cases bN : cF.length < 140737488355328
     rotate_left
     ·rw [if_neg bN] at H
      exact absurd H Zq
     rw [if_pos bN] at H
     have aJg := Ya.mk bN
     clear bN
     obtain ⟨aAV, sI⟩ : ∃ y_ : List Int, y_ = (cF ++ [45]) := ⟨_, rfl⟩
     replace H : ((Yn.f k2 aAV).bind fun t146 => (some (strOfNums t146))) = some r := by first | (rw [sI]; with_reducible exact H) | (have cO := (Kba _ _).symm.trans H; rw [sI]; with_reducible exact cO) | (have cO := (Kba _ _).symm.trans H; with_reducible exact cO) | with_reducible exact H | (rw [sI]; exact H) | exact H
     have aJh := Ya.mk sI
     clear sI
     obtain ⟨t146, aAW, H⟩ := Kq H
     try dsimp -simprocs only at H
     have A16 := Ya.mk aAW
     clear aAW
     obtain rfl := Kr H
     obtain ⟨aWN, aWO, aWP⟩ := Kd.R_slice HO_6.out
     subst aWP
     go_wp2_with (first | ((with_reducible refine Yic (b := .append) (xs := #[.tmp 34, .tmp 35]) rfl ?_); (try (refine Yah Zda ?_; dsimp only)); at_builtin; refine Kd.R_append (Kd.int .u8) (w0 := w) w.heap.size rfl (.tmp 34) (.tmp 35) 67 5 (.int .u8 0) 1 rfl Tryz.underlying67 Yaj rfl Zw Zj (.slice aWN cF.length aWO) cF 45 [.int .u8 45] (fun _ => True) (fun _ => False) rfl rfl ?aP (fun _ hk => hk.elim) ?aF ?aO ?aB ?aS ?aL ?_; (case aP => exact rfl); (case aB => exact Za); (case aF => exact (fun _ _ => trivial)); (case aO => exact Zya); (case aS => exact Ki); (case aL => have := aJg.out; omega); intro aZW w18 ho hb hg hat; rw [← aJh.out] at ho; replace HB := Ya.mk (hb); have pI := Ya.mk (ho); clear HO_6; clear ho hb hg hat; obtain ⟨aFA, aFB, aWQ⟩ := Kd.R_slice pI.out; subst aWQ) | ((with_reducible refine Yh (f := 81) rfl ?_); refine Yy (some 38) rfl rfl Tryz.func81 Zi rfl #[.slice aFA aAV.length aFB] rfl Zb ?_; (with_reducible refine (Yn.calls k2 (fun k_ => some k_ = (.slice aFA aAV.length aFB : Value).ownBlock) (.slice aFA aAV.length aFB) aAV t146 w _ ?z1 ?z2 ?z3 A16.out).mono ?_); (case z1 => exact HE.out); (case z2 => repeat (first | (with_reducible first | exact HB.out | apply Yd | apply Yb | apply Yc) | exact HB.out)); (case z3 => exact Kd.R_tight rfl pI.out); rintro e w20 ⟨rfl, hy0, hb, hkp⟩; refine ⟨_, rfl, ?_⟩; replace pI := Ya.mk (Kd.R_reok rfl hy0 (fun k_ e_ => pI.out.1 k_ e_)); replace HB := Ya.mk (hb); (try clear hb); (try clear hkp); (try clear hy0); have aYV := Yzf (P := Tryz.prog) Tryz.underlying67 Tryz.underlying5 Tryz.underlying9 (Kd.own_of_R pI.out)))
     go_ret
     exact ⟨by first | rfl | (simp [Ym, Yl] <;> rfl) | (simp only [← lE, ← oU]; first | rfl | (simp [Ym, Yl] <;> rfl)) | (simp [*, Ym, Yl] <;> rfl), Za⟩
def Ysd.f (k : Nat) (a0 : Int) : Option (Y) := (Ypb.f k a0 1).bind fun aAX => (some aAX)
theorem Ysd.calls (k : Nat) (a0 : Int) (r : Y) (w : World) (hE : EnvOk w) (h : Ysd.f k a0 = some r) :
  Calls Tryz.prog 28 #[.int .i64 a0] w fun e w' => e = .returned (.string r) ∧ Below w.heap.size w w' := by
 have HE := Ya.mk hE
 clear hE
 have HB := Ya.mk (Below.refl w.heap.size w)
 have H : ((Ypb.f k a0 1).bind fun aAX => (some aAX)) = some r := h
 clear h
 obtain ⟨aAX, dX, H⟩ := Kq H
 try dsimp -simprocs only at H
 have A2 := Ya.mk dX
 clear dX
 obtain rfl := Kr H
 go_enter Tryz.func28, Tryz.ntmps28
 go_wp2_with (first | ((with_reducible refine Yh (f := 50) rfl ?_); refine Yy (some 4) rfl rfl Tryz.func50 Zi rfl #[.int .i64 a0, .int .i64 1] rfl Zb ?_; (with_reducible refine (Ypb.calls k a0 1 aAX _ ?z1 A2.out).mono ?_); (case z1 => exact Kh); rintro e w3 ⟨rfl, hb⟩; refine ⟨_, rfl, ?_⟩; replace HB := Ya.mk (Ys Za hb); (try clear hb)))
 go_ret
 exact ⟨Zk, Za⟩
def Yhe.f (k : Nat) (a0 : Y) : Option (Bool) := (Yaa.f k a0 255).bind fun sJ => (if sJ.2 = 0 then ((Ysd.f k sJ.1).bind fun aAY => (some (aAY.toList == a0.toList))) else (some false))
theorem Yhe.calls (k : Nat) (a0 : Y) (r : Bool) (w : World) (hE : EnvOk w) (h : Yhe.f k a0 = some r) :
  Calls Tryz.prog 129 #[.string a0] w fun e w' => e = .returned (.bool r) ∧ Below w.heap.size w w' := by
 have HE := Ya.mk hE
 clear hE
 have HB := Ya.mk (Below.refl w.heap.size w)
 have H : ((Yaa.f k a0 255).bind fun sJ => (if sJ.2 = 0 then ((Ysd.f k sJ.1).bind fun aAY => (some (aAY.toList == a0.toList))) else (some false))) = some r := h
 clear h
 obtain ⟨⟨aFC, uR⟩, dX, H⟩ := Kq H
 try dsimp -simprocs only at H
 have A2 := Ya.mk dX
 clear dX
 by_cases c3 : uR = 0
 rotate_left
 ·rw [if_neg c3] at H
  have bV : (uR == 0) = false := Kv c3
  have dY : (uR != 0) = true := Kw c3
  obtain rfl := Kr H
  go_enter Tryz.func129, Tryz.ntmps129
  go_wp2_with (first | ((with_reducible refine Yh (f := 75) rfl ?_); refine Yy (some 7) rfl rfl Tryz.func75 Zi rfl #[.string a0, .int .i64 255] rfl Zb ?_; (with_reducible refine (Yaa.calls k a0 255 aFC uR _ ?z1 A2.out).mono ?_); (case z1 => exact Kh); rintro e w' ⟨rfl, ⟨nd, rfl⟩⟩; refine ⟨_, rfl, ?_⟩))
  go_ret
  exact ⟨Zk, Za⟩
 rw [if_pos c3] at H
 have bV : (uR == 0) = true := Kx c3
 have dY : (uR != 0) = false := Ku c3
 clear c3
 obtain ⟨aAY, xQ, H⟩ := Kq H
 try dsimp -simprocs only at H
 have A4 := Ya.mk xQ
 clear xQ
 obtain rfl := Kr H
 go_enter Tryz.func129, Tryz.ntmps129
 go_wp2_with (first | ((with_reducible refine Yh (f := 75) rfl ?_); refine Yy (some 7) rfl rfl Tryz.func75 Zi rfl #[.string a0, .int .i64 255] rfl Zb ?_; (with_reducible refine (Yaa.calls k a0 255 aFC uR _ ?z1 A2.out).mono ?_); (case z1 => exact Kh); rintro e w' ⟨rfl, ⟨nd, rfl⟩⟩; refine ⟨_, rfl, ?_⟩) | (go_at_call 28; (with_reducible refine (Ysd.calls k aFC aAY _ ?z1 A4.out).mono ?_); (case z1 => exact Kh); rintro e w5 ⟨rfl, hb⟩; replace HB := Ya.mk (Ys Za hb); (try clear hb)))
 go_ret
 exact ⟨Zk, Za⟩
def Ydb.l0 : Nat → Y → List Y → Bool → List Y → Int → Int → Option (Bool)
 | 0, _, _, _, _, _, _ => none
 | k + 1, x0, x3, x4, nG, zW, iR => if iR < zW then (if 0 ≤ iR then (if iR < (nG.length : Int) then ((Ygb.f k (rdOf ByteArray.empty nG iR)).bind fun aFD => (if aFD = true then (if x4 = true then ((Yhe.f k (rdOf ByteArray.empty nG iR)).bind fun aCM => (Ydb.l0 k x0 x3 aCM nG zW (wrap64 (iR + 1)))) else (Ydb.l0 k x0 x3 false nG zW (wrap64 (iR + 1)))) else (some false))) else (none)) else (none)) else (if 0 ≤ (wrap64 ((x3.length : Int) - 1)) then (if (wrap64 ((x3.length : Int) - 1)) < (x3.length : Int) then ((Yaa.f k (rdOf ByteArray.empty x3 (wrap64 ((x3.length : Int) - 1))) 0).bind fun aAZ => (if (x0.size : Int) ≤ 253 then (if aAZ.2 = 3 then (some true) else (some x4)) else (some false))) else (none)) else (none))
def Ydb.f (k : Nat) (a0 : Y) : Option (Bool) := (Yab.f k a0 46).bind fun cQ => (Ydb.l0 k a0 cQ ((cQ.length : Int) == 4) cQ (cQ.length : Int) 0)
theorem Ydb.calls (k : Nat) (a0 : Y) (r : Bool) (w : World) (hE : EnvOk w) (h : Ydb.f k a0 = some r) :
  Calls Tryz.prog 105 #[.string a0] w fun e w' => e = .returned (.bool r) ∧ Below w.heap.size w w' := by
 have HE := Ya.mk hE
 clear hE
 have HB := Ya.mk (Below.refl w.heap.size w)
 have H : ((Yab.f k a0 46).bind fun cQ => (Ydb.l0 k a0 cQ ((cQ.length : Int) == 4) cQ (cQ.length : Int) 0)) = some r := h
 clear h
 obtain ⟨cQ, dX, H⟩ := Kq H
 try dsimp -simprocs only at H
 have A2 := Ya.mk dX
 clear dX
 have H' := Ya.mk H
 clear H
 go_enter Tryz.func105, Tryz.ntmps105
 go_wp2_with (first | ((with_reducible refine Yh (f := 106) rfl ?_); refine Yy (some 10) rfl rfl Tryz.func106 Zi rfl #[.string a0, .int .u8 46] rfl Zb ?_; (with_reducible refine (Yab.calls k a0 46 cQ _ ?z1 A2.out).mono ?_); (case z1 => exact Kh); rintro e w3 ⟨aZX, rfl, oQ, hb⟩; refine ⟨_, rfl, ?_⟩; have aBa := Ya.mk (Kd.R_lower oQ (Yna Za)); replace HB := Ya.mk (Ys Za hb); (try clear hb); (try clear oQ); obtain ⟨Ao4, co4, eo4⟩ := Kd.R_slice aBa.out; subst eo4))
 go_loopg [4, 16] k (fun kq v4 v16 w' => ∃ (aC : Bool) (aA : Int), v4 = .bool aC ∧ v16 = .int .i64 aA ∧ Ya (Ydb.l0 kq a0 cQ aC cQ (cQ.length : Int) aA = some r) ∧ Ya (kq ≤ k) ∧ Ya (Kd.R Kd.string 9 w' w.heap.size (fun _ => True) (.slice Ao4 cQ.length co4) cQ) ∧ Ya (Kd.R Kd.string 9 w' w.heap.size (fun _ => True) (.slice Ao4 cQ.length co4) cQ) ∧ Ya (Below w.heap.size w w'))
 case atStart => exact ⟨(((cQ.length : Int) == 4)), (0), Zf, Zf, H', ⟨Ks _⟩, ⟨by (with_reducible repeat (first | apply Kd.R_alloc | apply Kd.R_drewN | apply Kd.R_drew)); exact aBa.out⟩, ⟨by (with_reducible repeat (first | apply Kd.R_alloc | apply Kd.R_drewN | apply Kd.R_drew)); exact aBa.out⟩, ⟨Za⟩⟩
 case round =>
  clear H'
  try clear c1
  try clear p2
  obtain ⟨aC, aA, rfl, rfl, HA, cC, HO_3, HO_14, HB⟩ := hrel
  cases gk with
  | zero => exact absurd HA.out (by simp [Ydb.l0])
  | succ k1 =>
   have H := HA.out
   clear HA
   simp only [Ydb.l0] at H
   by_cases c5 : aA < (cQ.length : Int)
   rotate_left
   ·rw [if_neg c5] at H
    have dG : decide (aA < (cQ.length : Int)) = false := Ko c5
    clear c5
    obtain ⟨ji13, rG⟩ : ∃ j_ : Int, (wrap64 ((cQ.length : Int) - 1)) = j_ := ⟨_, rfl⟩
    replace H : (if 0 ≤ (ji13) then (if (ji13) < (cQ.length : Int) then ((Yaa.f k1 (rdOf ByteArray.empty cQ (ji13)) 0).bind fun aAZ => (if (a0.size : Int) ≤ 253 then (if aAZ.2 = 3 then (some true) else (some aC)) else (some false))) else (none)) else (none)) = some r := by first | (rw [rG] at H; exact H) | (simp only [rG] at H ⊢; exact H)
    have hji13w : (IntKind.i64.wrap ((cQ.length : Int) - 1)) = ji13 := (Yha _).trans rG
    by_cases cD : 0 ≤ (ji13)
    rotate_left
    ·rw [if_neg cD] at H
     exact absurd H Zq
    rw [if_pos cD] at H
    have gC : decide (0 ≤ (ji13)) = true := Kn cD
    clear cD
    by_cases bN : (ji13) < (cQ.length : Int)
    rotate_left
    ·rw [if_neg bN] at H
     exact absurd H Zq
    rw [if_pos bN] at H
    have eA : decide ((ji13) < (cQ.length : Int)) = true := Kn bN
    clear bN
    obtain ⟨⟨uS, sK⟩, aAW, H⟩ := Kq H
    try dsimp -simprocs only at H
    have A16 := Ya.mk aAW
    clear aAW
    by_cases gG : (a0.size : Int) ≤ 253
    rotate_left
    ·rw [if_neg gG] at H
     have kI : decide ((a0.size : Int) ≤ 253) = false := Ko gG
     have mP : decide (a0.size ≤ 253) = false := Ko Zj
     clear gG
     obtain rfl := Kr H
     have nT : 0 ≤ ((ji13) : Int) := Km Zc
     have nU : (ji13) < (cQ.length : Int) := Km Zc
     obtain ⟨aEt, aBb, xR⟩ := Kd.at_string (Kd.R_reads' HO_3.out).2.2 (ji13) nT nU
     cases aBb
     replace nT := Kp nT
     replace nU := Kp nU
     go_wp2_with (first | ((with_reducible refine Yh (f := 75) rfl ?_); refine Yy (some 36) rfl rfl Tryz.func75 Zi rfl #[.string (rdOf ByteArray.empty cQ (ji13)), .int .i64 0] rfl Zba ?_; (with_reducible refine (Yaa.calls k1 (rdOf ByteArray.empty cQ (ji13)) 0 uS sK _ ?z1 A16.out).mono ?_); (case z1 => exact Kh); rintro e w' ⟨rfl, ⟨nd, rfl⟩⟩; refine ⟨_, rfl, ?_⟩))
     go_ret
     exact ⟨Zia, Za⟩
    rw [if_pos gG] at H
    have kI : decide ((a0.size : Int) ≤ 253) = true := Kn gG
    have mP : decide (a0.size ≤ 253) = true := Kn Zj
    clear gG
    by_cases dR : sK = 3
    rotate_left
    ·rw [if_neg dR] at H
     have lA : (sK == 3) = false := Kv dR
     have mO : (sK != 3) = true := Kw dR
     obtain rfl := Kr H
     have nT : 0 ≤ ((ji13) : Int) := Km Zc
     have nU : (ji13) < (cQ.length : Int) := Km Zc
     obtain ⟨aEt, aBb, xR⟩ := Kd.at_string (Kd.R_reads' HO_3.out).2.2 (ji13) nT nU
     cases aBb
     replace nT := Kp nT
     replace nU := Kp nU
     go_wp2_with (first | ((with_reducible refine Yh (f := 75) rfl ?_); refine Yy (some 36) rfl rfl Tryz.func75 Zi rfl #[.string (rdOf ByteArray.empty cQ (ji13)), .int .i64 0] rfl Zba ?_; (with_reducible refine (Yaa.calls k1 (rdOf ByteArray.empty cQ (ji13)) 0 uS sK _ ?z1 A16.out).mono ?_); (case z1 => exact Kh); rintro e w' ⟨rfl, ⟨nd, rfl⟩⟩; refine ⟨_, rfl, ?_⟩))
     go_ret
     exact ⟨Zia, Za⟩
    rw [if_pos dR] at H
    have lA : (sK == 3) = true := Kx dR
    have mO : (sK != 3) = false := Ku dR
    clear dR
    obtain rfl := Kr H
    have nT : 0 ≤ ((ji13) : Int) := Km Zc
    have nU : (ji13) < (cQ.length : Int) := Km Zc
    obtain ⟨aEt, aBb, xR⟩ := Kd.at_string (Kd.R_reads' HO_3.out).2.2 (ji13) nT nU
    cases aBb
    replace nT := Kp nT
    replace nU := Kp nU
    go_wp2_with (first | ((with_reducible refine Yh (f := 75) rfl ?_); refine Yy (some 36) rfl rfl Tryz.func75 Zi rfl #[.string (rdOf ByteArray.empty cQ (ji13)), .int .i64 0] rfl Zba ?_; (with_reducible refine (Yaa.calls k1 (rdOf ByteArray.empty cQ (ji13)) 0 uS sK _ ?z1 A16.out).mono ?_); (case z1 => exact Kh); rintro e w' ⟨rfl, ⟨nd, rfl⟩⟩; refine ⟨_, rfl, ?_⟩))
    go_ret
    exact ⟨Zia, Za⟩
   rw [if_pos c5] at H
   have dG : decide (aA < (cQ.length : Int)) = true := Kn c5
   clear c5
   by_cases c6 : 0 ≤ aA
   rotate_left
   ·rw [if_neg c6] at H
    exact absurd H Zq
   rw [if_pos c6] at H
   have dN : decide (0 ≤ aA) = true := Kn c6
   clear c6
   by_cases c7 : aA < (cQ.length : Int)
   rotate_left
   ·rw [if_neg c7] at H
    exact absurd H Zq
   rw [if_pos c7] at H
   have cM : decide (aA < (cQ.length : Int)) = true := Kn c7
   clear c7
   obtain ⟨aFD, xP, H⟩ := Kq H
   try dsimp -simprocs only at H
   have A8 := Ya.mk xP
   clear xP
   by_cases c9 : aFD = true
   rotate_left
   ·replace c9 := Kt c9
    subst c9
    rw [if_neg (show ¬ (false = true) by decide)] at H
    obtain rfl := Kr H
    have nV : 0 ≤ (aA : Int) := Km Zc
    have nW : aA < (cQ.length : Int) := Km Zc
    obtain ⟨aEu, aBc, xS⟩ := Kd.at_string (Kd.R_reads' HO_14.out).2.2 aA nV nW
    cases aBc
    replace nV := Kp nV
    replace nW := Kp nW
    go_wp2_with (first | ((with_reducible refine Yh (f := 128) rfl ?_); refine Yy (some 21) rfl rfl Tryz.func128 Zi rfl #[.string (rdOf ByteArray.empty cQ aA)] rfl Zb ?_; (with_reducible refine (Ygb.calls k1 (rdOf ByteArray.empty cQ aA) false _ ?z1 A8.out).mono ?_); (case z1 => exact Kh); rintro e w' ⟨rfl, ⟨nd, rfl⟩⟩; refine ⟨_, rfl, ?_⟩))
    go_ret
    exact ⟨Zk, Za⟩
   subst c9
   rw [if_pos rfl] at H
   by_cases dK : aC = true
   rotate_left
   ·replace dK := Kt dK
    subst dK
    rw [if_neg (show ¬ (false = true) by decide)] at H
    have H' := Ya.mk H
    clear H
    have nV : 0 ≤ (aA : Int) := Km Zc
    have nW : aA < (cQ.length : Int) := Km Zc
    obtain ⟨aEu, aBc, xS⟩ := Kd.at_string (Kd.R_reads' HO_14.out).2.2 aA nV nW
    cases aBc
    replace nV := Kp nV
    replace nW := Kp nW
    go_wp2_with (first | ((with_reducible refine Yh (f := 128) rfl ?_); refine Yy (some 21) rfl rfl Tryz.func128 Zi rfl #[.string (rdOf ByteArray.empty cQ aA)] rfl Zb ?_; (with_reducible refine (Ygb.calls k1 (rdOf ByteArray.empty cQ aA) true _ ?z1 A8.out).mono ?_); (case z1 => exact Kh); rintro e w' ⟨rfl, ⟨nd, rfl⟩⟩; refine ⟨_, rfl, ?_⟩))
    go_roundg k1
    case measure => have := cC.out; omega
    case rel => exact ⟨(false), (wrap64 (aA + 1)), Zf, Zf, H', ⟨Zu⟩, ⟨Zl⟩, ⟨Zwa⟩, ⟨Za⟩⟩
   subst dK
   rw [if_pos rfl] at H
   obtain ⟨aCM, aJj, H⟩ := Kq H
   try dsimp -simprocs only at H
   have cA := Ya.mk aJj
   clear aJj
   have H' := Ya.mk H
   clear H
   have nV : 0 ≤ (aA : Int) := Km Zc
   have nW : aA < (cQ.length : Int) := Km Zc
   obtain ⟨aEu, aBc, xS⟩ := Kd.at_string (Kd.R_reads' HO_14.out).2.2 aA nV nW
   cases aBc
   replace nV := Kp nV
   replace nW := Kp nW
   go_wp2_with (first | ((with_reducible refine Yh (f := 128) rfl ?_); refine Yy (some 21) rfl rfl Tryz.func128 Zi rfl #[.string (rdOf ByteArray.empty cQ aA)] rfl Zb ?_; (with_reducible refine (Ygb.calls k1 (rdOf ByteArray.empty cQ aA) true _ ?z1 A8.out).mono ?_); (case z1 => exact Kh); rintro e w' ⟨rfl, ⟨nd, rfl⟩⟩; refine ⟨_, rfl, ?_⟩) | (go_at_call 129; (with_reducible refine (Yhe.calls k1 (rdOf ByteArray.empty cQ aA) aCM _ ?z1 cA.out).mono ?_); (case z1 => exact Kh); rintro e uA ⟨rfl, hb⟩; replace HO_3 := Ya.mk (Kd.R_below Zl hb); replace HO_14 := Ya.mk (Kd.R_below Zwa hb); replace HB := Ya.mk (Ys Za hb); (try clear hb)))
   go_roundg k1
   case measure => have := cC.out; omega
   case rel => exact ⟨(aCM), (wrap64 (aA + 1)), Zf, Zf, H', ⟨Zu⟩, ⟨Zl⟩, ⟨Zwa⟩, ⟨Za⟩⟩
def Ymf.f (a0 : Y) : Option (Int) := if a0.toList = ([104, 116, 116, 112] : List UInt8) then (some 80) else (some 443)
theorem Ymf.calls (a0 : Y) (r : Int) (w : World) (hE : EnvOk w) (h : Ymf.f a0 = some r) :
  Calls Tryz.prog 76 #[.string a0] w fun e w' => e = .returned (.int .i64 r) ∧ Drawn0 w w' := by
 have HE := Ya.mk hE
 clear hE
 have H : (if a0.toList = ([104, 116, 116, 112] : List UInt8) then (some 80) else (some 443)) = some r := h
 clear h
 by_cases c2 : a0.toList = ([104, 116, 116, 112] : List UInt8)
 rotate_left
 ·rw [if_neg c2] at H
  have dS : (a0.toList == ([104, 116, 116, 112] : List UInt8)) = false := Kv c2
  have lD : (a0.toList != ([104, 116, 116, 112] : List UInt8)) = true := Kw c2
  obtain rfl := Kr H
  go_enter Tryz.func76, Tryz.ntmps76
  go_wp2
  go_ret
  exact ⟨Zf, Zh⟩
 rw [if_pos c2] at H
 have dS : (a0.toList == ([104, 116, 116, 112] : List UInt8)) = true := Kx c2
 have lD : (a0.toList != ([104, 116, 116, 112] : List UInt8)) = false := Ku c2
 clear c2
 obtain rfl := Kr H
 go_enter Tryz.func76, Tryz.ntmps76
 go_wp2
 go_ret
 exact ⟨Zf, Zh⟩
def Yte.f (a0 : Int) : Option (Bool) := (Yib.f a0).bind fun aBd => (if aBd = true then (some true) else ((Ysa.f a0).bind fun aBe => (if aBe = true then (some true) else ((strings_IndexByte.f (⟨#[45, 46, 95, 126]⟩ : Y) a0).bind fun aBf => (some (decide (aBf ≥ 0)))))))
theorem Yte.calls (a0 : Int) (r : Bool) (w : World) (hE : EnvOk w) (h : Yte.f a0 = some r) :
  Calls Tryz.prog 131 #[.int .u8 a0] w fun e w' => e = .returned (.bool r) ∧ Drawn0 w w' := by
 have HE := Ya.mk hE
 clear hE
 have H : ((Yib.f a0).bind fun aBd => (if aBd = true then (some true) else ((Ysa.f a0).bind fun aBe => (if aBe = true then (some true) else ((strings_IndexByte.f (⟨#[45, 46, 95, 126]⟩ : Y) a0).bind fun aBf => (some (decide (aBf ≥ 0)))))))) = some r := h
 clear h
 obtain ⟨aBd, dX, H⟩ := Kq H
 try dsimp -simprocs only at H
 have A2 := Ya.mk dX
 clear dX
 by_cases c3 : aBd = true
 ·subst c3
  rw [if_pos rfl] at H
  obtain rfl := Kr H
  go_enter Tryz.func131, Tryz.ntmps131
  go_wp2_with (first | ((with_reducible refine Yh (f := 68) rfl ?_); refine Yy (some 4) rfl rfl Tryz.func68 Zi rfl #[.int .u8 a0] rfl Zb ?_; (with_reducible refine (Yib.calls a0 true _ ?z1 A2.out).mono ?_); (case z1 => exact Kg); rintro e w' ⟨rfl, ⟨nd, rfl⟩⟩; refine ⟨_, rfl, ?_⟩))
  go_ret
  exact ⟨Zf, Zh⟩
 replace c3 := Kt c3
 subst c3
 rw [if_neg (show ¬ (false = true) by decide)] at H
 obtain ⟨aBe, xQ, H⟩ := Kq H
 try dsimp -simprocs only at H
 have A4 := Ya.mk xQ
 clear xQ
 by_cases c5 : aBe = true
 ·subst c5
  rw [if_pos rfl] at H
  obtain rfl := Kr H
  go_enter Tryz.func131, Tryz.ntmps131
  go_wp2_with (first | ((with_reducible refine Yh (f := 68) rfl ?_); refine Yy (some 4) rfl rfl Tryz.func68 Zi rfl #[.int .u8 a0] rfl Zb ?_; (with_reducible refine (Yib.calls a0 false _ ?z1 A2.out).mono ?_); (case z1 => exact Kg); rintro e w' ⟨rfl, ⟨nd, rfl⟩⟩; refine ⟨_, rfl, ?_⟩) | (go_at_call 69; (with_reducible refine (Ysa.calls a0 true _ ?z1 A4.out).mono ?_); (case z1 => exact Kg); rintro e w' ⟨rfl, ⟨nd, rfl⟩⟩))
  go_ret
  exact ⟨Zf, Zh⟩
 replace c5 := Kt c5
 subst c5
 rw [if_neg (show ¬ (false = true) by decide)] at H
 obtain ⟨aBf, sC, H⟩ := Kq H
 try dsimp -simprocs only at H
 have A6 := Ya.mk sC
 clear sC
 obtain rfl := Kr H
 go_enter Tryz.func131, Tryz.ntmps131
 go_wp2_with (first | ((with_reducible refine Yh (f := 68) rfl ?_); refine Yy (some 4) rfl rfl Tryz.func68 Zi rfl #[.int .u8 a0] rfl Zb ?_; (with_reducible refine (Yib.calls a0 false _ ?z1 A2.out).mono ?_); (case z1 => exact Kg); rintro e w' ⟨rfl, ⟨nd, rfl⟩⟩; refine ⟨_, rfl, ?_⟩) | (go_at_call 69; (with_reducible refine (Ysa.calls a0 false _ ?z1 A4.out).mono ?_); (case z1 => exact Kg); rintro e w' ⟨rfl, ⟨nd, rfl⟩⟩) | (go_at_call 25; (with_reducible refine (strings_IndexByte.calls (⟨#[45, 46, 95, 126]⟩ : Y) a0 aBf _ ?z1 A6.out).mono ?_); (case z1 => exact Kg); rintro e w' ⟨rfl, ⟨nd, rfl⟩⟩))
 go_ret
 exact ⟨Zf, Zh⟩
def Yef.f (k : Nat) (aM aQ : Y) (aW : Int) (aR aV aX : Y) (bB bD : Bool) : Option (Y) := if aM.size + 3 ≤ 9223372036854775807 then (if (aM ++ (⟨#[58, 47, 47]⟩ : Y)).size + aQ.size ≤ 9223372036854775807 then (if aW = 0 then (some ((aM ++ (⟨#[58, 47, 47]⟩ : Y)) ++ aQ)) else ((Ysd.f k aW).bind fun kQ => (if 1 + kQ.size ≤ 9223372036854775807 then (if ((aM ++ (⟨#[58, 47, 47]⟩ : Y)) ++ aQ).size + ((⟨#[58]⟩ : Y) ++ kQ).size ≤ 9223372036854775807 then (some (((aM ++ (⟨#[58, 47, 47]⟩ : Y)) ++ aQ) ++ ((⟨#[58]⟩ : Y) ++ kQ))) else (none)) else (none)))) else (none)) else (none)
theorem Yef.calls (k : Nat) (aM aQ : Y) (aW : Int) (aR aV aX : Y) (bB bD : Bool) (r : Y) (w : World) (hE : EnvOk w) (h : Yef.f k aM aQ aW aR aV aX bB bD = some r) :
  Calls Tryz.prog 80 #[.agg #[.string aM, .string aQ, .int .i64 aW, .string aR, .string aV, .string aX, .bool bB, .bool bD]] w fun e w' => e = .returned (.string r) ∧ Below w.heap.size w w' := by
 have cV := Tryz.underlying46
 have HE := Ya.mk hE
 clear hE
 have HB := Ya.mk (Below.refl w.heap.size w)
 have H : (if aM.size + 3 ≤ 9223372036854775807 then (if (aM ++ (⟨#[58, 47, 47]⟩ : Y)).size + aQ.size ≤ 9223372036854775807 then (if aW = 0 then (some ((aM ++ (⟨#[58, 47, 47]⟩ : Y)) ++ aQ)) else ((Ysd.f k aW).bind fun kQ => (if 1 + kQ.size ≤ 9223372036854775807 then (if ((aM ++ (⟨#[58, 47, 47]⟩ : Y)) ++ aQ).size + ((⟨#[58]⟩ : Y) ++ kQ).size ≤ 9223372036854775807 then (some (((aM ++ (⟨#[58, 47, 47]⟩ : Y)) ++ aQ) ++ ((⟨#[58]⟩ : Y) ++ kQ))) else (none)) else (none)))) else (none)) else (none)) = some r := h
 clear h
 by_cases c2 : aM.size + 3 ≤ 9223372036854775807
 rotate_left
 ·rw [if_neg c2] at H
  exact absurd H Zq
 rw [if_pos c2] at H
 have dS := Kp c2
 have lD : decide (aM.size + 3 ≤ 9223372036854775807) = true := Kn c2
 try have aFE : (9223372036854775807 < aM.size + 3) = False := eq_false (Nat.not_lt.2 c2)
 by_cases c3 : (aM ++ (⟨#[58, 47, 47]⟩ : Y)).size + aQ.size ≤ 9223372036854775807
 rotate_left
 ·rw [if_neg c3] at H
  exact absurd H Zq
 rw [if_pos c3] at H
 have bV := Kp c3
 have dY : decide ((aM ++ (⟨#[58, 47, 47]⟩ : Y)).size + aQ.size ≤ 9223372036854775807) = true := Kn c3
 try have zH : (9223372036854775807 < (aM ++ (⟨#[58, 47, 47]⟩ : Y)).size + aQ.size) = False := eq_false (Nat.not_lt.2 c3)
 by_cases c4 : aW = 0
 ·rw [if_pos c4] at H
  have bM : (aW == 0) = true := Kx c4
  have jZ : (aW != 0) = false := Ku c4
  clear c4
  obtain rfl := Kr H
  go_enter Tryz.func80, Tryz.ntmps80
  go_wp2_with (first | ((with_reducible refine Ybd (N := 1) rfl ?_); refine Ytd ?hg (N := 1) ?hd (cs := #[.string aM, .string aQ, .int .i64 aW, .string aR, .string aV, .string aX, .bool bB, .bool bD]) (t := 46) ?hr ?_; (case hd => rfl); (case hg => rfl); (case hr => first | (go_simp; done) | (go_simp; rfl)); intro dP hg w5 hbox hb; have aJ := Ya.mk (Ys Za hb); have aU := Ya.mk (hbox); have bE := Ya.mk ((by rw [hg]; exact (Yna Za) : w.heap.size ≤ dP)); have gS := Ya.mk ((by rw [hg]; exact (Yna Za) : w.heap.size ≤ dP)); clear HB; have HB := aJ; have cK := aU; have aJk := bE; have aEf := gS; clear aJ aU bE gS; clear hb hbox hg; obtain ⟨uT, uU, uV, uW, uX, uY, uZ, vA, vB, vC, vD, vE, vF, vG, vH, vI⟩ := Ka cK.out))
  go_ret
  exact ⟨Zk, Zaa⟩
 rw [if_neg c4] at H
 have bM : (aW == 0) = false := Kv c4
 have jZ : (aW != 0) = true := Kw c4
 obtain ⟨kQ, pG, H⟩ := Kq H
 try dsimp -simprocs only at H
 have A7 := Ya.mk pG
 clear pG
 by_cases c8 : 1 + kQ.size ≤ 9223372036854775807
 rotate_left
 ·rw [if_neg c8] at H
  exact absurd H Zq
 rw [if_pos c8] at H
 have fS := Kp c8
 have jA : decide (1 + kQ.size ≤ 9223372036854775807) = true := Kn c8
 try have aWR : (9223372036854775807 < 1 + kQ.size) = False := eq_false (Nat.not_lt.2 c8)
 by_cases c9 : ((aM ++ (⟨#[58, 47, 47]⟩ : Y)) ++ aQ).size + ((⟨#[58]⟩ : Y) ++ kQ).size ≤ 9223372036854775807
 rotate_left
 ·rw [if_neg c9] at H
  exact absurd H Zq
 rw [if_pos c9] at H
 have gN := Kp c9
 have nX : decide (((aM ++ (⟨#[58, 47, 47]⟩ : Y)) ++ aQ).size + ((⟨#[58]⟩ : Y) ++ kQ).size ≤ 9223372036854775807) = true := Kn c9
 try have aBg : (9223372036854775807 < ((aM ++ (⟨#[58, 47, 47]⟩ : Y)) ++ aQ).size + ((⟨#[58]⟩ : Y) ++ kQ).size) = False := eq_false (Nat.not_lt.2 c9)
 obtain rfl := Kr H
 go_enter Tryz.func80, Tryz.ntmps80
 go_wp2_with (first | ((with_reducible refine Ybd (N := 1) rfl ?_); refine Ytd ?hg (N := 1) ?hd (cs := #[.string aM, .string aQ, .int .i64 aW, .string aR, .string aV, .string aX, .bool bB, .bool bD]) (t := 46) ?hr ?_; (case hd => rfl); (case hg => rfl); (case hr => first | (go_simp; done) | (go_simp; rfl)); intro dP hg qZ hbox hb; have aJ := Ya.mk (Ys Za hb); have aU := Ya.mk (hbox); have bE := Ya.mk ((by rw [hg]; exact (Yna Za) : w.heap.size ≤ dP)); have gS := Ya.mk ((by rw [hg]; exact (Yna Za) : w.heap.size ≤ dP)); clear HB; have HB := aJ; have cK := aU; have aJk := bE; have aEf := gS; clear aJ aU bE gS; clear hb hbox hg; obtain ⟨xT, xU, xV, xW, xX, xY, xZ, yA, yB, yC, yD, yE, yF, yG, yH, yI⟩ := Ka cK.out) | ((with_reducible refine Yh (f := 28) rfl ?_); refine Yy (some 16) rfl rfl Tryz.func28 Zi rfl #[.int .i64 aW] rfl Zb ?_; (with_reducible refine (Ysd.calls k aW kQ _ ?z1 A7.out).mono ?_); (case z1 => first | exact HE.out | exact EnvOk.below HE.out Zaa); rintro e uA ⟨rfl, hb⟩; refine ⟨_, rfl, ?_⟩; have aJ := Ya.mk (Yue (g := dP) (o := .cells #[.string aM, .string aQ, .int .i64 aW, .string aR, .string aV, .string aX, .bool bB, .bool bD] 46 (0, 0)) (by (with_reducible repeat (first | refine Yba ?_ _ | refine Yma ?_ | refine Yja ?_ _)); exact cK.out) hb); have aU := Ya.mk (Ys Zaa hb); clear cK; clear HB; have cK := aJ; have HB := aU; clear aJ aU; (try clear hb)))
 go_ret
 exact ⟨Zk, Zaa⟩
end Go.Proofs.YtihaeeldgimdiaaGreatDoor.X
