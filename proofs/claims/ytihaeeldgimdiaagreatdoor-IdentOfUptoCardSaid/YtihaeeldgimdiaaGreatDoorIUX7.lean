import Derived.Test.YtihaeeldgimdiaaGreatDoorIUX0
set_option linter.all false
namespace Go.Proofs.YtihaeeldgimdiaaGreatDoor.X
open Go.RowKit Go.Yw.PrintWords Go.Yw.PrintLast Go.Yw.PrintMore
attribute [local go_sem] Yxd Yvd Yze Yye Ymd Yld Yyd Ywd
set_option maxHeartbeats 8000000
set_option maxRecDepth 100000
mutual
def Yp.j1 : Nat → Y → Option (Y)
 | 0, _ => none
 | k + 1, x0 => Yp.l1 k x0
def Yp.j3 : Nat → Y → Option (Y)
 | 0, _ => none
 | k + 1, x0 => Yp.l2 k x0 ([] : List Int) 0
def Yp.l2 : Nat → Y → List Int → Int → Option (Y)
 | 0, _, _, _ => none
 | k + 1, x0, x3, x4 => if x4 < (x0.size : Int) then (if 0 ≤ x4 then (if (bt x0 x4) = 9 then (Yp.l2 k x0 x3 (wrap64 (x4 + 1))) else (if (bt x0 x4) = 10 then (Yp.l2 k x0 x3 (wrap64 (x4 + 1))) else (if (bt x0 x4) = 13 then (Yp.l2 k x0 x3 (wrap64 (x4 + 1))) else (if x3.length < 140737488355328 then (Yp.l2 k x0 (x3 ++ [bt x0 x4]) (wrap64 (x4 + 1))) else (none))))) else (none)) else (some (strOfNums x3))
def Yp.l1 : Nat → Y → Option (Y)
 | 0, _ => none
 | k + 1, x0 => if (x0.size : Int) > 0 then (if 0 ≤ (wrap64 ((x0.size : Int) - 1)) then (if (wrap64 ((x0.size : Int) - 1)) < (x0.size : Int) then (if (bt x0 (wrap64 ((x0.size : Int) - 1))) ≤ 32 then (if (wrap64 ((x0.size : Int) - 1)) ≤ (x0.size : Int) then (Yp.l1 k (x0.extract 0 ((wrap64 ((x0.size : Int) - 1)) : Int).toNat)) else (none)) else (Yp.j3 k x0)) else (none)) else (none)) else (Yp.j3 k x0)
def Yp.l0 : Nat → Y → Option (Y)
 | 0, _ => none
 | k + 1, x0 => if (x0.size : Int) > 0 then (if 0 < (x0.size : Int) then (if (bt x0 0) ≤ 32 then (if 1 ≤ (x0.size : Int) then (Yp.l0 k (x0.extract 1 x0.size)) else (none)) else (Yp.j1 k x0)) else (none)) else (Yp.j1 k x0)
end
def Yp.f (k : Nat) (a0 : Y) : Option (Y) := Yp.l0 k a0
theorem Yp.calls (k : Nat) (a0 r : Y) (w : World) (hE : EnvOk w) (h : Yp.f k a0 = some r) :
  Calls Tryz.prog 31 #[.string a0] w fun e w' => e = .returned (.string r) ∧ Below w.heap.size w w' := by
 have HE := Ya.mk hE
 clear hE
 have HB := Ya.mk (Below.refl w.heap.size w)
 have H : (Yp.l0 k a0) = some r := h
 clear h
 have HC2 := Ya.mk H
 clear H
 go_enter Tryz.func31, Tryz.ntmps31
 go_upto_block 0 with (fail)
 go_cut [0] (fun v0 wc => ∃ (kq : Nat) (aK : Y), v0 = .string aK ∧ Ya (Yp.j1 kq aK = some r) ∧ Ya (kq ≤ k) ∧ Ya (Below w.heap.size w wc))
 case first =>
  have H := HC2.out
  clear HC2
  have H' := Ya.mk H
  clear H
  go_wp2
  go_loopg [0] k (fun kq v0 w' => ∃ (aK : Y), v0 = .string aK ∧ Ya (Yp.l0 kq aK = some r) ∧ Ya (kq ≤ k) ∧ Ya (Below w.heap.size w w'))
  case atStart => exact ⟨(a0), Zf, H', ⟨Ks _⟩, ⟨Za⟩⟩
  case round =>
   clear H'
   try clear p2
   obtain ⟨aK, rfl, HA, cC, HB⟩ := hrel
   cases gk with
   | zero => exact absurd HA.out (by simp [Yp.l0])
   | succ k1 =>
    have H := HA.out
    clear HA
    simp only [Yp.l0] at H
    by_cases c3 : (aK.size : Int) > 0
    rotate_left
    ·rw [if_neg c3] at H
     have bV : decide (0 < (aK.size : Int)) = false := Ko c3
     have dY : decide (0 < aK.size) = false := Ko Zj
     clear c3
     (first | rw [bV] | (simp only [Yha, Yka]; rw [bV]) | skip)
     have H' := Ya.mk H
     clear H
     go_wp2
     go_meet
     case rel => exact ⟨_, (aK), Zf, H', ⟨Zfa⟩, ⟨Za⟩⟩
    rw [if_pos c3] at H
    have bV : decide (0 < (aK.size : Int)) = true := Kn c3
    have dY : decide (0 < aK.size) = true := Kn Zj
    clear c3
    (first | rw [bV] | (simp only [Yha, Yka]; rw [bV]) | skip)
    by_cases c4 : 0 < (aK.size : Int)
    rotate_left
    ·rw [if_neg c4] at H
     exact absurd H Zq
    rw [if_pos c4] at H
    have bM : decide (0 < (aK.size : Int)) = true := Kn c4
    have jZ : decide (0 < aK.size) = true := Kn Zj
    clear c4
    by_cases c6 : (bt aK 0) ≤ 32
    rotate_left
    ·rw [if_neg c6] at H
     have dN : decide ((bt aK 0) ≤ 32) = false := Ko c6
     clear c6
     have H' := Ya.mk H
     clear H
     have p5 : 0 ≤ (0 : Int) := Zj
     have q5 : 0 < aK.size := (by have : (0 : Int) < (aK.size : Int) := Km Zc; omega)
     have gJ : ∀ h : 0 < aK.size, ((aK[0]'h).toNat : Int) = bt aK 0 := Ypa aK 0
     clear p5
     have qi5 : (0 < (aK.size : Int)) = True := Kp (Km Zc)
     replace q5 := Kp q5
     go_wp2
     go_meet
     case rel => exact ⟨_, (aK), Zf, H', ⟨Zfa⟩, ⟨Za⟩⟩
    rw [if_pos c6] at H
    have dN : decide ((bt aK 0) ≤ 32) = true := Kn c6
    clear c6
    by_cases c7 : 1 ≤ (aK.size : Int)
    rotate_left
    ·rw [if_neg c7] at H
     exact absurd H Zq
    rw [if_pos c7] at H
    have cM := Kp c7
    have gZ : decide (1 ≤ (aK.size : Int)) = true := Kn c7
    clear c7
    have H' := Ya.mk H
    clear H
    have p5 : 0 ≤ (0 : Int) := Zj
    have q5 : 0 < aK.size := (by have : (0 : Int) < (aK.size : Int) := Km Zc; omega)
    have gJ : ∀ h : 0 < aK.size, ((aK[0]'h).toNat : Int) = bt aK 0 := Ypa aK 0
    clear p5
    have qi5 : (0 < (aK.size : Int)) = True := Kp (Km Zc)
    replace q5 := Kp q5
    go_wp2
    go_roundg k1
    case measure => have := cC.out; omega
    case rel => exact ⟨(aK.extract 1 aK.size), Zf, H', ⟨Zu⟩, ⟨Za⟩⟩
 case rest =>
  clear HC2
  obtain ⟨kq, aK, rfl, HA, HJ1, HB⟩ := hcut
  cases kq with
  | zero => exact absurd HA.out (by simp [Yp.j1])
  | succ kj1 =>
   have H := HA.out
   clear HA
   simp only [Yp.j1] at H
   have HC8 := Ya.mk H
   clear H
   go_upto_block 2 with (fail)
   go_cut [0] (fun v0 wc => ∃ (kq : Nat) (cT : Y), v0 = .string cT ∧ Ya (Yp.j3 kq cT = some r) ∧ Ya (kq ≤ kj1) ∧ Ya (Below w.heap.size w wc))
   case first =>
    have H := HC8.out
    clear HC8
    have H' := Ya.mk H
    clear H
    go_wp2
    go_loopg [0] kj1 (fun kq v0 w' => ∃ (fH : Y), v0 = .string fH ∧ Ya (Yp.l1 kq fH = some r) ∧ Ya (kq ≤ kj1) ∧ Ya (Below w.heap.size w w'))
    case atStart => exact ⟨(aK), Zf, H', ⟨Ks _⟩, ⟨Za⟩⟩
    case round =>
     clear H'
     try clear p2
     try clear c3
     try clear bV
     try clear dY
     try clear c4
     try clear bM
     try clear jZ
     try clear p5
     try clear q5
     try clear gJ
     try clear qi5
     try clear c6
     try clear dN
     try clear c7
     try clear cM
     try clear gZ
     try clear p2
     try clear p5
     try clear q5
     obtain ⟨fH, rfl, HA, kU, HB⟩ := hrel
     cases gk with
     | zero => exact absurd HA.out (by simp [Yp.l1])
     | succ k2 =>
      have H := HA.out
      clear HA
      simp only [Yp.l1] at H
      by_cases c9 : (fH.size : Int) > 0
      rotate_left
      ·rw [if_neg c9] at H
       have gN : decide (0 < (fH.size : Int)) = false := Ko c9
       have nX : decide (0 < fH.size) = false := Ko Zj
       clear c9
       (first | rw [gN] | (simp only [Yha, Yka]; rw [gN]) | skip)
       have H' := Ya.mk H
       clear H
       go_wp2
       go_meet
       case rel => exact ⟨_, (fH), Zf, H', ⟨by have := HJ1.out; have := kU.out; first | omega | exact Ks _⟩, ⟨Za⟩⟩
      rw [if_pos c9] at H
      have gN : decide (0 < (fH.size : Int)) = true := Kn c9
      have nX : decide (0 < fH.size) = true := Kn Zj
      clear c9
      (first | rw [gN] | (simp only [Yha, Yka]; rw [gN]) | skip)
      obtain ⟨ji10, gT⟩ : ∃ j_ : Int, (wrap64 ((fH.size : Int) - 1)) = j_ := ⟨_, rfl⟩
      replace H : (if 0 ≤ (ji10) then (if (ji10) < (fH.size : Int) then (if (bt fH (ji10)) ≤ 32 then (if (ji10) ≤ (fH.size : Int) then (Yp.l1 k2 (fH.extract 0 ((ji10) : Int).toNat)) else (none)) else (Yp.j3 k2 fH)) else (none)) else (none)) = some r := by first | (rw [gT] at H; exact H) | (simp only [gT] at H ⊢; exact H)
      have hji10w : (IntKind.i64.wrap ((fH.size : Int) - 1)) = ji10 := (Yha _).trans gT
      by_cases bK : 0 ≤ (ji10)
      rotate_left
      ·rw [if_neg bK] at H
       exact absurd H Zq
      rw [if_pos bK] at H
      have fM : decide (0 ≤ (ji10)) = true := Kn bK
      clear bK
      by_cases bT : (ji10) < (fH.size : Int)
      rotate_left
      ·rw [if_neg bT] at H
       exact absurd H Zq
      rw [if_pos bT] at H
      have dZ : decide ((ji10) < (fH.size : Int)) = true := Kn bT
      clear bT
      by_cases cD : (bt fH (ji10)) ≤ 32
      rotate_left
      ·rw [if_neg cD] at H
       have gC : decide ((bt fH (ji10)) ≤ 32) = false := Ko cD
       clear cD
       have H' := Ya.mk H
       clear H
       have pO : (0 ≤ ((ji10) : Int)) = True := Kl
       have iP : (ji10) < (fH.size : Int) := Km Zc
       have zO := Ypa fH (ji10)
       replace iP := Kp iP
       go_wp2
       go_meet
       case rel => exact ⟨_, (fH), Zf, H', ⟨by have := HJ1.out; have := kU.out; first | omega | exact Ks _⟩, ⟨Za⟩⟩
      rw [if_pos cD] at H
      have gC : decide ((bt fH (ji10)) ≤ 32) = true := Kn cD
      clear cD
      have eA := Kp (Km Zc : 0 ≤ (ji10))
      by_cases dF : (ji10) ≤ (fH.size : Int)
      rotate_left
      ·rw [if_neg dF] at H
       exact absurd H Zq
      rw [if_pos dF] at H
      have gD := Kp dF
      have lP : decide ((ji10) ≤ (fH.size : Int)) = true := Kn dF
      clear dF
      have H' := Ya.mk H
      clear H
      have pO : (0 ≤ ((ji10) : Int)) = True := Kl
      have iP : (ji10) < (fH.size : Int) := Km Zc
      have zO := Ypa fH (ji10)
      replace iP := Kp iP
      go_wp2
      go_roundg k2
      case measure => have := HJ1.out; have := kU.out; omega
      case rel => exact ⟨(fH.extract 0 ((ji10) : Int).toNat), (by first | rfl | (simp; done) | (simp only [← gT] <;> (first | rfl | simp)) | (simp [*]; done)), H', ⟨by have := HJ1.out; have := kU.out; omega⟩, ⟨Za⟩⟩
   case rest =>
    clear HC8
    try clear p2
    try clear c3
    try clear bV
    try clear dY
    try clear c4
    try clear bM
    try clear jZ
    try clear p5
    try clear q5
    try clear gJ
    try clear qi5
    try clear c6
    try clear dN
    try clear c7
    try clear cM
    try clear gZ
    try clear p2
    try clear p5
    try clear q5
    obtain ⟨kq, cT, rfl, HA, HJ7, HB⟩ := hcut
    cases kq with
    | zero => exact absurd HA.out (by simp [Yp.j3])
    | succ kj7 =>
     have H := HA.out
     clear HA
     simp only [Yp.j3] at H
     have H' := Ya.mk H
     clear H
     go_wp2
     go_loopg [3, 4] kj7 (fun kq v3 v4 w' => ∃ (gM : List Int) (bZ : Int), v4 = .int .i64 bZ ∧ Ya (Yp.l2 kq cT gM bZ = some r) ∧ Ya (kq ≤ kj7) ∧ Ya (Kd.R (Kd.int .u8) 5 w' w.heap.size (fun _ => True) v3 gM) ∧ Ya (Below w.heap.size w w'))
     case atStart => exact ⟨(([] : List Int)), (0), Zf, H', ⟨Ks _⟩, ⟨Zv⟩, ⟨Za⟩⟩
     case round =>
      clear H'
      try clear c1
      try clear p1
      try clear q1
      try clear uN
      try clear p2
      try clear c3
      try clear bV
      try clear dY
      try clear c4
      try clear bM
      try clear jZ
      try clear p5
      try clear q5
      try clear gJ
      try clear qi5
      try clear c6
      try clear dN
      try clear p6
      try clear c7
      try clear cM
      try clear gZ
      try clear c9
      try clear gN
      try clear nX
      try clear bK
      try clear fM
      try clear bT
      try clear dZ
      try clear pO
      try clear iP
      try clear zO
      try clear cD
      try clear gC
      try clear bN
      try clear eA
      try clear dF
      try clear gD
      try clear lP
      try clear p1
      try clear pO
      try clear p2
      try clear p5
      try clear p6
      try clear q1
      try clear iP
      try clear q5
      obtain ⟨gM, bZ, rfl, HA, qX, HO_3, HB⟩ := hrel
      cases gk with
      | zero => exact absurd HA.out (by simp [Yp.l2])
      | succ k3 =>
       have H := HA.out
       clear HA
       simp only [Yp.l2] at H
       by_cases gG : bZ < (cT.size : Int)
       rotate_left
       ·rw [if_neg gG] at H
        have kI : decide (bZ < (cT.size : Int)) = false := Ko gG
        clear gG
        obtain rfl := Kr H
        have aZe := Yzf (P := Tryz.prog) Tryz.underlying67 Tryz.underlying5 Tryz.underlying9 (Kd.own_of_R HO_3.out)
        go_wp2
        go_ret
        exact ⟨Zk, Za⟩
       rw [if_pos gG] at H
       have kI : decide (bZ < (cT.size : Int)) = true := Kn gG
       clear gG
       by_cases dR : 0 ≤ bZ
       rotate_left
       ·rw [if_neg dR] at H
        exact absurd H Zq
       rw [if_pos dR] at H
       have lA : decide (0 ≤ bZ) = true := Kn dR
       clear dR
       by_cases jD : (bt cT bZ) = 9
       ·rw [if_pos jD] at H
        have lG : ((bt cT bZ) == 9) = true := Kx jD
        have sS : ((bt cT bZ) != 9) = false := Ku jD
        clear jD
        have H' := Ya.mk H
        clear H
        have p19 : (0 ≤ (bZ : Int)) = True := Kl
        have q19 : (bZ < (cT.size : Int)) = True := Kl
        have aGx := Ypa cT bZ
        go_wp2
        go_roundg k3
        case measure => have := HJ1.out; have := HJ7.out; have := qX.out; omega
        case rel => exact ⟨(gM), (wrap64 (bZ + 1)), Zf, H', ⟨Zib⟩, ⟨Zl⟩, ⟨Za⟩⟩
       rw [if_neg jD] at H
       have lG : ((bt cT bZ) == 9) = false := Kv jD
       have sS : ((bt cT bZ) != 9) = true := Kw jD
       by_cases jU : (bt cT bZ) = 10
       ·rw [if_pos jU] at H
        have pL : ((bt cT bZ) == 10) = true := Kx jU
        have sM : ((bt cT bZ) != 10) = false := Ku jU
        clear jU
        have H' := Ya.mk H
        clear H
        have p19 : (0 ≤ (bZ : Int)) = True := Kl
        have q19 : (bZ < (cT.size : Int)) = True := Kl
        have aGx := Ypa cT bZ
        have p21 : (0 ≤ (bZ : Int)) = True := Kl
        have q21 : (bZ < (cT.size : Int)) = True := Kl
        have aGy := Ypa cT bZ
        go_wp2
        go_roundg k3
        case measure => have := HJ1.out; have := HJ7.out; have := qX.out; omega
        case rel => exact ⟨(gM), (wrap64 (bZ + 1)), Zf, H', ⟨Zib⟩, ⟨Zl⟩, ⟨Za⟩⟩
       rw [if_neg jU] at H
       have pL : ((bt cT bZ) == 10) = false := Kv jU
       have sM : ((bt cT bZ) != 10) = true := Kw jU
       by_cases kX : (bt cT bZ) = 13
       ·rw [if_pos kX] at H
        have pP : ((bt cT bZ) == 13) = true := Kx kX
        have pQ : ((bt cT bZ) != 13) = false := Ku kX
        clear kX
        have H' := Ya.mk H
        clear H
        have p19 : (0 ≤ (bZ : Int)) = True := Kl
        have q19 : (bZ < (cT.size : Int)) = True := Kl
        have aGx := Ypa cT bZ
        have p21 : (0 ≤ (bZ : Int)) = True := Kl
        have q21 : (bZ < (cT.size : Int)) = True := Kl
        have aGy := Ypa cT bZ
        have p23 : (0 ≤ (bZ : Int)) = True := Kl
        have q23 : (bZ < (cT.size : Int)) = True := Kl
        have aXW := Ypa cT bZ
        go_wp2
        go_roundg k3
        case measure => have := HJ1.out; have := HJ7.out; have := qX.out; omega
        case rel => exact ⟨(gM), (wrap64 (bZ + 1)), Zf, H', ⟨Zib⟩, ⟨Zl⟩, ⟨Za⟩⟩
       rw [if_neg kX] at H
       have pP : ((bt cT bZ) == 13) = false := Kv kX
       have pQ : ((bt cT bZ) != 13) = true := Kw kX
       by_cases wH : gM.length < 140737488355328
       rotate_left
       ·rw [if_neg wH] at H
        exact absurd H Zq
       rw [if_pos wH] at H
       have aLt := Ya.mk wH
       clear wH
       obtain ⟨aLu, sW⟩ : ∃ y_ : List Int, y_ = (gM ++ [bt cT bZ]) := ⟨_, rfl⟩
       replace H : (Yp.l2 k3 cT aLu (wrap64 (bZ + 1))) = some r := by first | (rw [sW]; with_reducible exact H) | (have cO := (Kba _ _).symm.trans H; rw [sW]; with_reducible exact cO) | (have cO := (Kba _ _).symm.trans H; with_reducible exact cO) | with_reducible exact H | (rw [sW]; exact H) | exact H
       have aLv := Ya.mk sW
       clear sW
       have H' := Ya.mk H
       clear H
       have p19 : (0 ≤ (bZ : Int)) = True := Kl
       have q19 : bZ < (cT.size : Int) := Km Zc
       have aGx := Ypa cT bZ
       replace q19 := Kp q19
       have p21 : (0 ≤ (bZ : Int)) = True := Kl
       have q21 : bZ < (cT.size : Int) := Km Zc
       have aGy := Ypa cT bZ
       replace q21 := Kp q21
       have p23 : (0 ≤ (bZ : Int)) = True := Kl
       have q23 : bZ < (cT.size : Int) := Km Zc
       have aXW := Ypa cT bZ
       replace q23 := Kp q23
       have p25 : (0 ≤ (bZ : Int)) = True := Kl
       have q25 : bZ < (cT.size : Int) := Km Zc
       have bAo := Ypa cT bZ
       replace q25 := Kp q25
       go_wp2_with (first | ((with_reducible refine Yic (b := .append) (xs := #[.tmp 53, .tmp 57]) rfl ?_); (try (refine Yah Zda ?_; dsimp only)); at_builtin; refine Kd.R_append (Kd.int .u8) (w0 := w) w.heap.size rfl (.tmp 53) (.tmp 57) 67 5 (.int .u8 0) 1 rfl Tryz.underlying67 Yaj rfl Zw Zj u3 gM (bt cT bZ) [.int .u8 (bt cT bZ)] (fun _ => True) (fun _ => False) rfl rfl ?aP (fun _ hk => hk.elim) ?aF ?aO ?aB ?aS ?aL ?_; (case aP => exact rfl); (case aB => exact Za); (case aF => exact (fun _ _ => trivial)); (case aO => exact Zl); (case aS => exact Ki); (case aL => have := aLt.out; omega); intro bAp w27 ho hb hg hat; rw [← aLv.out] at ho; replace HB := Ya.mk (hb); have aLw := Ya.mk (ho); clear HO_3; clear ho hb hg hat))
       go_roundg k3
       case measure => have := HJ1.out; have := HJ7.out; have := qX.out; omega
       case rel => exact ⟨(aLu), (wrap64 (bZ + 1)), Zf, H', ⟨Zib⟩, ⟨by (with_reducible repeat (first | apply Kd.R_alloc | apply Kd.R_drewN | apply Kd.R_drew)); exact aLw.out⟩, ⟨Za⟩⟩
def Yla.f (a0 : Int) : Option (Bool) := if a0 ≥ 97 then (if a0 ≤ 122 then (some true) else (if a0 ≥ 65 then (some (decide (a0 ≤ 90))) else (some false))) else (if a0 ≥ 65 then (some (decide (a0 ≤ 90))) else (some false))
theorem Yla.calls (a0 : Int) (r : Bool) (w : World) (hE : EnvOk w) (h : Yla.f a0 = some r) :
  Calls Tryz.prog 55 #[.int .u8 a0] w fun e w' => e = .returned (.bool r) ∧ Drawn0 w w' := by
 have HE := Ya.mk hE
 clear hE
 have H : (if a0 ≥ 97 then (if a0 ≤ 122 then (some true) else (if a0 ≥ 65 then (some (decide (a0 ≤ 90))) else (some false))) else (if a0 ≥ 65 then (some (decide (a0 ≤ 90))) else (some false))) = some r := h
 clear h
 by_cases c2 : a0 ≥ 97
 rotate_left
 ·rw [if_neg c2] at H
  have dS : decide (97 ≤ a0) = false := Ko c2
  clear c2
  by_cases c5 : a0 ≥ 65
  ·rw [if_pos c5] at H
   have dG : decide (65 ≤ a0) = true := Kn c5
   clear c5
   obtain rfl := Kr H
   go_enter Tryz.func55, Tryz.ntmps55
   go_wp2
   go_ret
   exact ⟨Zf, Zh⟩
  rw [if_neg c5] at H
  have dG : decide (65 ≤ a0) = false := Ko c5
  clear c5
  obtain rfl := Kr H
  go_enter Tryz.func55, Tryz.ntmps55
  go_wp2
  go_ret
  exact ⟨Zf, Zh⟩
 rw [if_pos c2] at H
 have dS : decide (97 ≤ a0) = true := Kn c2
 clear c2
 by_cases c3 : a0 ≤ 122
 ·rw [if_pos c3] at H
  have bV : decide (a0 ≤ 122) = true := Kn c3
  clear c3
  obtain rfl := Kr H
  go_enter Tryz.func55, Tryz.ntmps55
  go_wp2
  go_ret
  exact ⟨Zf, Zh⟩
 rw [if_neg c3] at H
 have bV : decide (a0 ≤ 122) = false := Ko c3
 clear c3
 by_cases c4 : a0 ≥ 65
 ·rw [if_pos c4] at H
  have bM : decide (65 ≤ a0) = true := Kn c4
  clear c4
  obtain rfl := Kr H
  go_enter Tryz.func55, Tryz.ntmps55
  go_wp2
  go_ret
  exact ⟨Zf, Zh⟩
 rw [if_neg c4] at H
 have bM : decide (65 ≤ a0) = false := Ko c4
 clear c4
 obtain rfl := Kr H
 go_enter Tryz.func55, Tryz.ntmps55
 go_wp2
 go_ret
 exact ⟨Zf, Zh⟩
def Yt.f (a0 : Int) : Option (Bool) := if a0 ≥ 48 then (some (decide (a0 ≤ 57))) else (some false)
theorem Yt.calls (a0 : Int) (r : Bool) (w : World) (hE : EnvOk w) (h : Yt.f a0 = some r) :
  Calls Tryz.prog 56 #[.int .u8 a0] w fun e w' => e = .returned (.bool r) ∧ Drawn0 w w' := by
 have HE := Ya.mk hE
 clear hE
 have H : (if a0 ≥ 48 then (some (decide (a0 ≤ 57))) else (some false)) = some r := h
 clear h
 by_cases c2 : a0 ≥ 48
 ·rw [if_pos c2] at H
  have dS : decide (48 ≤ a0) = true := Kn c2
  clear c2
  obtain rfl := Kr H
  go_enter Tryz.func56, Tryz.ntmps56
  go_wp2
  go_ret
  exact ⟨Zf, Zh⟩
 rw [if_neg c2] at H
 have dS : decide (48 ≤ a0) = false := Ko c2
 clear c2
 obtain rfl := Kr H
 go_enter Tryz.func56, Tryz.ntmps56
 go_wp2
 go_ret
 exact ⟨Zf, Zh⟩
def Yz.l0 : Nat → Int → Y → Int → Option (Bool)
 | 0, _, _, _ => none
 | k + 1, x0, x1, x5 => if x5 < (x1.size : Int) then (if 0 ≤ x5 then (if (bt x1 x5) = x0 then (some true) else (Yz.l0 k x0 x1 (wrap64 (x5 + 1)))) else (none)) else (some false)
def Yz.f (k : Nat) (a0 : Int) (a1 : Y) : Option (Bool) := Yz.l0 k a0 a1 0
theorem Yz.calls (k : Nat) (a0 : Int) (a1 : Y) (r : Bool) (w : World) (hE : EnvOk w) (h : Yz.f k a0 a1 = some r) :
  Calls Tryz.prog 57 #[.int .u8 a0, .string a1] w fun e w' => e = .returned (.bool r) ∧ Drawn0 w w' := by
 have HE := Ya.mk hE
 clear hE
 have H : (Yz.l0 k a0 a1 0) = some r := h
 clear h
 have H' := Ya.mk H
 clear H
 go_enter Tryz.func57, Tryz.ntmps57
 go_wp2
 go_loopg [5] k (fun kq v5 w' => ∃ (aI : Int), v5 = .int .i64 aI ∧ Ya (Yz.l0 kq a0 a1 aI = some r) ∧ Ya (kq ≤ k) ∧ Drawn0 w w')
 case atStart => exact ⟨(0), Zf, H', ⟨Ks _⟩, Zh⟩
 case round =>
  clear H'
  try clear p2
  obtain ⟨aI, rfl, HA, cC, ⟨m1, rfl⟩⟩ := hrel
  cases gk with
  | zero => exact absurd HA.out (by simp [Yz.l0])
  | succ k1 =>
   have H := HA.out
   clear HA
   simp only [Yz.l0] at H
   by_cases c3 : aI < (a1.size : Int)
   rotate_left
   ·rw [if_neg c3] at H
    have bV : decide (aI < (a1.size : Int)) = false := Ko c3
    clear c3
    obtain rfl := Kr H
    go_wp2
    go_ret
    exact ⟨Zf, Zh⟩
   rw [if_pos c3] at H
   have bV : decide (aI < (a1.size : Int)) = true := Kn c3
   clear c3
   by_cases c4 : 0 ≤ aI
   rotate_left
   ·rw [if_neg c4] at H
    exact absurd H Zq
   rw [if_pos c4] at H
   have bM : decide (0 ≤ aI) = true := Kn c4
   clear c4
   by_cases c6 : (bt a1 aI) = a0
   ·rw [if_pos c6] at H
    have dN : ((bt a1 aI) == a0) = true := Kx c6
    have lF : ((bt a1 aI) != a0) = false := Ku c6
    clear c6
    obtain rfl := Kr H
    have p5 : (0 ≤ (aI : Int)) = True := Kl
    have q5 : aI < (a1.size : Int) := Km Zc
    have gJ := Ypa a1 aI
    replace q5 := Kp q5
    go_wp2
    go_ret
    exact ⟨Zf, Zh⟩
   rw [if_neg c6] at H
   have dN : ((bt a1 aI) == a0) = false := Kv c6
   have lF : ((bt a1 aI) != a0) = true := Kw c6
   have H' := Ya.mk H
   clear H
   have p5 : (0 ≤ (aI : Int)) = True := Kl
   have q5 : aI < (a1.size : Int) := Km Zc
   have gJ := Ypa a1 aI
   replace q5 := Kp q5
   go_wp2
   go_roundg k1
   case measure => have := cC.out; omega
   case rel => exact ⟨(wrap64 (aI + 1)), Zf, H', ⟨Zu⟩, Zh⟩
end Go.Proofs.YtihaeeldgimdiaaGreatDoor.X
