/- Printed by a program of ours: functions as plain Lean, and what a call of each does. -/
import Derived.Test.YtnmglnglbdpjjaaGreatDoorUlWords
import Derived.Test.YtnmglnglbdpjjaaGreatDoorUlX0
import Derived.Test.YtnmglnglbdpjjaaGreatDoorUlX6
import Derived.Test.YtnmglnglbdpjjaaGreatDoorUlX8
import Derived.Test.YtnmglnglbdpjjaaGreatDoorUlX10
namespace Go.Proofs.YtnmglnglbdpjjaaGreatDoor.X
open Go.RowKit Go.Yw.PrintWords Go.Yw.PrintLast Go.Yw.PrintMore
attribute [local go_sem] Yxd Yae Yoe Yqe Yld Yjd Yyd Yzd
set_option linter.unusedVariables false
set_option linter.unusedSimpArgs false
set_option maxHeartbeats 8000000
set_option maxRecDepth 100000
def Yue.f (k : Nat) (a0 : ByteArray) : Option (ByteArray × Int) := (Ym.f k a0).bind fun lB => ((Yba.f k lB).bind fun gX => (if gX.toList = ([] : List UInt8) then (some ((⟨#[]⟩ : ByteArray), 4)) else ((Yj.f k gX).bind fun vH => (if vH = true then (some (gX, 0)) else (some ((⟨#[]⟩ : ByteArray), 17))))))
theorem Yue.calls (k : Nat) (a0 r1 : ByteArray) (r2 : Int) (w : World) (hE : EnvOk w) (h : Yue.f k a0 = some (r1, r2)) :
  Calls Tryz.prog 20 #[.string a0] w fun e w' => e = .returned (.tuple #[.string r1, .int .i64 r2]) ∧ Below w.heap.size w w' := by
 have HE := Ya.mk hE
 clear hE
 have HB := Ya.mk (Below.refl w.heap.size w)
 have H : ((Ym.f k a0).bind fun lB => ((Yba.f k lB).bind fun gX => (if gX.toList = ([] : List UInt8) then (some ((⟨#[]⟩ : ByteArray), 4)) else ((Yj.f k gX).bind fun vH => (if vH = true then (some (gX, 0)) else (some ((⟨#[]⟩ : ByteArray), 17))))))) = some (r1, r2) := h
 clear h
 replace H := Option.bind_eq_some_iff.mp H
 obtain ⟨lB, dV, H⟩ := H
 try dsimp -simprocs only at H
 have A2 := Ya.mk dV
 clear dV
 replace H := Option.bind_eq_some_iff.mp H
 obtain ⟨gX, iY, H⟩ := H
 try dsimp -simprocs only at H
 have A3 := Ya.mk iY
 clear iY
 by_cases c4 : gX.toList = ([] : List UInt8)
 ·rw [if_pos c4] at H
  have bX : (gX.toList == ([] : List UInt8)) = true := beq_iff_eq.mpr c4
  have jF : (gX.toList != ([] : List UInt8)) = false := bne_eq_false_iff_eq.mpr c4
  clear c4
  simp only [Option.some.injEq, Prod.mk.injEq] at H
  obtain ⟨rfl, rfl⟩ := H
  go_enter Tryz.func20, Tryz.ntmps20
  go_wp2_with (first | ((with_reducible refine Yi (f := 55) rfl ?_); refine Yaa (some 5) rfl rfl Tryz.func55 Zi rfl #[.string a0] rfl Zb ?_; (with_reducible refine (Ym.calls k a0 lB _ ?side1 A2.out).mono ?_); (case side1 => first | exact HE.out | exact EnvOk.below HE.out Za); rintro e w5 ⟨rfl, hb⟩; refine ⟨_, rfl, ?_⟩; have aH := Ya.mk (Yt Za hb); clear HB; have HB := aH; clear aH; (try clear hb); (try clear bU); (try clear hk); (try clear hi)) | ((with_reducible refine Yi (f := 47) rfl ?_); refine Yaa (some 6) rfl rfl Tryz.func47 Zi rfl #[.string lB] rfl Zb ?_; (with_reducible refine (Yba.calls k lB gX _ ?side1 A3.out).mono ?_); (case side1 => first | exact HE.out | exact EnvOk.below HE.out Za); rintro e w6 ⟨rfl, hb⟩; refine ⟨_, rfl, ?_⟩; have aH := Ya.mk (Yt Za hb); clear HB; have HB := aH; clear aH; (try clear hb); (try clear bU); (try clear hk); (try clear hi)))
  go_ret2
  exact ⟨Zl, Za⟩
 rw [if_neg c4] at H
 have bX : (gX.toList == ([] : List UInt8)) = false := beq_eq_false_iff_ne.mpr c4
 have jF : (gX.toList != ([] : List UInt8)) = true := bne_iff_ne.mpr c4
 replace H := Option.bind_eq_some_iff.mp H
 obtain ⟨vH, nU, H⟩ := H
 try dsimp -simprocs only at H
 have A7 := Ya.mk nU
 clear nU
 by_cases c8 : vH = true
 ·subst c8
  rw [if_pos rfl] at H
  simp only [Option.some.injEq, Prod.mk.injEq] at H
  obtain ⟨rfl, rfl⟩ := H
  go_enter Tryz.func20, Tryz.ntmps20
  go_wp2_with (first | ((with_reducible refine Yi (f := 55) rfl ?_); refine Yaa (some 5) rfl rfl Tryz.func55 Zi rfl #[.string a0] rfl Zb ?_; (with_reducible refine (Ym.calls k a0 lB _ ?side1 A2.out).mono ?_); (case side1 => first | exact HE.out | exact EnvOk.below HE.out Za); rintro e w9 ⟨rfl, hb⟩; refine ⟨_, rfl, ?_⟩; have aH := Ya.mk (Yt Za hb); clear HB; have HB := aH; clear aH; (try clear hb); (try clear bU); (try clear hk); (try clear hi)) | ((with_reducible refine Yi (f := 47) rfl ?_); refine Yaa (some 6) rfl rfl Tryz.func47 Zi rfl #[.string lB] rfl Zb ?_; (with_reducible refine (Yba.calls k lB gX _ ?side1 A3.out).mono ?_); (case side1 => first | exact HE.out | exact EnvOk.below HE.out Za); rintro e pJ ⟨rfl, hb⟩; refine ⟨_, rfl, ?_⟩; have aH := Ya.mk (Yt Za hb); clear HB; have HB := aH; clear aH; (try clear hb); (try clear bU); (try clear hk); (try clear hi)) | ((with_reducible refine Yi (f := 56) rfl ?_); refine Yaa (some 10) rfl rfl Tryz.func56 Zi rfl #[.string gX] rfl Zb ?_; (with_reducible refine (Yj.calls k gX true _ ?side1 A7.out).mono ?_); (case side1 => first | exact HE.out | exact EnvOk.below HE.out Za); rintro e w11 ⟨rfl, hb⟩; refine ⟨_, rfl, ?_⟩; have aH := Ya.mk (Yt Za hb); clear HB; have HB := aH; clear aH; (try clear hb); (try clear bU); (try clear hk); (try clear hi)))
  go_ret2
  exact ⟨Zl, Za⟩
 replace c8 := Bool.eq_false_iff.mpr c8
 subst c8
 rw [if_neg (show ¬ (false = true) by decide)] at H
 simp only [Option.some.injEq, Prod.mk.injEq] at H
 obtain ⟨rfl, rfl⟩ := H
 go_enter Tryz.func20, Tryz.ntmps20
 go_wp2_with (first | ((with_reducible refine Yi (f := 55) rfl ?_); refine Yaa (some 5) rfl rfl Tryz.func55 Zi rfl #[.string a0] rfl Zb ?_; (with_reducible refine (Ym.calls k a0 lB _ ?side1 A2.out).mono ?_); (case side1 => first | exact HE.out | exact EnvOk.below HE.out Za); rintro e uN ⟨rfl, hb⟩; refine ⟨_, rfl, ?_⟩; have aH := Ya.mk (Yt Za hb); clear HB; have HB := aH; clear aH; (try clear hb); (try clear bU); (try clear hk); (try clear hi)) | ((with_reducible refine Yi (f := 47) rfl ?_); refine Yaa (some 6) rfl rfl Tryz.func47 Zi rfl #[.string lB] rfl Zb ?_; (with_reducible refine (Yba.calls k lB gX _ ?side1 A3.out).mono ?_); (case side1 => first | exact HE.out | exact EnvOk.below HE.out Za); rintro e nB ⟨rfl, hb⟩; refine ⟨_, rfl, ?_⟩; have aH := Ya.mk (Yt Za hb); clear HB; have HB := aH; clear aH; (try clear hb); (try clear bU); (try clear hk); (try clear hi)) | ((with_reducible refine Yi (f := 56) rfl ?_); refine Yaa (some 10) rfl rfl Tryz.func56 Zi rfl #[.string gX] rfl Zb ?_; (with_reducible refine (Yj.calls k gX false _ ?side1 A7.out).mono ?_); (case side1 => first | exact HE.out | exact EnvOk.below HE.out Za); rintro e w14 ⟨rfl, hb⟩; refine ⟨_, rfl, ?_⟩; have aH := Ya.mk (Yt Za hb); clear HB; have HB := aH; clear aH; (try clear hb); (try clear bU); (try clear hk); (try clear hi)))
 go_ret2
 exact ⟨Zl, Za⟩
mutual
def Yq.j1 : Nat → ByteArray → Option (ByteArray)
 | 0, _ => none
 | k + 1, x0 => Yq.l1 k x0
def Yq.j3 : Nat → ByteArray → Option (ByteArray)
 | 0, _ => none
 | k + 1, x0 => Yq.l2 k x0 ([] : List Int) 0
def Yq.l2 : Nat → ByteArray → List Int → Int → Option (ByteArray)
 | 0, _, _, _ => none
 | k + 1, x0, x3, x4 => if x4 < (x0.size : Int) then (if 0 ≤ x4 then (if (bt x0 x4) = 9 then (Yq.l2 k x0 x3 (wrap64 (x4 + 1))) else (if (bt x0 x4) = 10 then (Yq.l2 k x0 x3 (wrap64 (x4 + 1))) else (if (bt x0 x4) = 13 then (Yq.l2 k x0 x3 (wrap64 (x4 + 1))) else (if x3.length < 140737488355328 then (Yq.l2 k x0 (x3 ++ [bt x0 x4]) (wrap64 (x4 + 1))) else (none))))) else (none)) else (some (strOfNums x3))
def Yq.l1 : Nat → ByteArray → Option (ByteArray)
 | 0, _ => none
 | k + 1, x0 => if (x0.size : Int) > 0 then (if 0 ≤ (wrap64 ((x0.size : Int) - 1)) then (if (wrap64 ((x0.size : Int) - 1)) < (x0.size : Int) then (if (bt x0 (wrap64 ((x0.size : Int) - 1))) ≤ 32 then (if (wrap64 ((x0.size : Int) - 1)) ≤ (x0.size : Int) then (Yq.l1 k (x0.extract 0 ((wrap64 ((x0.size : Int) - 1)) : Int).toNat)) else (none)) else (Yq.j3 k x0)) else (none)) else (none)) else (Yq.j3 k x0)
def Yq.l0 : Nat → ByteArray → Option (ByteArray)
 | 0, _ => none
 | k + 1, x0 => if (x0.size : Int) > 0 then (if 0 < (x0.size : Int) then (if (bt x0 0) ≤ 32 then (if 1 ≤ (x0.size : Int) then (Yq.l0 k (x0.extract 1 x0.size)) else (none)) else (Yq.j1 k x0)) else (none)) else (Yq.j1 k x0)
end
def Yq.f (k : Nat) (a0 : ByteArray) : Option (ByteArray) := Yq.l0 k a0
theorem Yq.calls (k : Nat) (a0 r : ByteArray) (w : World) (hE : EnvOk w) (h : Yq.f k a0 = some r) :
  Calls Tryz.prog 22 #[.string a0] w fun e w' => e = .returned (.string r) ∧ Below w.heap.size w w' := by
 have HE := Ya.mk hE
 clear hE
 have HB := Ya.mk (Below.refl w.heap.size w)
 have H : (Yq.l0 k a0) = some r := h
 clear h
 have HC2 := Ya.mk H
 clear H
 go_enter Tryz.func22, Tryz.ntmps22
 go_upto_block 0 with (fail)
 go_cut [0] (fun v0 wc => ∃ (kq : Nat) (aX : ByteArray), v0 = .string aX ∧ Ya (Yq.j1 kq aX = some r) ∧ Ya (kq ≤ k) ∧ Ya (Below w.heap.size w wc))
 case first =>
  have H := HC2.out
  clear HC2
  have H' := Ya.mk H
  clear H
  go_wp2
  go_loopg [0] k (fun kq v0 w' => ∃ (aX : ByteArray), v0 = .string aX ∧ Ya (Yq.l0 kq aX = some r) ∧ Ya (kq ≤ k) ∧ Ya (Below w.heap.size w w'))
  case atStart => exact ⟨(a0), Zf, H', ⟨Nat.le_refl _⟩, ⟨Za⟩⟩
  case round =>
   clear H'
   try clear c2
   try clear p2
   obtain ⟨aX, rfl, HA, cU, HB⟩ := hrel
   cases gk with
   | zero => exact absurd HA.out (by simp [Yq.l0])
   | succ k1 =>
    have H := HA.out
    clear HA
    simp only [Yq.l0] at H
    by_cases c3 : (aX.size : Int) > 0
    rotate_left
    ·rw [if_neg c3] at H
     have cB : decide (0 < (aX.size : Int)) = false := decide_eq_false c3
     have fV : decide (0 < aX.size) = false := decide_eq_false Zk
     clear c3
     (first | rw [cB] | (simp only [Yca, Yga]; rw [cB]) | skip)
     have H' := Ya.mk H
     clear H
     go_wp2
     go_meet
     case rel => exact ⟨_, (aX), Zf, H', ⟨Zia⟩, ⟨Za⟩⟩
    rw [if_pos c3] at H
    have cB : decide (0 < (aX.size : Int)) = true := decide_eq_true c3
    have fV : decide (0 < aX.size) = true := decide_eq_true Zk
    clear c3
    (first | rw [cB] | (simp only [Yca, Yga]; rw [cB]) | skip)
    by_cases c4 : 0 < (aX.size : Int)
    rotate_left
    ·rw [if_neg c4] at H
     exact absurd H Zv
    rw [if_pos c4] at H
    have bX : decide (0 < (aX.size : Int)) = true := decide_eq_true c4
    have jF : decide (0 < aX.size) = true := decide_eq_true Zk
    clear c4
    by_cases c6 : (bt aX 0) ≤ 32
    rotate_left
    ·rw [if_neg c6] at H
     have dN : decide ((bt aX 0) ≤ 32) = false := decide_eq_false c6
     clear c6
     have H' := Ya.mk H
     clear H
     have p5 : 0 ≤ (0 : Int) := Zk
     have q5 : 0 < aX.size := (by have : (0 : Int) < (aX.size : Int) := of_decide_eq_true Zc; omega)
     have kB : ∀ h : 0 < aX.size, ((aX[0]'h).toNat : Int) = bt aX 0 := Yza aX 0
     clear p5
     have qi5 : (0 < (aX.size : Int)) = True := eq_true (of_decide_eq_true Zc)
     replace q5 := eq_true q5
     go_wp2
     go_meet
     case rel => exact ⟨_, (aX), Zf, H', ⟨Zia⟩, ⟨Za⟩⟩
    rw [if_pos c6] at H
    have dN : decide ((bt aX 0) ≤ 32) = true := decide_eq_true c6
    clear c6
    by_cases c7 : 1 ≤ (aX.size : Int)
    rotate_left
    ·rw [if_neg c7] at H
     exact absurd H Zv
    rw [if_pos c7] at H
    have cQ := eq_true c7
    have iB : decide (1 ≤ (aX.size : Int)) = true := decide_eq_true c7
    clear c7
    have H' := Ya.mk H
    clear H
    have p5 : 0 ≤ (0 : Int) := Zk
    have q5 : 0 < aX.size := (by have : (0 : Int) < (aX.size : Int) := of_decide_eq_true Zc; omega)
    have kB : ∀ h : 0 < aX.size, ((aX[0]'h).toNat : Int) = bt aX 0 := Yza aX 0
    clear p5
    have qi5 : (0 < (aX.size : Int)) = True := eq_true (of_decide_eq_true Zc)
    replace q5 := eq_true q5
    go_wp2
    go_roundg k1
    case measure => have := cU.out; omega
    case rel => exact ⟨(aX.extract 1 aX.size), Zf, H', ⟨Zaa⟩, ⟨Za⟩⟩
 case rest =>
  clear HC2
  try clear c2
  try clear p2
  try clear c3
  try clear cB
  try clear fV
  try clear c4
  try clear bX
  try clear jF
  try clear p5
  try clear q5
  try clear kB
  try clear qi5
  try clear c6
  try clear dN
  try clear c7
  try clear cQ
  try clear iB
  try clear p2
  try clear p5
  try clear q5
  obtain ⟨kq, aX, rfl, HA, HJ1, HB⟩ := hcut
  cases kq with
  | zero => exact absurd HA.out (by simp [Yq.j1])
  | succ kj1 =>
   have H := HA.out
   clear HA
   simp only [Yq.j1] at H
   have HC8 := Ya.mk H
   clear H
   go_upto_block 2 with (fail)
   go_cut [0] (fun v0 wc => ∃ (kq : Nat) (cS : ByteArray), v0 = .string cS ∧ Ya (Yq.j3 kq cS = some r) ∧ Ya (kq ≤ kj1) ∧ Ya (Below w.heap.size w wc))
   case first =>
    have H := HC8.out
    clear HC8
    have H' := Ya.mk H
    clear H
    go_wp2
    go_loopg [0] kj1 (fun kq v0 w' => ∃ (fS : ByteArray), v0 = .string fS ∧ Ya (Yq.l1 kq fS = some r) ∧ Ya (kq ≤ kj1) ∧ Ya (Below w.heap.size w w'))
    case atStart => exact ⟨(aX), Zf, H', ⟨Nat.le_refl _⟩, ⟨Za⟩⟩
    case round =>
     clear H'
     try clear c2
     try clear p2
     try clear c3
     try clear cB
     try clear fV
     try clear c4
     try clear bX
     try clear jF
     try clear p5
     try clear q5
     try clear kB
     try clear qi5
     try clear c6
     try clear dN
     try clear c7
     try clear cQ
     try clear iB
     try clear p2
     try clear p5
     try clear q5
     obtain ⟨fS, rfl, HA, jT, HB⟩ := hrel
     cases gk with
     | zero => exact absurd HA.out (by simp [Yq.l1])
     | succ k2 =>
      have H := HA.out
      clear HA
      simp only [Yq.l1] at H
      by_cases c9 : (fS.size : Int) > 0
      rotate_left
      ·rw [if_neg c9] at H
       have iA : decide (0 < (fS.size : Int)) = false := decide_eq_false c9
       have lN : decide (0 < fS.size) = false := decide_eq_false Zk
       clear c9
       (first | rw [iA] | (simp only [Yca, Yga]; rw [iA]) | skip)
       have H' := Ya.mk H
       clear H
       go_wp2
       go_meet
       case rel => exact ⟨_, (fS), Zf, H', ⟨by have := HJ1.out; have := jT.out; first | omega | exact Nat.le_refl _⟩, ⟨Za⟩⟩
      rw [if_pos c9] at H
      have iA : decide (0 < (fS.size : Int)) = true := decide_eq_true c9
      have lN : decide (0 < fS.size) = true := decide_eq_true Zk
      clear c9
      (first | rw [iA] | (simp only [Yca, Yga]; rw [iA]) | skip)
      obtain ⟨ji10, jL⟩ : ∃ j_ : Int, (wrap64 ((fS.size : Int) - 1)) = j_ := ⟨_, rfl⟩
      replace H : (if 0 ≤ (ji10) then (if (ji10) < (fS.size : Int) then (if (bt fS (ji10)) ≤ 32 then (if (ji10) ≤ (fS.size : Int) then (Yq.l1 k2 (fS.extract 0 ((ji10) : Int).toNat)) else (none)) else (Yq.j3 k2 fS)) else (none)) else (none)) = some r := by first | (rw [jL] at H; exact H) | (simp only [jL] at H ⊢; exact H)
      have hji10w : (IntKind.i64.wrap ((fS.size : Int) - 1)) = ji10 := (Yca _).trans jL
      by_cases c11 : 0 ≤ (ji10)
      rotate_left
      ·rw [if_neg c11] at H
       exact absurd H Zv
      rw [if_pos c11] at H
      have gR : decide (0 ≤ (ji10)) = true := decide_eq_true c11
      clear c11
      by_cases dD : (ji10) < (fS.size : Int)
      rotate_left
      ·rw [if_neg dD] at H
       exact absurd H Zv
      rw [if_pos dD] at H
      have dS : decide ((ji10) < (fS.size : Int)) = true := decide_eq_true dD
      clear dD
      by_cases gO : (bt fS (ji10)) ≤ 32
      rotate_left
      ·rw [if_neg gO] at H
       have iC : decide ((bt fS (ji10)) ≤ 32) = false := decide_eq_false gO
       clear gO
       have H' := Ya.mk H
       clear H
       have mF : 0 ≤ ((ji10) : Int) := of_decide_eq_true Zc
       have mG : (ji10) < (fS.size : Int) := of_decide_eq_true Zc
       have sV := Yza fS (ji10)
       replace mF := eq_true mF
       replace mG := eq_true mG
       go_wp2
       go_meet
       case rel => exact ⟨_, (fS), Zf, H', ⟨by have := HJ1.out; have := jT.out; first | omega | exact Nat.le_refl _⟩, ⟨Za⟩⟩
      rw [if_pos gO] at H
      have iC : decide ((bt fS (ji10)) ≤ 32) = true := decide_eq_true gO
      clear gO
      have eS := eq_true (of_decide_eq_true Zc : 0 ≤ (ji10))
      by_cases eN : (ji10) ≤ (fS.size : Int)
      rotate_left
      ·rw [if_neg eN] at H
       exact absurd H Zv
      rw [if_pos eN] at H
      have gZ := eq_true eN
      have kC : decide ((ji10) ≤ (fS.size : Int)) = true := decide_eq_true eN
      clear eN
      have H' := Ya.mk H
      clear H
      have mF : 0 ≤ ((ji10) : Int) := of_decide_eq_true Zc
      have mG : (ji10) < (fS.size : Int) := of_decide_eq_true Zc
      have sV := Yza fS (ji10)
      replace mF := eq_true mF
      replace mG := eq_true mG
      go_wp2
      go_roundg k2
      case measure => have := HJ1.out; have := jT.out; omega
      case rel => exact ⟨(fS.extract 0 ((ji10) : Int).toNat), (by first | rfl | (simp; done) | (simp only [← jL] <;> (first | rfl | simp)) | (simp [*]; done)), H', ⟨by have := HJ1.out; have := jT.out; omega⟩, ⟨Za⟩⟩
   case rest =>
    clear HC8
    try clear c1
    try clear p1
    try clear q1
    try clear vX
    try clear c2
    try clear p2
    try clear c3
    try clear cB
    try clear fV
    try clear c4
    try clear bX
    try clear jF
    try clear p5
    try clear q5
    try clear kB
    try clear qi5
    try clear c6
    try clear dN
    try clear p6
    try clear c7
    try clear cQ
    try clear iB
    try clear c9
    try clear iA
    try clear lN
    try clear c11
    try clear gR
    try clear dD
    try clear dS
    try clear mF
    try clear mG
    try clear sV
    try clear gO
    try clear iC
    try clear dG
    try clear eS
    try clear eN
    try clear gZ
    try clear kC
    try clear mF
    try clear p2
    try clear p5
    try clear mG
    try clear q5
    obtain ⟨kq, cS, rfl, HA, HJ7, HB⟩ := hcut
    cases kq with
    | zero => exact absurd HA.out (by simp [Yq.j3])
    | succ kj7 =>
     have H := HA.out
     clear HA
     simp only [Yq.j3] at H
     have H' := Ya.mk H
     clear H
     go_wp2
     go_loopg [3, 4] kj7 (fun kq v3 v4 w' => ∃ (gN : List Int) (cA : Int), v4 = .int .i64 cA ∧ Ya (Yq.l2 kq cS gN cA = some r) ∧ Ya (kq ≤ kj7) ∧ Ya (Kd.R (Kd.int .u8) 5 w' w.heap.size (fun _ => True) v3 gN) ∧ Ya (Below w.heap.size w w'))
     case atStart => exact ⟨(([] : List Int)), (0), Zf, H', ⟨Nat.le_refl _⟩, ⟨Zfa⟩, ⟨Za⟩⟩
     case round =>
      clear H'
      try clear c1
      try clear p1
      try clear q1
      try clear vX
      try clear c2
      try clear p2
      try clear c3
      try clear cB
      try clear fV
      try clear c4
      try clear bX
      try clear jF
      try clear p5
      try clear q5
      try clear kB
      try clear qi5
      try clear c6
      try clear dN
      try clear p6
      try clear c7
      try clear cQ
      try clear iB
      try clear c9
      try clear iA
      try clear lN
      try clear c11
      try clear gR
      try clear dD
      try clear dS
      try clear mF
      try clear mG
      try clear sV
      try clear gO
      try clear iC
      try clear dG
      try clear eS
      try clear eN
      try clear gZ
      try clear kC
      try clear p1
      try clear mF
      try clear p2
      try clear p5
      try clear p6
      try clear q1
      try clear mG
      try clear q5
      obtain ⟨gN, cA, rfl, HA, sH, HO_3, HB⟩ := hrel
      cases gk with
      | zero => exact absurd HA.out (by simp [Yq.l2])
      | succ k3 =>
       have H := HA.out
       clear HA
       simp only [Yq.l2] at H
       by_cases eF : cA < (cS.size : Int)
       rotate_left
       ·rw [if_neg eF] at H
        have jK : decide (cA < (cS.size : Int)) = false := decide_eq_false eF
        clear eF
        obtain rfl := Option.some.inj H
        have aWV := Yzg (P := Tryz.prog) Tryz.underlying62 Tryz.underlying5 Tryz.underlying9 (Kd.own_of_R HO_3.out)
        go_wp2
        go_ret
        exact ⟨Zl, Za⟩
       rw [if_pos eF] at H
       have jK : decide (cA < (cS.size : Int)) = true := decide_eq_true eF
       clear eF
       by_cases eO : 0 ≤ cA
       rotate_left
       ·rw [if_neg eO] at H
        exact absurd H Zv
       rw [if_pos eO] at H
       have nV : decide (0 ≤ cA) = true := decide_eq_true eO
       clear eO
       by_cases gV : (bt cS cA) = 9
       ·rw [if_pos gV] at H
        have kA : ((bt cS cA) == 9) = true := beq_iff_eq.mpr gV
        have sT : ((bt cS cA) != 9) = false := bne_eq_false_iff_eq.mpr gV
        clear gV
        have H' := Ya.mk H
        clear H
        have p19 : 0 ≤ (cA : Int) := of_decide_eq_true Zc
        have q19 : cA < (cS.size : Int) := of_decide_eq_true Zc
        have aGk := Yza cS cA
        replace p19 := eq_true p19
        replace q19 := eq_true q19
        go_wp2
        go_roundg k3
        case measure => have := HJ1.out; have := HJ7.out; have := sH.out; omega
        case rel => exact ⟨(gN), (wrap64 (cA + 1)), Zf, H', ⟨Zhb⟩, ⟨Zm⟩, ⟨Za⟩⟩
       rw [if_neg gV] at H
       have kA : ((bt cS cA) == 9) = false := beq_eq_false_iff_ne.mpr gV
       have sT : ((bt cS cA) != 9) = true := bne_iff_ne.mpr gV
       by_cases iD : (bt cS cA) = 10
       ·rw [if_pos iD] at H
        have lJ : ((bt cS cA) == 10) = true := beq_iff_eq.mpr iD
        have oH : ((bt cS cA) != 10) = false := bne_eq_false_iff_eq.mpr iD
        clear iD
        have H' := Ya.mk H
        clear H
        have p19 : 0 ≤ (cA : Int) := of_decide_eq_true Zc
        have q19 : cA < (cS.size : Int) := of_decide_eq_true Zc
        have aGk := Yza cS cA
        replace p19 := eq_true p19
        replace q19 := eq_true q19
        have p21 : 0 ≤ (cA : Int) := of_decide_eq_true Zc
        have q21 : cA < (cS.size : Int) := of_decide_eq_true Zc
        have aDl := Yza cS cA
        replace p21 := eq_true p21
        replace q21 := eq_true q21
        go_wp2
        go_roundg k3
        case measure => have := HJ1.out; have := HJ7.out; have := sH.out; omega
        case rel => exact ⟨(gN), (wrap64 (cA + 1)), Zf, H', ⟨Zhb⟩, ⟨Zm⟩, ⟨Za⟩⟩
       rw [if_neg iD] at H
       have lJ : ((bt cS cA) == 10) = false := beq_eq_false_iff_ne.mpr iD
       have oH : ((bt cS cA) != 10) = true := bne_iff_ne.mpr iD
       by_cases jX : (bt cS cA) = 13
       ·rw [if_pos jX] at H
        have pU : ((bt cS cA) == 13) = true := beq_iff_eq.mpr jX
        have pV : ((bt cS cA) != 13) = false := bne_eq_false_iff_eq.mpr jX
        clear jX
        have H' := Ya.mk H
        clear H
        have p19 : 0 ≤ (cA : Int) := of_decide_eq_true Zc
        have q19 : cA < (cS.size : Int) := of_decide_eq_true Zc
        have aGk := Yza cS cA
        replace p19 := eq_true p19
        replace q19 := eq_true q19
        have p21 : 0 ≤ (cA : Int) := of_decide_eq_true Zc
        have q21 : cA < (cS.size : Int) := of_decide_eq_true Zc
        have aDl := Yza cS cA
        replace p21 := eq_true p21
        replace q21 := eq_true q21
        have p23 : 0 ≤ (cA : Int) := of_decide_eq_true Zc
        have q23 : cA < (cS.size : Int) := of_decide_eq_true Zc
        have aVN := Yza cS cA
        replace p23 := eq_true p23
        replace q23 := eq_true q23
        go_wp2
        go_roundg k3
        case measure => have := HJ1.out; have := HJ7.out; have := sH.out; omega
        case rel => exact ⟨(gN), (wrap64 (cA + 1)), Zf, H', ⟨Zhb⟩, ⟨Zm⟩, ⟨Za⟩⟩
       rw [if_neg jX] at H
       have pU : ((bt cS cA) == 13) = false := beq_eq_false_iff_ne.mpr jX
       have pV : ((bt cS cA) != 13) = true := bne_iff_ne.mpr jX
       by_cases uY : gN.length < 140737488355328
       rotate_left
       ·rw [if_neg uY] at H
        exact absurd H Zv
       rw [if_pos uY] at H
       have aJN := Ya.mk uY
       clear uY
       obtain ⟨aJO, uE⟩ : ∃ y_ : List Int, y_ = (gN ++ [bt cS cA]) := ⟨_, rfl⟩
       replace H : (Yq.l2 k3 cS aJO (wrap64 (cA + 1))) = some r := by first | (rw [uE]; with_reducible exact H) | (have dH := (Option.bind_some _ _).symm.trans H; rw [uE]; with_reducible exact dH) | (have dH := (Option.bind_some _ _).symm.trans H; with_reducible exact dH) | with_reducible exact H | (rw [uE]; exact H) | exact H
       have aJP := Ya.mk uE
       clear uE
       have H' := Ya.mk H
       clear H
       have p19 : 0 ≤ (cA : Int) := of_decide_eq_true Zc
       have q19 : cA < (cS.size : Int) := of_decide_eq_true Zc
       have aGk := Yza cS cA
       replace p19 := eq_true p19
       replace q19 := eq_true q19
       have p21 : 0 ≤ (cA : Int) := of_decide_eq_true Zc
       have q21 : cA < (cS.size : Int) := of_decide_eq_true Zc
       have aDl := Yza cS cA
       replace p21 := eq_true p21
       replace q21 := eq_true q21
       have p23 : 0 ≤ (cA : Int) := of_decide_eq_true Zc
       have q23 : cA < (cS.size : Int) := of_decide_eq_true Zc
       have aVN := Yza cS cA
       replace p23 := eq_true p23
       replace q23 := eq_true q23
       have p25 : 0 ≤ (cA : Int) := of_decide_eq_true Zc
       have q25 : cA < (cS.size : Int) := of_decide_eq_true Zc
       have aXX := Yza cS cA
       replace p25 := eq_true p25
       replace q25 := eq_true q25
       go_wp2_with (first | ((with_reducible refine Yde (b := .append) (xs := #[.tmp 53, .tmp 57]) rfl ?_); (try (refine Yli Zga ?_; dsimp only)); at_builtin; refine Kd.R_append (Kd.int .u8) (w0 := w) w.heap.size rfl (.tmp 53) (.tmp 57) 62 5 (.int .u8 0) 1 rfl Tryz.underlying62 Yam rfl Zda Zk u3 gN (bt cS cA) [.int .u8 (bt cS cA)] (fun _ => True) (fun _ => False) rfl rfl ?aP (fun _ hk => hk.elim) ?aF ?aO ?aB ?aS ?aL ?_; (case aP => exact rfl); (case aB => exact Za); (case aF => exact (fun _ _ => trivial)); (case aO => exact Zm); (case aS => exact (Yia Za)); (case aL => have := aJN.out; omega); intro aXY w27 ho hb hg hat; rw [← aJP.out] at ho; have aH := Ya.mk (hb); have aR := Ya.mk (ho); clear HB; clear HO_3; have HB := aH; have aJQ := aR; clear aH aR; clear ho hb hg hat))
       go_roundg k3
       case measure => have := HJ1.out; have := HJ7.out; have := sH.out; omega
       case rel => exact ⟨(aJO), (wrap64 (cA + 1)), Zf, H', ⟨Zhb⟩, ⟨by (with_reducible repeat (first | apply Kd.R_alloc | apply Kd.R_drewN | apply Kd.R_drew)); exact aJQ.out⟩, ⟨Za⟩⟩
end Go.Proofs.YtnmglnglbdpjjaaGreatDoor.X
