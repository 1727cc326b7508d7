import Derived.Test.YtihaeeldgimdiaaGreatDoorIUX8
import Derived.Test.YtihaeeldgimdiaaGreatDoorIURl
set_option linter.all false
namespace Go.Proofs.YtihaeeldgimdiaaGreatDoor.X
open Go.RowKit Go.Yw.PrintWords Go.Yw.PrintLast Go.Yw.PrintMore
attribute [local go_sem] Yxd Yvd Yze Yye Ymd Yld Yyd Ywd
set_option maxHeartbeats 8000000
set_option maxRecDepth 100000
mutual
def Yr.l0 : Nat → Y → Y → Y → Int → Option (Y)
 | 0, _, _, _, _ => none
 | k + 1, x0, x1, x5, x6 => if x6 < (x0.size : Int) then (if 0 ≤ x6 then ((Ykd.f (bt x0 x6)).bind fun zP => (Yr.l1 k x0 x1 x5 x6 zP 0)) else (none)) else (some x5)
def Yr.l1 : Nat → Y → Y → Y → Int → Bool → Int → Option (Y)
 | 0, _, _, _, _, _, _ => none
 | k + 1, x0, x1, x5, x6, x7, x8 => if x8 < (x1.size : Int) then (if x7 = true then (Yr.l1 k x0 x1 x5 x6 true (wrap64 (x8 + 1))) else (if 0 ≤ x8 then (if 0 ≤ x6 then (if x6 < (x0.size : Int) then (Yr.l1 k x0 x1 x5 x6 ((bt x1 x8) == (bt x0 x6)) (wrap64 (x8 + 1))) else (none)) else (none)) else (none))) else (if x7 = true then (if 0 ≤ x6 then (if x6 ≤ (wrap64 (x6 + 1)) then (if (wrap64 (x6 + 1)) ≤ (x0.size : Int) then (if x5.size + (x0.extract (x6 : Int).toNat ((wrap64 (x6 + 1)) : Int).toNat).size ≤ 9223372036854775807 then (Yr.l0 k x0 x1 (x5 ++ (x0.extract (x6 : Int).toNat ((wrap64 (x6 + 1)) : Int).toNat)) (wrap64 (x6 + 1))) else (none)) else (none)) else (none)) else (none)) else (if 0 ≤ x6 then (if x6 < (x0.size : Int) then ((Ysc.f (bt x0 x6)).bind fun oX => (if x5.size + oX.size ≤ 9223372036854775807 then (Yr.l0 k x0 x1 (x5 ++ oX) (wrap64 (x6 + 1))) else (none))) else (none)) else (none)))
end
def Yr.f (k : Nat) (a0 a1 : Y) : Option (Y) := Yr.l0 k a0 a1 (⟨#[]⟩ : Y) 0
theorem Yr.calls (k : Nat) (a0 a1 r : Y) (w : World) (hE : EnvOk w) (h : Yr.f k a0 a1 = some r) :
  Calls Tryz.prog 88 #[.string a0, .string a1] w fun e w' => e = .returned (.string r) ∧ Below w.heap.size w w' := by
 have HE := Ya.mk hE
 clear hE
 have HB := Ya.mk (Below.refl w.heap.size w)
 have H : (Yr.l0 k a0 a1 (⟨#[]⟩ : Y) 0) = some r := h
 clear h
 have H' := Ya.mk H
 clear H
 go_enter Tryz.func88, Tryz.ntmps88
 go_wp2
 repeat (go_quiet (fail); try go_wp2)
 go_loopg [5, 6] k (fun kq v5 v6 w' => ∃ (aI : Y) (aD : Int), v5 = .string aI ∧ v6 = .int .i64 aD ∧ Ya (Yr.l0 kq a0 a1 aI aD = some r) ∧ Ya (kq ≤ k) ∧ Ya (Below w.heap.size w w'))
 case atStart => exact ⟨((⟨#[]⟩ : Y)), (0), Zf, Zf, H', ⟨Ks _⟩, ⟨Za⟩⟩
 case round =>
  clear H'
  try clear p2
  obtain ⟨aI, aD, rfl, rfl, HA, cC, HB⟩ := hrel
  cases gk with
  | zero => exact absurd HA.out (by simp [Yr.l0])
  | succ k1 =>
   have H := HA.out
   clear HA
   simp only [Yr.l0] at H
   by_cases c3 : aD < (a0.size : Int)
   rotate_left
   ·rw [if_neg c3] at H
    have bV : decide (aD < (a0.size : Int)) = false := Ko c3
    clear c3
    obtain rfl := Kr H
    go_wp2
    repeat (go_quiet (fail); try go_wp2)
    go_ret
    exact ⟨Zk, Za⟩
   rw [if_pos c3] at H
   have bV : decide (aD < (a0.size : Int)) = true := Kn c3
   clear c3
   by_cases c4 : 0 ≤ aD
   rotate_left
   ·rw [if_neg c4] at H
    exact absurd H Zq
   rw [if_pos c4] at H
   have bM : decide (0 ≤ aD) = true := Kn c4
   clear c4
   obtain ⟨zP, sC, H⟩ := Kq H
   try dsimp -simprocs only at H
   have A6 := Ya.mk sC
   clear sC
   have H' := Ya.mk H
   clear H
   have p5 : (0 ≤ (aD : Int)) = True := Kl
   have q5 : aD < (a0.size : Int) := Km Zc
   have gJ := Ypa a0 aD
   replace q5 := Kp q5
   go_wp2_with (first | (go_at_call 116; (with_reducible refine (Ykd.calls (bt a0 aD) zP _ ?z1 A6.out).mono ?_); (case z1 => exact Kh); rintro e w' ⟨rfl, ⟨nd, rfl⟩⟩; (try first | exact ⟨rfl, _, World.drewN_drewN _ _ _⟩ | exact ⟨rfl, _, Eq.trans (World.drewN_drewN _ _ _) (congrArg (World.drewN _) (Nat.add_assoc _ _ _))⟩)))
   repeat (go_quiet (first | (go_at_call 116; (with_reducible refine (Ykd.calls (bt a0 aD) zP _ ?z1 A6.out).mono ?_); (case z1 => exact Kh); rintro e w' ⟨rfl, ⟨nd, rfl⟩⟩; (try first | exact ⟨rfl, _, World.drewN_drewN _ _ _⟩ | exact ⟨rfl, _, Eq.trans (World.drewN_drewN _ _ _) (congrArg (World.drewN _) (Nat.add_assoc _ _ _))⟩))); try go_wp2_with (first | (go_at_call 116; (with_reducible refine (Ykd.calls (bt a0 aD) zP _ ?z1 A6.out).mono ?_); (case z1 => exact Kh); rintro e w' ⟨rfl, ⟨nd, rfl⟩⟩; (try first | exact ⟨rfl, _, World.drewN_drewN _ _ _⟩ | exact ⟨rfl, _, Eq.trans (World.drewN_drewN _ _ _) (congrArg (World.drewN _) (Nat.add_assoc _ _ _))⟩))))
   go_loopg [7, 8] k1 (fun kq v7 v8 w' => ∃ (jH : Bool) (cR : Int), v7 = .bool jH ∧ v8 = .int .i64 cR ∧ Ya (Yr.l1 kq a0 a1 aI aD jH cR = some r) ∧ Ya (kq ≤ k1) ∧ Ya (Below w.heap.size w w'))
   case atStart => exact ⟨(zP), (0), Zf, Zf, H', ⟨Ks _⟩, ⟨Za⟩⟩
   case round =>
    clear H'
    try clear p2
    try clear c3
    try clear bV
    try clear c4
    try clear bM
    try clear p5
    try clear q5
    try clear gJ
    try clear p2
    try clear p5
    try clear q5
    obtain ⟨jH, cR, rfl, rfl, HA, kU, HB⟩ := hrel
    cases gk with
    | zero => exact absurd HA.out (by simp [Yr.l1])
    | succ k2 =>
     have H := HA.out
     clear HA
     simp only [Yr.l1] at H
     by_cases c7 : cR < (a1.size : Int)
     ·rw [if_pos c7] at H
      have cM : decide (cR < (a1.size : Int)) = true := Kn c7
      clear c7
      by_cases c8 : jH = true
      ·subst c8
       rw [if_pos rfl] at H
       have H' := Ya.mk H
       clear H
       go_wp2
       repeat (go_quiet (fail); try go_wp2)
       go_roundg k2
       case measure => have := cC.out; have := kU.out; omega
       case rel => exact ⟨(true), (wrap64 (cR + 1)), Zf, Zf, H', ⟨Zpa⟩, ⟨Za⟩⟩
      replace c8 := Kt c8
      subst c8
      rw [if_neg (show ¬ (false = true) by decide)] at H
      by_cases c9 : 0 ≤ cR
      rotate_left
      ·rw [if_neg c9] at H
       exact absurd H Zq
      rw [if_pos c9] at H
      have gN : decide (0 ≤ cR) = true := Kn c9
      clear c9
      by_cases bK : 0 ≤ aD
      rotate_left
      ·rw [if_neg bK] at H
       exact absurd H Zq
      rw [if_pos bK] at H
      have fM : decide (0 ≤ aD) = true := Kn bK
      clear bK
      by_cases bT : aD < (a0.size : Int)
      rotate_left
      ·rw [if_neg bT] at H
       exact absurd H Zq
      rw [if_pos bT] at H
      have dZ : decide (aD < (a0.size : Int)) = true := Kn bT
      clear bT
      have H' := Ya.mk H
      clear H
      have mU : (0 ≤ (cR : Int)) = True := Kl
      have iQ : cR < (a1.size : Int) := Km Zc
      have rL := Ypa a1 cR
      replace iQ := Kp iQ
      have pO : (0 ≤ (aD : Int)) = True := Kl
      have iP : aD < (a0.size : Int) := Km Zc
      have zO := Ypa a0 aD
      replace iP := Kp iP
      go_wp2
      repeat (go_quiet (fail); try go_wp2)
      go_roundg k2
      case measure => have := cC.out; have := kU.out; omega
      case rel => exact ⟨(((bt a1 cR) == (bt a0 aD))), (wrap64 (cR + 1)), Zf, Zf, H', ⟨Zpa⟩, ⟨Za⟩⟩
     rw [if_neg c7] at H
     have cM : decide (cR < (a1.size : Int)) = false := Ko c7
     clear c7
     by_cases cD : jH = true
     ·subst cD
      rw [if_pos rfl] at H
      by_cases bN : 0 ≤ aD
      rotate_left
      ·rw [if_neg bN] at H
       exact absurd H Zq
      rw [if_pos bN] at H
      have eA := Kp bN
      have pR : decide (0 ≤ aD) = true := Kn bN
      clear bN
      by_cases dF : aD ≤ (wrap64 (aD + 1))
      rotate_left
      ·rw [if_neg dF] at H
       exact absurd H Zq
      rw [if_pos dF] at H
      have gD := Kp dF
      have lP : decide (aD ≤ (wrap64 (aD + 1))) = true := Kn dF
      by_cases gG : (wrap64 (aD + 1)) ≤ (a0.size : Int)
      rotate_left
      ·rw [if_neg gG] at H
       exact absurd H Zq
      rw [if_pos gG] at H
      have kI := Kp gG
      have mP : decide ((wrap64 (aD + 1)) ≤ (a0.size : Int)) = true := Kn gG
      by_cases dR : aI.size + (a0.extract (aD : Int).toNat ((wrap64 (aD + 1)) : Int).toNat).size ≤ 9223372036854775807
      rotate_left
      ·rw [if_neg dR] at H
       exact absurd H Zq
      rw [if_pos dR] at H
      have lA := Kp dR
      have mO : decide (aI.size + (a0.extract (aD : Int).toNat ((wrap64 (aD + 1)) : Int).toNat).size ≤ 9223372036854775807) = true := Kn dR
      try have aEL : (9223372036854775807 < aI.size + (a0.extract (aD : Int).toNat ((wrap64 (aD + 1)) : Int).toNat).size) = False := eq_false (Nat.not_lt.2 dR)
      try have aZg : (9223372036854775807 < aI.size + (((wrap64 (aD + 1)) : Int).toNat - (aD : Int).toNat)) = False := eq_false (by have h9_ := dR; rw [ByteArray.size_extract] at h9_; omega)
      have H' := Ya.mk H
      clear H
      go_wp2
      repeat (go_quiet (fail); try go_wp2)
      go_roundg k2
      case measure => have := cC.out; have := kU.out; omega
      case rel => exact ⟨(aI ++ (a0.extract (aD : Int).toNat ((wrap64 (aD + 1)) : Int).toNat)), (wrap64 (aD + 1)), Zf, Zf, H', ⟨Zpa⟩, ⟨Za⟩⟩
     replace cD := Kt cD
     subst cD
     rw [if_neg (show ¬ (false = true) by decide)] at H
     by_cases kE : 0 ≤ aD
     rotate_left
     ·rw [if_neg kE] at H
      exact absurd H Zq
     rw [if_pos kE] at H
     have oJ : decide (0 ≤ aD) = true := Kn kE
     clear kE
     by_cases jD : aD < (a0.size : Int)
     rotate_left
     ·rw [if_neg jD] at H
      exact absurd H Zq
     rw [if_pos jD] at H
     have lG : decide (aD < (a0.size : Int)) = true := Kn jD
     clear jD
     obtain ⟨oX, aAU, H⟩ := Kq H
     try dsimp -simprocs only at H
     have A22 := Ya.mk aAU
     clear aAU
     by_cases kF : aI.size + oX.size ≤ 9223372036854775807
     rotate_left
     ·rw [if_neg kF] at H
      exact absurd H Zq
     rw [if_pos kF] at H
     have oM := Kp kF
     have oN : decide (aI.size + oX.size ≤ 9223372036854775807) = true := Kn kF
     try have aLJ : (9223372036854775807 < aI.size + oX.size) = False := eq_false (Nat.not_lt.2 kF)
     have H' := Ya.mk H
     clear H
     have p21 : (0 ≤ (aD : Int)) = True := Kl
     have q21 : aD < (a0.size : Int) := Km Zc
     have aGy := Ypa a0 aD
     replace q21 := Kp q21
     go_wp2_with (first | (go_at_call 117; (with_reducible refine (Ysc.calls (bt a0 aD) oX _ ?z1 A22.out).mono ?_); (case z1 => exact Kh); rintro e w24 ⟨rfl, hb⟩; replace HB := Ya.mk (Ys Za hb); (try clear hb)))
     repeat (go_quiet (first | (go_at_call 117; (with_reducible refine (Ysc.calls (bt a0 aD) oX _ ?z1 A22.out).mono ?_); (case z1 => exact Kh); rintro e w24 ⟨rfl, hb⟩; replace HB := Ya.mk (Ys Za hb); (try clear hb))); try go_wp2_with (first | (go_at_call 117; (with_reducible refine (Ysc.calls (bt a0 aD) oX _ ?z1 A22.out).mono ?_); (case z1 => exact Kh); rintro e w24 ⟨rfl, hb⟩; replace HB := Ya.mk (Ys Za hb); (try clear hb))))
     go_roundg k2
     case measure => have := cC.out; have := kU.out; omega
     case rel => exact ⟨(aI ++ oX), (wrap64 (aD + 1)), Zf, Zf, H', ⟨Zpa⟩, ⟨Za⟩⟩
def Yo.l0 : Nat → Y → Y → Y → Int → Option (Y)
 | 0, _, _, _, _ => none
 | k + 1, x0, x1, x5, x6 => if x6 < (x0.size : Int) then (if 0 ≤ x6 then (if (bt x0 x6) ≤ 32 then (if x6 ≤ (wrap64 (x6 + 1)) then (if (wrap64 (x6 + 1)) ≤ (x0.size : Int) then ((Yr.f k (x0.extract (x6 : Int).toNat ((wrap64 (x6 + 1)) : Int).toNat) (⟨#[]⟩ : Y)).bind fun tB => (if x5.size + tB.size ≤ 9223372036854775807 then (Yo.l0 k x0 x1 (x5 ++ tB) (wrap64 (x6 + 1))) else (none))) else (none)) else (none)) else (if (bt x0 x6) > 126 then (if x6 ≤ (wrap64 (x6 + 1)) then (if (wrap64 (x6 + 1)) ≤ (x0.size : Int) then ((Yr.f k (x0.extract (x6 : Int).toNat ((wrap64 (x6 + 1)) : Int).toNat) (⟨#[]⟩ : Y)).bind fun tC => (if x5.size + tC.size ≤ 9223372036854775807 then (Yo.l0 k x0 x1 (x5 ++ tC) (wrap64 (x6 + 1))) else (none))) else (none)) else (none)) else ((Yz.f k (bt x0 x6) (⟨#[34, 60, 62]⟩ : Y)).bind fun aGD => (if aGD = true then (if x6 ≤ (wrap64 (x6 + 1)) then (if (wrap64 (x6 + 1)) ≤ (x0.size : Int) then ((Yr.f k (x0.extract (x6 : Int).toNat ((wrap64 (x6 + 1)) : Int).toNat) (⟨#[]⟩ : Y)).bind fun oY => (if x5.size + oY.size ≤ 9223372036854775807 then (Yo.l0 k x0 x1 (x5 ++ oY) (wrap64 (x6 + 1))) else (none))) else (none)) else (none)) else ((Yz.f k (bt x0 x6) x1).bind fun aGE => (if aGE = true then (if x6 ≤ (wrap64 (x6 + 1)) then (if (wrap64 (x6 + 1)) ≤ (x0.size : Int) then ((Yr.f k (x0.extract (x6 : Int).toNat ((wrap64 (x6 + 1)) : Int).toNat) (⟨#[]⟩ : Y)).bind fun tD => (if x5.size + tD.size ≤ 9223372036854775807 then (Yo.l0 k x0 x1 (x5 ++ tD) (wrap64 (x6 + 1))) else (none))) else (none)) else (none)) else (if x6 ≤ (wrap64 (x6 + 1)) then (if (wrap64 (x6 + 1)) ≤ (x0.size : Int) then (if x5.size + (x0.extract (x6 : Int).toNat ((wrap64 (x6 + 1)) : Int).toNat).size ≤ 9223372036854775807 then (Yo.l0 k x0 x1 (x5 ++ (x0.extract (x6 : Int).toNat ((wrap64 (x6 + 1)) : Int).toNat)) (wrap64 (x6 + 1))) else (none)) else (none)) else (none)))))))) else (none)) else (some x5)
def Yo.f (k : Nat) (a0 a1 : Y) : Option (Y) := Yo.l0 k a0 a1 (⟨#[]⟩ : Y) 0
theorem Yo.calls (k : Nat) (a0 a1 r : Y) (w : World) (hE : EnvOk w) (h : Yo.f k a0 a1 = some r) :
  Calls Tryz.prog 61 #[.string a0, .string a1] w fun e w' => e = .returned (.string r) ∧ Below w.heap.size w w' := by
 have HE := Ya.mk hE
 clear hE
 have HB := Ya.mk (Below.refl w.heap.size w)
 have H : (Yo.l0 k a0 a1 (⟨#[]⟩ : Y) 0) = some r := h
 clear h
 have H' := Ya.mk H
 clear H
 go_enter Tryz.func61, Tryz.ntmps61
 go_wp2
 go_loopg [5, 6] k (fun kq v5 v6 w' => ∃ (aI : Y) (aD : Int), v5 = .string aI ∧ v6 = .int .i64 aD ∧ Ya (Yo.l0 kq a0 a1 aI aD = some r) ∧ Ya (kq ≤ k) ∧ Ya (Below w.heap.size w w'))
 case atStart => exact ⟨((⟨#[]⟩ : Y)), (0), Zf, Zf, H', ⟨Ks _⟩, ⟨Za⟩⟩
 case round =>
  clear H'
  try clear p2
  obtain ⟨aI, aD, rfl, rfl, HA, cC, HB⟩ := hrel
  cases gk with
  | zero => exact absurd HA.out (by simp [Yo.l0])
  | succ k1 =>
   have H := HA.out
   clear HA
   simp only [Yo.l0] at H
   by_cases c3 : aD < (a0.size : Int)
   rotate_left
   ·rw [if_neg c3] at H
    have bV : decide (aD < (a0.size : Int)) = false := Ko c3
    clear c3
    obtain rfl := Kr H
    go_wp2
    go_ret
    exact ⟨Zk, Za⟩
   rw [if_pos c3] at H
   have bV : decide (aD < (a0.size : Int)) = true := Kn c3
   clear c3
   by_cases c4 : 0 ≤ aD
   rotate_left
   ·rw [if_neg c4] at H
    exact absurd H Zq
   rw [if_pos c4] at H
   have bM : decide (0 ≤ aD) = true := Kn c4
   clear c4
   by_cases c6 : (bt a0 aD) ≤ 32
   ·rw [if_pos c6] at H
    have dN : decide ((bt a0 aD) ≤ 32) = true := Kn c6
    clear c6
    have cM := Kp (Km Zc : 0 ≤ aD)
    by_cases c8 : aD ≤ (wrap64 (aD + 1))
    rotate_left
    ·rw [if_neg c8] at H
     exact absurd H Zq
    rw [if_pos c8] at H
    have fS := Kp c8
    have jA : decide (aD ≤ (wrap64 (aD + 1))) = true := Kn c8
    by_cases c9 : (wrap64 (aD + 1)) ≤ (a0.size : Int)
    rotate_left
    ·rw [if_neg c9] at H
     exact absurd H Zq
    rw [if_pos c9] at H
    have gN := Kp c9
    have nX : decide ((wrap64 (aD + 1)) ≤ (a0.size : Int)) = true := Kn c9
    obtain ⟨tB, rO, H⟩ := Kq H
    try dsimp -simprocs only at H
    have gE := Ya.mk rO
    clear rO
    by_cases bK : aI.size + tB.size ≤ 9223372036854775807
    rotate_left
    ·rw [if_neg bK] at H
     exact absurd H Zq
    rw [if_pos bK] at H
    have fM := Kp bK
    have kH : decide (aI.size + tB.size ≤ 9223372036854775807) = true := Kn bK
    try have aLK : (9223372036854775807 < aI.size + tB.size) = False := eq_false (Nat.not_lt.2 bK)
    have H' := Ya.mk H
    clear H
    have p5 : (0 ≤ (aD : Int)) = True := Kl
    have q5 : aD < (a0.size : Int) := Km Zc
    have gJ := Ypa a0 aD
    replace q5 := Kp q5
    go_wp2_with (first | ((with_reducible refine Yh (f := 88) rfl ?_); refine Yy (some 38) rfl rfl Tryz.func88 Zi rfl #[.string (a0.extract (aD : Int).toNat ((wrap64 (aD + 1)) : Int).toNat), .string (⟨#[]⟩ : Y)] rfl Zb ?_; (with_reducible refine (Yr.calls k1 (a0.extract (aD : Int).toNat ((wrap64 (aD + 1)) : Int).toNat) (⟨#[]⟩ : Y) tB _ ?z1 gE.out).mono ?_); (case z1 => exact Kh); rintro e uA ⟨rfl, hb⟩; refine ⟨_, rfl, ?_⟩; replace HB := Ya.mk (Ys Za hb); (try clear hb)))
    go_roundg k1
    case measure => have := cC.out; omega
    case rel => exact ⟨(aI ++ tB), (wrap64 (aD + 1)), Zf, Zf, H', ⟨Zu⟩, ⟨Za⟩⟩
   rw [if_neg c6] at H
   have dN : decide ((bt a0 aD) ≤ 32) = false := Ko c6
   clear c6
   by_cases cI : (bt a0 aD) > 126
   ·rw [if_pos cI] at H
    have hJ : decide (126 < (bt a0 aD)) = true := Kn cI
    clear cI
    have gC := Kp (Km Zc : 0 ≤ aD)
    by_cases bN : aD ≤ (wrap64 (aD + 1))
    rotate_left
    ·rw [if_neg bN] at H
     exact absurd H Zq
    rw [if_pos bN] at H
    have eA := Kp bN
    have pR : decide (aD ≤ (wrap64 (aD + 1))) = true := Kn bN
    by_cases dF : (wrap64 (aD + 1)) ≤ (a0.size : Int)
    rotate_left
    ·rw [if_neg dF] at H
     exact absurd H Zq
    rw [if_pos dF] at H
    have gD := Kp dF
    have lP : decide ((wrap64 (aD + 1)) ≤ (a0.size : Int)) = true := Kn dF
    obtain ⟨tC, oC, H⟩ := Kq H
    try dsimp -simprocs only at H
    have zY := Ya.mk oC
    clear oC
    by_cases dR : aI.size + tC.size ≤ 9223372036854775807
    rotate_left
    ·rw [if_neg dR] at H
     exact absurd H Zq
    rw [if_pos dR] at H
    have lA := Kp dR
    have mO : decide (aI.size + tC.size ≤ 9223372036854775807) = true := Kn dR
    try have aEL : (9223372036854775807 < aI.size + tC.size) = False := eq_false (Nat.not_lt.2 dR)
    have H' := Ya.mk H
    clear H
    have p5 : (0 ≤ (aD : Int)) = True := Kl
    have q5 : aD < (a0.size : Int) := Km Zc
    have gJ := Ypa a0 aD
    replace q5 := Kp q5
    go_wp2_with (first | ((with_reducible refine Yh (f := 88) rfl ?_); refine Yy (some 38) rfl rfl Tryz.func88 Zi rfl #[.string (a0.extract (aD : Int).toNat ((wrap64 (aD + 1)) : Int).toNat), .string (⟨#[]⟩ : Y)] rfl Zb ?_; (with_reducible refine (Yr.calls k1 (a0.extract (aD : Int).toNat ((wrap64 (aD + 1)) : Int).toNat) (⟨#[]⟩ : Y) tC _ ?z1 zY.out).mono ?_); (case z1 => exact Kh); rintro e w19 ⟨rfl, hb⟩; refine ⟨_, rfl, ?_⟩; replace HB := Ya.mk (Ys Za hb); (try clear hb)))
    go_roundg k1
    case measure => have := cC.out; omega
    case rel => exact ⟨(aI ++ tC), (wrap64 (aD + 1)), Zf, Zf, H', ⟨Zu⟩, ⟨Za⟩⟩
   rw [if_neg cI] at H
   have hJ : decide (126 < (bt a0 aD)) = false := Ko cI
   clear cI
   obtain ⟨aGD, aLL, H⟩ := Kq H
   try dsimp -simprocs only at H
   have dX := Ya.mk aLL
   clear aLL
   by_cases sX : aGD = true
   ·subst sX
    rw [if_pos rfl] at H
    have pL := Kp (Km Zc : 0 ≤ aD)
    by_cases kF : aD ≤ (wrap64 (aD + 1))
    rotate_left
    ·rw [if_neg kF] at H
     exact absurd H Zq
    rw [if_pos kF] at H
    have oM := Kp kF
    have oN : decide (aD ≤ (wrap64 (aD + 1))) = true := Kn kF
    by_cases kX : (wrap64 (aD + 1)) ≤ (a0.size : Int)
    rotate_left
    ·rw [if_neg kX] at H
     exact absurd H Zq
    rw [if_pos kX] at H
    have pP := Kp kX
    have pQ : decide ((wrap64 (aD + 1)) ≤ (a0.size : Int)) = true := Kn kX
    obtain ⟨oY, aLM, H⟩ := Kq H
    try dsimp -simprocs only at H
    have A25 := Ya.mk aLM
    clear aLM
    by_cases wH : aI.size + oY.size ≤ 9223372036854775807
    rotate_left
    ·rw [if_neg wH] at H
     exact absurd H Zq
    rw [if_pos wH] at H
    have aLN := Kp wH
    have aZh : decide (aI.size + oY.size ≤ 9223372036854775807) = true := Kn wH
    try have aZi : (9223372036854775807 < aI.size + oY.size) = False := eq_false (Nat.not_lt.2 wH)
    have H' := Ya.mk H
    clear H
    have p5 : (0 ≤ (aD : Int)) = True := Kl
    have q5 : aD < (a0.size : Int) := Km Zc
    have gJ := Ypa a0 aD
    replace q5 := Kp q5
    go_wp2_with (first | (go_at_call 57; (with_reducible refine (Yz.calls k1 (bt a0 aD) (⟨#[34, 60, 62]⟩ : Y) true _ ?z1 dX.out).mono ?_); (case z1 => exact Kh); rintro e w' ⟨rfl, ⟨nd, rfl⟩⟩) | ((with_reducible refine Yh (f := 88) rfl ?_); refine Yy (some 38) rfl rfl Tryz.func88 Zi rfl #[.string (a0.extract (aD : Int).toNat ((wrap64 (aD + 1)) : Int).toNat), .string (⟨#[]⟩ : Y)] rfl Zb ?_; (with_reducible refine (Yr.calls k1 (a0.extract (aD : Int).toNat ((wrap64 (aD + 1)) : Int).toNat) (⟨#[]⟩ : Y) oY _ ?z1 A25.out).mono ?_); (case z1 => exact Kh); rintro e w27 ⟨rfl, hb⟩; refine ⟨_, rfl, ?_⟩; replace HB := Ya.mk (Ys Za hb); (try clear hb)))
    go_roundg k1
    case measure => have := cC.out; omega
    case rel => exact ⟨(aI ++ oY), (wrap64 (aD + 1)), Zf, Zf, H', ⟨Zu⟩, ⟨Za⟩⟩
   replace sX := Kt sX
   subst sX
   rw [if_neg (show ¬ (false = true) by decide)] at H
   obtain ⟨aGE, sQ, H⟩ := Kq H
   try dsimp -simprocs only at H
   have A28 := Ya.mk sQ
   clear sQ
   by_cases oG : aGE = true
   rotate_left
   ·replace oG := Kt oG
    subst oG
    rw [if_neg (show ¬ (false = true) by decide)] at H
    have aZj := Kp (Km Zc : 0 ≤ aD)
    by_cases c37 : aD ≤ (wrap64 (aD + 1))
    rotate_left
    ·rw [if_neg c37] at H
     exact absurd H Zq
    rw [if_pos c37] at H
    have aZk := Kp c37
    have aZl : decide (aD ≤ (wrap64 (aD + 1))) = true := Kn c37
    by_cases c38 : (wrap64 (aD + 1)) ≤ (a0.size : Int)
    rotate_left
    ·rw [if_neg c38] at H
     exact absurd H Zq
    rw [if_pos c38] at H
    have aZm := Kp c38
    have aZn : decide ((wrap64 (aD + 1)) ≤ (a0.size : Int)) = true := Kn c38
    by_cases c39 : aI.size + (a0.extract (aD : Int).toNat ((wrap64 (aD + 1)) : Int).toNat).size ≤ 9223372036854775807
    rotate_left
    ·rw [if_neg c39] at H
     exact absurd H Zq
    rw [if_pos c39] at H
    have aZo := Kp c39
    have aZp : decide (aI.size + (a0.extract (aD : Int).toNat ((wrap64 (aD + 1)) : Int).toNat).size ≤ 9223372036854775807) = true := Kn c39
    try have aZq : (9223372036854775807 < aI.size + (a0.extract (aD : Int).toNat ((wrap64 (aD + 1)) : Int).toNat).size) = False := eq_false (Nat.not_lt.2 c39)
    try have aZr : (9223372036854775807 < aI.size + (((wrap64 (aD + 1)) : Int).toNat - (aD : Int).toNat)) = False := eq_false (by have h9_ := c39; rw [ByteArray.size_extract] at h9_; omega)
    have H' := Ya.mk H
    clear H
    have p5 : (0 ≤ (aD : Int)) = True := Kl
    have q5 : aD < (a0.size : Int) := Km Zc
    have gJ := Ypa a0 aD
    replace q5 := Kp q5
    go_wp2_with (first | (go_at_call 57; (with_reducible refine (Yz.calls k1 (bt a0 aD) (⟨#[34, 60, 62]⟩ : Y) false _ ?z1 dX.out).mono ?_); (case z1 => exact Kh); rintro e w' ⟨rfl, ⟨nd, rfl⟩⟩) | (go_at_call 57; (with_reducible refine (Yz.calls k1 (bt a0 aD) a1 false _ ?z1 A28.out).mono ?_); (case z1 => exact Kh); rintro e w' ⟨rfl, ⟨nd, rfl⟩⟩))
    go_roundg k1
    case measure => have := cC.out; omega
    case rel => exact ⟨(aI ++ (a0.extract (aD : Int).toNat ((wrap64 (aD + 1)) : Int).toNat)), (wrap64 (aD + 1)), Zf, Zf, H', ⟨Zu⟩, ⟨Za⟩⟩
   subst oG
   rw [if_pos rfl] at H
   have aZs := Kp (Km Zc : 0 ≤ aD)
   by_cases zQ : aD ≤ (wrap64 (aD + 1))
   rotate_left
   ·rw [if_neg zQ] at H
    exact absurd H Zq
   rw [if_pos zQ] at H
   have aBG := Kp zQ
   have aBH : decide (aD ≤ (wrap64 (aD + 1))) = true := Kn zQ
   by_cases c32 : (wrap64 (aD + 1)) ≤ (a0.size : Int)
   rotate_left
   ·rw [if_neg c32] at H
    exact absurd H Zq
   rw [if_pos c32] at H
   have aLO := Kp c32
   have aZt : decide ((wrap64 (aD + 1)) ≤ (a0.size : Int)) = true := Kn c32
   obtain ⟨tD, aLP, H⟩ := Kq H
   try dsimp -simprocs only at H
   have A33 := Ya.mk aLP
   clear aLP
   by_cases c34 : aI.size + tD.size ≤ 9223372036854775807
   rotate_left
   ·rw [if_neg c34] at H
    exact absurd H Zq
   rw [if_pos c34] at H
   have aEM := Kp c34
   have aZu : decide (aI.size + tD.size ≤ 9223372036854775807) = true := Kn c34
   try have aZv : (9223372036854775807 < aI.size + tD.size) = False := eq_false (Nat.not_lt.2 c34)
   have H' := Ya.mk H
   clear H
   have p5 : (0 ≤ (aD : Int)) = True := Kl
   have q5 : aD < (a0.size : Int) := Km Zc
   have gJ := Ypa a0 aD
   replace q5 := Kp q5
   go_wp2_with (first | (go_at_call 57; (with_reducible refine (Yz.calls k1 (bt a0 aD) (⟨#[34, 60, 62]⟩ : Y) false _ ?z1 dX.out).mono ?_); (case z1 => exact Kh); rintro e w' ⟨rfl, ⟨nd, rfl⟩⟩) | (go_at_call 57; (with_reducible refine (Yz.calls k1 (bt a0 aD) a1 true _ ?z1 A28.out).mono ?_); (case z1 => exact Kh); rintro e w' ⟨rfl, ⟨nd, rfl⟩⟩) | ((with_reducible refine Yh (f := 88) rfl ?_); refine Yy (some 38) rfl rfl Tryz.func88 Zi rfl #[.string (a0.extract (aD : Int).toNat ((wrap64 (aD + 1)) : Int).toNat), .string (⟨#[]⟩ : Y)] rfl Zb ?_; (with_reducible refine (Yr.calls k1 (a0.extract (aD : Int).toNat ((wrap64 (aD + 1)) : Int).toNat) (⟨#[]⟩ : Y) tD _ ?z1 A33.out).mono ?_); (case z1 => exact Kh); rintro e zJ ⟨rfl, hb⟩; refine ⟨_, rfl, ?_⟩; replace HB := Ya.mk (Ys Za hb); (try clear hb)))
   go_roundg k1
   case measure => have := cC.out; omega
   case rel => exact ⟨(aI ++ tD), (wrap64 (aD + 1)), Zf, Zf, H', ⟨Zu⟩, ⟨Za⟩⟩
end Go.Proofs.YtihaeeldgimdiaaGreatDoor.X
