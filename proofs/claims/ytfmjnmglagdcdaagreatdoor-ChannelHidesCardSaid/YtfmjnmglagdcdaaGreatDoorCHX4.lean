/- Printed by a program of ours: functions as plain Lean, and what a call of each does. -/
import Derived.Test.YtfmjnmglagdcdaaGreatDoorCHWords
import Derived.Test.YtfmjnmglagdcdaaGreatDoorCHX0
import Derived.Test.YtfmjnmglagdcdaaGreatDoorCHX1
import Derived.Test.YtfmjnmglagdcdaaGreatDoorCHX2
import Derived.Test.YtfmjnmglagdcdaaGreatDoorCHX3
import Derived.Test.YtfmjnmglagdcdaaGreatDoorCHCh
namespace Go.Proofs.YtfmjnmglagdcdaaGreatDoor.X
open Go.RowKit Go.Yw.PrintWords Go.Yw.PrintLast Go.Yw.PrintMore
attribute [local go_sem] Ygf Ybf Yzf Yag Yme Ype Ydf Yff
set_option linter.unusedVariables false
set_option linter.unusedSimpArgs false
mutual
def Yr.l0 : Nat → ByteArray → List ByteArray → Int → Int → Int → Option (List ByteArray)
 | 0, _, _, _, _, _ => none
 | k + 1, x0, x3, x4, x9, x10 => if x10 < x9 then (if x10 < (x0.size : Int) then (if 0 ≤ x10 then ((Yqe.f (bt x0 x10)).bind fun t168 => (Yr.j1 k x0 x3 x4 x10 (!t168) x9 x10)) else (none)) else (Yr.j1 k x0 x3 x4 x10 false x9 x10)) else (some x3)
def Yr.j1 : Nat → ByteArray → List ByteArray → Int → Int → Bool → Int → Int → Option (List ByteArray)
 | 0, _, _, _, _, _, _, _ => none
 | k + 1, x0, x3, x4, x5, x6, x9, x10 => if x6 = true then (Yr.j2 k x0 x3 x4 x5 x6 x9 x10 (decide (x4 < 0))) else (Yr.j2 k x0 x3 x4 x5 x6 x9 x10 false)
def Yr.j2 : Nat → ByteArray → List ByteArray → Int → Int → Bool → Int → Int → Bool → Option (List ByteArray)
 | 0, _, _, _, _, _, _, _, _ => none
 | k + 1, x0, x3, x4, x5, x6, x9, x10, x24 => if x24 = true then (Yr.l0 k x0 x3 x5 x9 (wrap64 (x10 + 1))) else (if x6 = true then (Yr.l0 k x0 x3 x4 x9 (wrap64 (x10 + 1))) else (if x4 ≥ 0 then (if 0 ≤ x4 then (if x4 ≤ x5 then (if x5 ≤ (x0.size : Int) then (if x3.length < 8796093022208 then (Yr.l0 k x0 (x3 ++ [x0.extract (x4 : Int).toNat (x5 : Int).toNat]) (-1) x9 (wrap64 (x10 + 1))) else (none)) else (none)) else (none)) else (none)) else (Yr.l0 k x0 x3 x4 x9 (wrap64 (x10 + 1)))))
end
def Yr.f (k : Nat) (a0 : ByteArray) : Option (List ByteArray) := Yr.l0 k a0 ([] : List ByteArray) (-1) (wrap64 ((a0.size : Int) + 1)) 0
set_option maxHeartbeats 8000000 in
set_option maxRecDepth 100000 in
theorem Yr.calls (k : Nat) (a0 : ByteArray) (r : List ByteArray) (w : World) (hE : EnvOk w) (h : Yr.f k a0 = some r) :
  Calls Tryz.prog 87 #[.string a0] w fun e w' => ∃ v0_ : Value, e = .returned (v0_) ∧ Kd.R Kd.string 9 w' w.heap.size (fun _ => True) v0_ r ∧ Below w.heap.size w w' := by
 have HE := Ya.mk hE
 clear hE
 have HB := Ya.mk (Below.refl w.heap.size w)
 have H : (Yr.l0 k a0 ([] : List ByteArray) (-1) (wrap64 ((a0.size : Int) + 1)) 0) = some r := h
 clear h
 have H' := Ya.mk H
 clear H
 go_enter Tryz.func87, Tryz.ntmps87
 go_wp2
 go_loopg [3, 4, 10] k (fun kq v3 v4 v10 w' => ∃ (x3_1 : List ByteArray) (x4_1 : Int) (x10_1 : Int), v4 = .int .i64 x4_1 ∧ v10 = .int .i64 x10_1 ∧ Ya (Yr.l0 kq a0 x3_1 x4_1 (wrap64 ((a0.size : Int) + 1)) x10_1 = some r) ∧ Ya (kq ≤ k) ∧ Ya (Kd.R Kd.string 9 w' w.heap.size (fun _ => True) v3 x3_1) ∧ Ya (Below w.heap.size w w'))
 case atStart => exact ⟨(([] : List ByteArray)), ((-1)), (0), Zf, Zf, H', ⟨Nat.le_refl _⟩, ⟨Zx⟩, ⟨Zc⟩⟩
 case round =>
  clear H'
  obtain ⟨x3_1, x4_1, x10_1, rfl, rfl, HA, HK1, HO_3, HB⟩ := hrel
  cases gk with
  | zero => exact absurd HA.out (by simp [Yr.l0])
  | succ k1 =>
   have H := HA.out
   clear HA
   simp only [Yr.l0] at H
   by_cases c2 : x10_1 < (wrap64 ((a0.size : Int) + 1))
   rotate_left
   ·rw [if_neg c2] at H
    have c2b0 : decide (x10_1 < (wrap64 ((a0.size : Int) + 1))) = false := decide_eq_false c2
    clear c2
    obtain rfl := Option.some.inj H
    go_wp2
    go_ret
    exact ⟨_, Zj, Zp, Zc⟩
   rw [if_pos c2] at H
   have c2b0 : decide (x10_1 < (wrap64 ((a0.size : Int) + 1))) = true := decide_eq_true c2
   clear c2
   have HC3 := Ya.mk H
   clear H
   go_upto_region 6 with (fail)
   go_cut [6] (fun v6 wc => ∃ (kq : Nat) (x6_2 : Bool), v6 = .bool x6_2 ∧ Ya (Yr.j1 kq a0 x3_1 x4_1 x10_1 x6_2 (wrap64 ((a0.size : Int) + 1)) x10_1 = some r) ∧ Ya (kq ≤ k1) ∧ Ya (Kd.R Kd.string 9 wc w.heap.size (fun _ => True) u3 x3_1) ∧ Ya (Below w.heap.size w wc))
   case first =>
    have H := HC3.out
    clear HC3
    by_cases c4 : x10_1 < (a0.size : Int)
    rotate_left
    ·rw [if_neg c4] at H
     have c4b0 : decide (x10_1 < (a0.size : Int)) = false := decide_eq_false c4
     clear c4
     (first | rw [c4b0] | (simp only [Yza, Yab]; rw [c4b0]) | skip)
     have H' := Ya.mk H
     clear H
     go_wp2
     go_meet
     case rel => exact ⟨_, (false), Zf, H', ⟨by have := HK1.out; first | omega | exact Nat.le_refl _⟩, ⟨Zp⟩, ⟨Zc⟩⟩
    rw [if_pos c4] at H
    have c4b0 : decide (x10_1 < (a0.size : Int)) = true := decide_eq_true c4
    clear c4
    (first | rw [c4b0] | (simp only [Yza, Yab]; rw [c4b0]) | skip)
    by_cases c5 : 0 ≤ x10_1
    rotate_left
    ·rw [if_neg c5] at H
     exact absurd H Zy
    rw [if_pos c5] at H
    have c5b0 : decide (0 ≤ x10_1) = true := decide_eq_true c5
    clear c5
    replace H := Option.bind_eq_some_iff.mp H
    obtain ⟨t168, A70, H⟩ := H
    try dsimp -simprocs only at H
    have A7 := Ya.mk A70
    clear A70
    have H' := Ya.mk H
    clear H
    have p6 : 0 ≤ (x10_1 : Int) := of_decide_eq_true Zh
    have q6 : x10_1 < (a0.size : Int) := of_decide_eq_true Zh
    have hx6 := Yzc a0 x10_1
    replace p6 := eq_true p6
    replace q6 := eq_true q6
    go_wp2_with (first | (go_at_call 112; (with_reducible refine (Yqe.calls (bt a0 x10_1) t168 _ ?side1 A7.out).mono ?_); (case side1 => first | exact HE.out | exact EnvOk.below HE.out Zc); rintro e w' ⟨rfl, ⟨nd, rfl⟩⟩))
    go_meet
    case rel => exact ⟨_, (!t168), Zf, H', ⟨by have := HK1.out; first | omega | exact Nat.le_refl _⟩, ⟨Zp⟩, ⟨Zc⟩⟩
   case rest =>
    clear HC3
    try clear c2
    try clear c2b0
    try clear p2
    try clear c4
    try clear c4b0
    try clear c5
    try clear c5b0
    try clear p6
    try clear q6
    try clear hx6
    try clear p6
    try clear q6
    obtain ⟨kq, x6_2, rfl, HA, HJ2, HO_3, HB⟩ := hcut
    cases kq with
    | zero => exact absurd HA.out (by simp [Yr.j1])
    | succ kj2 =>
     have H := HA.out
     clear HA
     simp only [Yr.j1] at H
     have HC8 := Ya.mk H
     clear H
     go_upto_region 7 with (fail)
     go_cut [24] (fun v24 wc => ∃ (kq : Nat) (x24_7 : Bool), v24 = .bool x24_7 ∧ Ya (Yr.j2 kq a0 x3_1 x4_1 x10_1 x6_2 (wrap64 ((a0.size : Int) + 1)) x10_1 x24_7 = some r) ∧ Ya (kq ≤ kj2) ∧ Ya (Kd.R Kd.string 9 wc w.heap.size (fun _ => True) u3 x3_1) ∧ Ya (Below w.heap.size w wc))
     case first =>
      have H := HC8.out
      clear HC8
      by_cases c9 : x6_2 = true
      ·subst c9
       rw [if_pos rfl] at H
       have H' := Ya.mk H
       clear H
       go_wp2
       go_meet
       case rel => exact ⟨_, (decide (x4_1 < 0)), Zf, H', ⟨by have := HK1.out; have := HJ2.out; first | omega | exact Nat.le_refl _⟩, ⟨Zp⟩, ⟨Zc⟩⟩
      replace c9 := Bool.eq_false_iff.mpr c9
      subst c9
      rw [if_neg (show ¬ (false = true) by decide)] at H
      have H' := Ya.mk H
      clear H
      go_wp2
      go_meet
      case rel => exact ⟨_, (false), Zf, H', ⟨by have := HK1.out; have := HJ2.out; first | omega | exact Nat.le_refl _⟩, ⟨Zp⟩, ⟨Zc⟩⟩
     case rest =>
      clear HC8
      try clear c2
      try clear c2b0
      try clear p2
      try clear c4
      try clear c4b0
      try clear c5
      try clear c5b0
      try clear p6
      try clear q6
      try clear hx6
      try clear c8
      try clear c9
      try clear p2
      try clear p6
      try clear q6
      obtain ⟨kq, x24_7, rfl, HA, HJ7, HO_3, HB⟩ := hcut
      cases kq with
      | zero => exact absurd HA.out (by simp [Yr.j2])
      | succ kj7 =>
       have H := HA.out
       clear HA
       simp only [Yr.j2] at H
       by_cases c10 : x24_7 = true
       ·subst c10
        rw [if_pos rfl] at H
        have H' := Ya.mk H
        clear H
        go_wp2
        go_roundg kj7
        case measure => have := HK1.out; have := HJ2.out; have := HJ7.out; omega
        case rel => exact ⟨(x3_1), (x10_1), (wrap64 (x10_1 + 1)), Zf, Zf, H', ⟨Zia⟩, ⟨Zp⟩, ⟨Zc⟩⟩
       replace c10 := Bool.eq_false_iff.mpr c10
       subst c10
       rw [if_neg (show ¬ (false = true) by decide)] at H
       by_cases c11 : x6_2 = true
       ·subst c11
        rw [if_pos rfl] at H
        have H' := Ya.mk H
        clear H
        go_wp2
        go_roundg kj7
        case measure => have := HK1.out; have := HJ2.out; have := HJ7.out; omega
        case rel => exact ⟨(x3_1), (x4_1), (wrap64 (x10_1 + 1)), Zf, Zf, H', ⟨Zia⟩, ⟨Zp⟩, ⟨Zc⟩⟩
       replace c11 := Bool.eq_false_iff.mpr c11
       subst c11
       rw [if_neg (show ¬ (false = true) by decide)] at H
       by_cases c12 : x4_1 ≥ 0
       rotate_left
       ·rw [if_neg c12] at H
        have c12b0 : decide (0 ≤ x4_1) = false := decide_eq_false c12
        clear c12
        have H' := Ya.mk H
        clear H
        go_wp2
        go_roundg kj7
        case measure => have := HK1.out; have := HJ2.out; have := HJ7.out; omega
        case rel => exact ⟨(x3_1), (x4_1), (wrap64 (x10_1 + 1)), Zf, Zf, H', ⟨Zia⟩, ⟨Zp⟩, ⟨Zc⟩⟩
       rw [if_pos c12] at H
       have c12b0 : decide (0 ≤ x4_1) = true := decide_eq_true c12
       clear c12
       by_cases c13 : 0 ≤ x4_1
       rotate_left
       ·rw [if_neg c13] at H
        exact absurd H Zy
       rw [if_pos c13] at H
       have c13b0 := eq_true c13
       have c13b1 : decide (0 ≤ x4_1) = true := decide_eq_true c13
       clear c13
       by_cases c14 : x4_1 ≤ x10_1
       rotate_left
       ·rw [if_neg c14] at H
        exact absurd H Zy
       rw [if_pos c14] at H
       have c14b0 := eq_true c14
       have c14b1 : decide (x4_1 ≤ x10_1) = true := decide_eq_true c14
       clear c14
       by_cases c15 : x10_1 ≤ (a0.size : Int)
       rotate_left
       ·rw [if_neg c15] at H
        exact absurd H Zy
       rw [if_pos c15] at H
       have c15b0 := eq_true c15
       have c15b1 : decide (x10_1 ≤ (a0.size : Int)) = true := decide_eq_true c15
       clear c15
       by_cases c16 : x3_1.length < 8796093022208
       rotate_left
       ·rw [if_neg c16] at H
        exact absurd H Zy
       rw [if_pos c16] at H
       have LMc16 := Ya.mk c16
       clear c16
       obtain ⟨y169, hy169⟩ : ∃ y_ : List ByteArray, y_ = (x3_1 ++ [a0.extract (x4_1 : Int).toNat (x10_1 : Int).toNat]) := ⟨_, rfl⟩
       replace H : (Yr.l0 kj7 a0 y169 (-1) (wrap64 ((a0.size : Int) + 1)) (wrap64 (x10_1 + 1))) = some r := by first | (rw [hy169]; with_reducible exact H) | (have H2_ := (Option.bind_some _ _).symm.trans H; rw [hy169]; with_reducible exact H2_) | (have H2_ := (Option.bind_some _ _).symm.trans H; with_reducible exact H2_) | with_reducible exact H | (rw [hy169]; exact H) | exact H
       have Ny169 := Ya.mk hy169
       clear hy169
       have H' := Ya.mk H
       clear H
       go_wp2_with (first | ((with_reducible refine Ynd (b := .append) (xs := #[.tmp 38, .tmp 43]) rfl ?_); at_builtin; refine Kd.R_append Kd.string (w0 := w) w.heap.size rfl (.tmp 38) (.tmp 43) 28 9 (.string ⟨#[]⟩) 16 rfl Tryz.underlying28 Ycj rfl Zq Zk u3 x3_1 (a0.extract (x4_1 : Int).toNat (x10_1 : Int).toNat) [.string (a0.extract (x4_1 : Int).toNat (x10_1 : Int).toNat)] (fun _ => True) (fun _ => False) rfl rfl ?aP (fun _ hk => hk.elim) ?aF ?aO ?aB ?aS ?aL ?_; (case aP => exact rfl); (case aB => exact Zc); (case aF => exact (fun _ _ => trivial)); (case aO => exact Zp); (case aS => exact (Yfa Zc)); (case aL => have := LMc16.out; omega); intro v170 w17 ho hb hg hat; rw [← Ny169.out] at ho; have n0_ := Ya.mk (hb); have n1_ := Ya.mk (ho); clear HB; clear HO_3; have HB := n0_; have HO171 := n1_; clear n0_ n1_; clear ho hb hg hat))
       go_roundg kj7
       case measure => have := HK1.out; have := HJ2.out; have := HJ7.out; omega
       case rel => exact ⟨(y169), ((-1)), (wrap64 (x10_1 + 1)), Zf, Zf, H', ⟨Zia⟩, ⟨by (with_reducible repeat (first | apply Kd.R_alloc | apply Kd.R_drewN | apply Kd.R_drew)); exact HO171.out⟩, ⟨Zc⟩⟩
def Ync.f (k : Nat) (a0 : ByteArray) : Option (ByteArray) := (Yr.f k a0).bind fun t172 => ((Yke.f (⟨#[32]⟩ : ByteArray) t172).bind fun t175 => (some t175))
set_option maxHeartbeats 8000000 in
set_option maxRecDepth 100000 in
theorem Ync.calls (k : Nat) (a0 : ByteArray) (r : ByteArray) (w : World) (hE : EnvOk w) (h : Ync.f k a0 = some r) :
  Calls Tryz.prog 64 #[.string a0] w fun e w' => e = .returned (.string r) ∧ Below w.heap.size w w' := by
 have HE := Ya.mk hE
 clear hE
 have HB := Ya.mk (Below.refl w.heap.size w)
 have H : ((Yr.f k a0).bind fun t172 => ((Yke.f (⟨#[32]⟩ : ByteArray) t172).bind fun t175 => (some t175))) = some r := h
 clear h
 replace H := Option.bind_eq_some_iff.mp H
 obtain ⟨t172, A20, H⟩ := H
 try dsimp -simprocs only at H
 have A2 := Ya.mk A20
 clear A20
 replace H := Option.bind_eq_some_iff.mp H
 obtain ⟨t175, A30, H⟩ := H
 try dsimp -simprocs only at H
 have A3 := Ya.mk A30
 clear A30
 obtain rfl := Option.some.inj H
 go_enter Tryz.func64, Tryz.ntmps64
 go_wp2_with (first | ((with_reducible refine Yi (f := 87) rfl ?_); refine Yp (some 4) rfl rfl Tryz.func87 Zg rfl #[.string a0] rfl Zb ?_; (with_reducible refine (Yr.calls k a0 t172 _ ?side1 A2.out).mono ?_); (case side1 => first | exact HE.out | exact EnvOk.below HE.out Zc); rintro e w4 ⟨v173, rfl, ho0, hb⟩; refine ⟨_, rfl, ?_⟩; have n0_ := Ya.mk (Kd.R_lower ho0 (Yfa Zc)); have n1_ := Ya.mk (Yn Zc hb); clear HB; have HO174 := n0_; have HB := n1_; clear n0_ n1_; (try clear hb); (try clear hb2); (try clear hk); (try clear hi); (try clear ho0); obtain ⟨Ao5, co5, eo5⟩ := Kd.R_slice HO174.out; subst eo5) | ((with_reducible refine Yi (f := 86) rfl ?_); refine Yp (some 5) rfl rfl Tryz.func86 Zg rfl #[.string (⟨#[32]⟩ : ByteArray), .slice Ao5 t172.length co5] rfl Zb ?_; (with_reducible refine (Yke.calls (⟨#[32]⟩ : ByteArray) _ _ t172 t175 _ ?side1 ?side2 ?side3 A3.out).mono ?_); (case side1 => first | exact HE.out | exact EnvOk.below HE.out Zc); (case side2 => repeat (first | exact (Kd.R_reads' HO174.out).2.2 | (with_reducible refine Kd.C_alloc ?_ _) | (with_reducible refine Kd.C_drewN ?_ _) | (with_reducible refine Kd.C_drew ?_))); (case side3 => exact (Kd.R_reads' HO174.out).2.1); rintro e w6 ⟨rfl, hb⟩; refine ⟨_, rfl, ?_⟩; have n0_ := Ya.mk (Kd.R_below (by (with_reducible repeat (first | apply Kd.R_alloc | apply Kd.R_drewN | apply Kd.R_drew)); exact HO174.out) hb); have n1_ := Ya.mk (Yn Zc hb); clear HO174; clear HB; have HO174 := n0_; have HB := n1_; clear n0_ n1_; (try clear hb); (try clear hb2); (try clear hk); (try clear hi)))
 go_ret
 exact ⟨Zj, Zc⟩
def Yhc.f (k : Nat) (a0 : ByteArray) : Option (Bool) := if a0.toList = ([] : List UInt8) then (some false) else (if (a0.size : Int) ≤ 64 then ((Yud.f a0).bind fun t176 => (if t176 = true then ((Ync.f k a0).bind fun t177 => (some (t177.toList == a0.toList))) else (some false))) else (some false))
set_option maxHeartbeats 8000000 in
set_option maxRecDepth 100000 in
theorem Yhc.calls (k : Nat) (a0 : ByteArray) (r : Bool) (w : World) (hE : EnvOk w) (h : Yhc.f k a0 = some r) :
  Calls Tryz.prog 46 #[.string a0] w fun e w' => e = .returned (.bool r) ∧ Below w.heap.size w w' := by
 have HE := Ya.mk hE
 clear hE
 have HB := Ya.mk (Below.refl w.heap.size w)
 have H : (if a0.toList = ([] : List UInt8) then (some false) else (if (a0.size : Int) ≤ 64 then ((Yud.f a0).bind fun t176 => (if t176 = true then ((Ync.f k a0).bind fun t177 => (some (t177.toList == a0.toList))) else (some false))) else (some false))) = some r := h
 clear h
 by_cases c2 : a0.toList = ([] : List UInt8)
 ·rw [if_pos c2] at H
  have c2b0 : (a0.toList == ([] : List UInt8)) = true := beq_iff_eq.mpr c2
  have c2b1 : (a0.toList != ([] : List UInt8)) = false := bne_eq_false_iff_eq.mpr c2
  clear c2
  obtain rfl := Option.some.inj H
  go_enter Tryz.func46, Tryz.ntmps46
  go_wp2
  go_ret
  exact ⟨Zj, Zc⟩
 rw [if_neg c2] at H
 have c2b0 : (a0.toList == ([] : List UInt8)) = false := beq_eq_false_iff_ne.mpr c2
 have c2b1 : (a0.toList != ([] : List UInt8)) = true := bne_iff_ne.mpr c2
 by_cases c3 : (a0.size : Int) ≤ 64
 rotate_left
 ·rw [if_neg c3] at H
  have c3b0 : decide ((a0.size : Int) ≤ 64) = false := decide_eq_false c3
  have c3b1 : decide (a0.size ≤ 64) = false := decide_eq_false Zk
  clear c3
  obtain rfl := Option.some.inj H
  go_enter Tryz.func46, Tryz.ntmps46
  go_wp2
  go_ret
  exact ⟨Zj, Zc⟩
 rw [if_pos c3] at H
 have c3b0 : decide ((a0.size : Int) ≤ 64) = true := decide_eq_true c3
 have c3b1 : decide (a0.size ≤ 64) = true := decide_eq_true Zk
 clear c3
 replace H := Option.bind_eq_some_iff.mp H
 obtain ⟨t176, A40, H⟩ := H
 try dsimp -simprocs only at H
 have A4 := Ya.mk A40
 clear A40
 by_cases c5 : t176 = true
 rotate_left
 ·replace c5 := Bool.eq_false_iff.mpr c5
  subst c5
  rw [if_neg (show ¬ (false = true) by decide)] at H
  obtain rfl := Option.some.inj H
  go_enter Tryz.func46, Tryz.ntmps46
  go_wp2_with (first | (go_at_call 63; (with_reducible refine (Yud.calls a0 false _ ?side1 A4.out).mono ?_); (case side1 => first | exact HE.out | exact EnvOk.below HE.out Zc); rintro e w9 ⟨rfl, hb⟩; have n0_ := Ya.mk (Yn Zc hb); clear HB; have HB := n0_; clear n0_; (try clear hb); (try clear hb2); (try clear hk); (try clear hi)))
  go_ret
  exact ⟨Zj, Zc⟩
 subst c5
 rw [if_pos rfl] at H
 replace H := Option.bind_eq_some_iff.mp H
 obtain ⟨t177, A60, H⟩ := H
 try dsimp -simprocs only at H
 have A6 := Ya.mk A60
 clear A60
 obtain rfl := Option.some.inj H
 go_enter Tryz.func46, Tryz.ntmps46
 go_wp2_with (first | (go_at_call 63; (with_reducible refine (Yud.calls a0 true _ ?side1 A4.out).mono ?_); (case side1 => first | exact HE.out | exact EnvOk.below HE.out Zc); rintro e w7 ⟨rfl, hb⟩; have n0_ := Ya.mk (Yn Zc hb); clear HB; have HB := n0_; clear n0_; (try clear hb); (try clear hb2); (try clear hk); (try clear hi)) | (go_at_call 64; (with_reducible refine (Ync.calls k a0 t177 _ ?side1 A6.out).mono ?_); (case side1 => first | exact HE.out | exact EnvOk.below HE.out Zc); rintro e w8 ⟨rfl, hb⟩; have n0_ := Ya.mk (Yn Zc hb); clear HB; have HB := n0_; clear n0_; (try clear hb); (try clear hb2); (try clear hk); (try clear hi)))
 go_ret
 exact ⟨Zj, Zc⟩
end Go.Proofs.YtfmjnmglagdcdaaGreatDoor.X
