import Derived.Test.YtihaeeldgimdiaaGreatDoorIUX7
set_option linter.all false
namespace Go.Proofs.YtihaeeldgimdiaaGreatDoor.X
open Go.RowKit Go.Yw.PrintWords Go.Yw.PrintLast Go.Yw.PrintMore
attribute [local go_sem] Yxd Yvd Yze Yye Ymd Yld Yyd Ywd
set_option maxHeartbeats 8000000
set_option maxRecDepth 100000
def Yu.l0 : Nat → Y → Int → Option (Int)
 | 0, _, _ => none
 | k + 1, x0, x3 => if x3 < (x0.size : Int) then (if 0 ≤ x3 then ((Yla.f (bt x0 x3)).bind fun wI => (if wI = true then (Yu.l0 k x0 (wrap64 (x3 + 1))) else (if x3 > 0 then ((Yt.f (bt x0 x3)).bind fun qL => (if qL = true then (Yu.l0 k x0 (wrap64 (x3 + 1))) else ((Yz.f k (bt x0 x3) (⟨#[43, 45, 46]⟩ : Y)).bind fun aGz => (if aGz = true then (Yu.l0 k x0 (wrap64 (x3 + 1))) else (if x3 = 0 then (some 0) else (if x3 = (x0.size : Int) then (some 0) else (if (bt x0 x3) = 58 then (some (wrap64 (x3 + 1))) else (some 0)))))))) else (if x3 = 0 then (some 0) else (if x3 = (x0.size : Int) then (some 0) else (if (bt x0 x3) = 58 then (some (wrap64 (x3 + 1))) else (some 0))))))) else (none)) else (if x3 = 0 then (some 0) else (if x3 = (x0.size : Int) then (some 0) else (if 0 ≤ x3 then (none) else (none))))
def Yu.f (k : Nat) (a0 : Y) : Option (Int) := Yu.l0 k a0 0
theorem Yu.calls (k : Nat) (a0 : Y) (r : Int) (w : World) (hE : EnvOk w) (h : Yu.f k a0 = some r) :
  Calls Tryz.prog 32 #[.string a0] w fun e w' => e = .returned (.int .i64 r) ∧ Drawn0 w w' := by
 have HE := Ya.mk hE
 clear hE
 have H : (Yu.l0 k a0 0) = some r := h
 clear h
 have H' := Ya.mk H
 clear H
 go_enter Tryz.func32, Tryz.ntmps32
 go_wp2
 go_loopg [3] k (fun kq v3 w' => ∃ (aE : Int), v3 = .int .i64 aE ∧ Ya (Yu.l0 kq a0 aE = some r) ∧ Ya (kq ≤ k) ∧ Drawn0 w w')
 case atStart => exact ⟨(0), Zf, H', ⟨Ks _⟩, Zh⟩
 case round =>
  clear H'
  obtain ⟨aE, rfl, HA, cC, ⟨m1, rfl⟩⟩ := hrel
  cases gk with
  | zero => exact absurd HA.out (by simp [Yu.l0])
  | succ k1 =>
   have H := HA.out
   clear HA
   simp only [Yu.l0] at H
   by_cases c2 : aE < (a0.size : Int)
   rotate_left
   ·rw [if_neg c2] at H
    have dS : decide (aE < (a0.size : Int)) = false := Ko c2
    clear c2
    by_cases jU : aE = 0
    ·rw [if_pos jU] at H
     have pL : (aE == 0) = true := Kx jU
     have sM : (aE != 0) = false := Ku jU
     clear jU
     obtain rfl := Kr H
     go_wp2
     go_ret
     exact ⟨Zf, Zh⟩
    rw [if_neg jU] at H
    have pL : (aE == 0) = false := Kv jU
    have sM : (aE != 0) = true := Kw jU
    by_cases kF : aE = (a0.size : Int)
    rotate_left
    ·rw [if_neg kF] at H
     have oM : (aE == (a0.size : Int)) = false := Kv kF
     have oN : (aE != (a0.size : Int)) = true := Kw kF
     by_cases kX : 0 ≤ aE
     rotate_left
     ·rw [if_neg kX] at H
      exact absurd H Zq
     rw [if_pos kX] at H
     exact absurd H Zq
    rw [if_pos kF] at H
    have oM : (aE == (a0.size : Int)) = true := Kx kF
    have oN : (aE != (a0.size : Int)) = false := Ku kF
    clear kF
    obtain rfl := Kr H
    go_wp2
    go_ret
    exact ⟨Zf, Zh⟩
   rw [if_pos c2] at H
   have dS : decide (aE < (a0.size : Int)) = true := Kn c2
   clear c2
   by_cases c3 : 0 ≤ aE
   rotate_left
   ·rw [if_neg c3] at H
    exact absurd H Zq
   rw [if_pos c3] at H
   have bV : decide (0 ≤ aE) = true := Kn c3
   clear c3
   obtain ⟨wI, A50, H⟩ := Kq H
   try dsimp -simprocs only at H
   have A5 := Ya.mk A50
   clear A50
   by_cases c6 : wI = true
   ·subst c6
    rw [if_pos rfl] at H
    have H' := Ya.mk H
    clear H
    have p4 : (0 ≤ (aE : Int)) = True := Kl
    have q4 : aE < (a0.size : Int) := Km Zc
    have kA := Ypa a0 aE
    replace q4 := Kp q4
    go_wp2_with (first | (go_at_call 55; (with_reducible refine (Yla.calls (bt a0 aE) true _ ?z1 A5.out).mono ?_); (case z1 => exact Kg); rintro e w' ⟨rfl, ⟨nd, rfl⟩⟩))
    go_roundg k1
    case measure => have := cC.out; omega
    case rel => exact ⟨(wrap64 (aE + 1)), Zf, H', ⟨Zu⟩, Zh⟩
   replace c6 := Kt c6
   subst c6
   rw [if_neg (show ¬ (false = true) by decide)] at H
   by_cases c7 : aE > 0
   rotate_left
   ·rw [if_neg c7] at H
    have cM : decide (0 < aE) = false := Ko c7
    clear c7
    by_cases dR : aE = 0
    ·rw [if_pos dR] at H
     have lA : (aE == 0) = true := Kx dR
     have mO : (aE != 0) = false := Ku dR
     clear dR
     obtain rfl := Kr H
     have p4 : (0 ≤ (aE : Int)) = True := Kl
     have q4 : aE < (a0.size : Int) := Km Zc
     have kA := Ypa a0 aE
     replace q4 := Kp q4
     go_wp2_with (first | (go_at_call 55; (with_reducible refine (Yla.calls (bt a0 aE) false _ ?z1 A5.out).mono ?_); (case z1 => exact Kg); rintro e w' ⟨rfl, ⟨nd, rfl⟩⟩))
     go_ret
     exact ⟨Zf, Zh⟩
    rw [if_neg dR] at H
    have lA : (aE == 0) = false := Kv dR
    have mO : (aE != 0) = true := Kw dR
    by_cases kE : aE = (a0.size : Int)
    ·rw [if_pos kE] at H
     have oJ : (aE == (a0.size : Int)) = true := Kx kE
     have pN : (aE != (a0.size : Int)) = false := Ku kE
     clear kE
     obtain rfl := Kr H
     have p4 : (0 ≤ (aE : Int)) = True := Kl
     have q4 : aE < (a0.size : Int) := Km Zc
     have kA := Ypa a0 aE
     replace q4 := Kp q4
     go_wp2_with (first | (go_at_call 55; (with_reducible refine (Yla.calls (bt a0 aE) false _ ?z1 A5.out).mono ?_); (case z1 => exact Kg); rintro e w' ⟨rfl, ⟨nd, rfl⟩⟩))
     go_ret
     exact ⟨Zf, Zh⟩
    rw [if_neg kE] at H
    have oJ : (aE == (a0.size : Int)) = false := Kv kE
    have pN : (aE != (a0.size : Int)) = true := Kw kE
    by_cases sX : (bt a0 aE) = 58
    rotate_left
    ·rw [if_neg sX] at H
     have aEK : ((bt a0 aE) == 58) = false := Kv sX
     have aLx : ((bt a0 aE) != 58) = true := Kw sX
     obtain rfl := Kr H
     have p4 : (0 ≤ (aE : Int)) = True := Kl
     have q4 : aE < (a0.size : Int) := Km Zc
     have kA := Ypa a0 aE
     replace q4 := Kp q4
     go_wp2_with (first | (go_at_call 55; (with_reducible refine (Yla.calls (bt a0 aE) false _ ?z1 A5.out).mono ?_); (case z1 => exact Kg); rintro e w' ⟨rfl, ⟨nd, rfl⟩⟩; have p20 : (0 ≤ (aE : Int)) = True := Kl; have q20 : aE < (a0.size : Int) := Km Zc; have aXX := Ypa a0 aE; replace q20 := Kp q20))
     go_ret
     exact ⟨Zf, Zh⟩
    rw [if_pos sX] at H
    have aEK : ((bt a0 aE) == 58) = true := Kx sX
    have aLx : ((bt a0 aE) != 58) = false := Ku sX
    clear sX
    obtain rfl := Kr H
    have p4 : (0 ≤ (aE : Int)) = True := Kl
    have q4 : aE < (a0.size : Int) := Km Zc
    have kA := Ypa a0 aE
    replace q4 := Kp q4
    go_wp2_with (first | (go_at_call 55; (with_reducible refine (Yla.calls (bt a0 aE) false _ ?z1 A5.out).mono ?_); (case z1 => exact Kg); rintro e w' ⟨rfl, ⟨nd, rfl⟩⟩; have p20 : (0 ≤ (aE : Int)) = True := Kl; have q20 : aE < (a0.size : Int) := Km Zc; have aXX := Ypa a0 aE; replace q20 := Kp q20))
    go_ret
    exact ⟨Zf, Zh⟩
   rw [if_pos c7] at H
   have cM : decide (0 < aE) = true := Kn c7
   clear c7
   obtain ⟨qL, A90, H⟩ := Kq H
   try dsimp -simprocs only at H
   have A9 := Ya.mk A90
   clear A90
   by_cases dK : qL = true
   ·subst dK
    rw [if_pos rfl] at H
    have H' := Ya.mk H
    clear H
    have p4 : (0 ≤ (aE : Int)) = True := Kl
    have q4 : aE < (a0.size : Int) := Km Zc
    have kA := Ypa a0 aE
    replace q4 := Kp q4
    go_wp2_with (first | (go_at_call 55; (with_reducible refine (Yla.calls (bt a0 aE) false _ ?z1 A5.out).mono ?_); (case z1 => exact Kg); rintro e w' ⟨rfl, ⟨nd, rfl⟩⟩; have p8 : (0 ≤ (aE : Int)) = True := Kl; have q8 : aE < (a0.size : Int) := Km Zc; have hx8 := Ypa a0 aE; replace q8 := Kp q8) | (go_at_call 56; (with_reducible refine (Yt.calls (bt a0 aE) true _ ?z1 A9.out).mono ?_); (case z1 => exact Kg); rintro e w' ⟨rfl, ⟨nd, rfl⟩⟩))
    go_roundg k1
    case measure => have := cC.out; omega
    case rel => exact ⟨(wrap64 (aE + 1)), Zf, H', ⟨Zu⟩, Zh⟩
   replace dK := Kt dK
   subst dK
   rw [if_neg (show ¬ (false = true) by decide)] at H
   obtain ⟨aGz, aBC, H⟩ := Kq H
   try dsimp -simprocs only at H
   have bW := Ya.mk aBC
   clear aBC
   by_cases cI : aGz = true
   ·subst cI
    rw [if_pos rfl] at H
    have H' := Ya.mk H
    clear H
    have p4 : (0 ≤ (aE : Int)) = True := Kl
    have q4 : aE < (a0.size : Int) := Km Zc
    have kA := Ypa a0 aE
    replace q4 := Kp q4
    go_wp2_with (first | (go_at_call 55; (with_reducible refine (Yla.calls (bt a0 aE) false _ ?z1 A5.out).mono ?_); (case z1 => exact Kg); rintro e w' ⟨rfl, ⟨nd, rfl⟩⟩; have p8 : (0 ≤ (aE : Int)) = True := Kl; have q8 : aE < (a0.size : Int) := Km Zc; have hx8 := Ypa a0 aE; replace q8 := Kp q8) | (go_at_call 56; (with_reducible refine (Yt.calls (bt a0 aE) false _ ?z1 A9.out).mono ?_); (case z1 => exact Kg); rintro e w' ⟨rfl, ⟨nd, rfl⟩⟩; have gW : (0 ≤ (aE : Int)) = True := Kl; have fG : aE < (a0.size : Int) := Km Zc; have lR := Ypa a0 aE; replace fG := Kp fG) | (go_at_call 57; (with_reducible refine (Yz.calls k1 (bt a0 aE) (⟨#[43, 45, 46]⟩ : Y) true _ ?z1 bW.out).mono ?_); (case z1 => exact Kg); rintro e w' ⟨rfl, ⟨nd, rfl⟩⟩))
    go_roundg k1
    case measure => have := cC.out; omega
    case rel => exact ⟨(wrap64 (aE + 1)), Zf, H', ⟨Zu⟩, Zh⟩
   replace cI := Kt cI
   subst cI
   rw [if_neg (show ¬ (false = true) by decide)] at H
   by_cases cD : aE = 0
   ·rw [if_pos cD] at H
    have gC : (aE == 0) = true := Kx cD
    have aBD : (aE != 0) = false := Ku cD
    clear cD
    obtain rfl := Kr H
    have p4 : (0 ≤ (aE : Int)) = True := Kl
    have q4 : aE < (a0.size : Int) := Km Zc
    have kA := Ypa a0 aE
    replace q4 := Kp q4
    go_wp2_with (first | (go_at_call 55; (with_reducible refine (Yla.calls (bt a0 aE) false _ ?z1 A5.out).mono ?_); (case z1 => exact Kg); rintro e w' ⟨rfl, ⟨nd, rfl⟩⟩; have p8 : (0 ≤ (aE : Int)) = True := Kl; have q8 : aE < (a0.size : Int) := Km Zc; have hx8 := Ypa a0 aE; replace q8 := Kp q8) | (go_at_call 56; (with_reducible refine (Yt.calls (bt a0 aE) false _ ?z1 A9.out).mono ?_); (case z1 => exact Kg); rintro e w' ⟨rfl, ⟨nd, rfl⟩⟩; have gW : (0 ≤ (aE : Int)) = True := Kl; have fG : aE < (a0.size : Int) := Km Zc; have lR := Ypa a0 aE; replace fG := Kp fG) | (go_at_call 57; (with_reducible refine (Yz.calls k1 (bt a0 aE) (⟨#[43, 45, 46]⟩ : Y) false _ ?z1 bW.out).mono ?_); (case z1 => exact Kg); rintro e w' ⟨rfl, ⟨nd, rfl⟩⟩))
    go_ret
    exact ⟨Zf, Zh⟩
   rw [if_neg cD] at H
   have gC : (aE == 0) = false := Kv cD
   have aBD : (aE != 0) = true := Kw cD
   by_cases bN : aE = (a0.size : Int)
   ·rw [if_pos bN] at H
    have eA : (aE == (a0.size : Int)) = true := Kx bN
    have pR : (aE != (a0.size : Int)) = false := Ku bN
    clear bN
    obtain rfl := Kr H
    have p4 : (0 ≤ (aE : Int)) = True := Kl
    have q4 : aE < (a0.size : Int) := Km Zc
    have kA := Ypa a0 aE
    replace q4 := Kp q4
    go_wp2_with (first | (go_at_call 55; (with_reducible refine (Yla.calls (bt a0 aE) false _ ?z1 A5.out).mono ?_); (case z1 => exact Kg); rintro e w' ⟨rfl, ⟨nd, rfl⟩⟩; have p8 : (0 ≤ (aE : Int)) = True := Kl; have q8 : aE < (a0.size : Int) := Km Zc; have hx8 := Ypa a0 aE; replace q8 := Kp q8) | (go_at_call 56; (with_reducible refine (Yt.calls (bt a0 aE) false _ ?z1 A9.out).mono ?_); (case z1 => exact Kg); rintro e w' ⟨rfl, ⟨nd, rfl⟩⟩; have gW : (0 ≤ (aE : Int)) = True := Kl; have fG : aE < (a0.size : Int) := Km Zc; have lR := Ypa a0 aE; replace fG := Kp fG) | (go_at_call 57; (with_reducible refine (Yz.calls k1 (bt a0 aE) (⟨#[43, 45, 46]⟩ : Y) false _ ?z1 bW.out).mono ?_); (case z1 => exact Kg); rintro e w' ⟨rfl, ⟨nd, rfl⟩⟩))
    go_ret
    exact ⟨Zf, Zh⟩
   rw [if_neg bN] at H
   have eA : (aE == (a0.size : Int)) = false := Kv bN
   have pR : (aE != (a0.size : Int)) = true := Kw bN
   by_cases gG : (bt a0 aE) = 58
   rotate_left
   ·rw [if_neg gG] at H
    have kI : ((bt a0 aE) == 58) = false := Kv gG
    have mP : ((bt a0 aE) != 58) = true := Kw gG
    obtain rfl := Kr H
    have p4 : (0 ≤ (aE : Int)) = True := Kl
    have q4 : aE < (a0.size : Int) := Km Zc
    have kA := Ypa a0 aE
    replace q4 := Kp q4
    go_wp2_with (first | (go_at_call 55; (with_reducible refine (Yla.calls (bt a0 aE) false _ ?z1 A5.out).mono ?_); (case z1 => exact Kg); rintro e w' ⟨rfl, ⟨nd, rfl⟩⟩; have p8 : (0 ≤ (aE : Int)) = True := Kl; have q8 : aE < (a0.size : Int) := Km Zc; have hx8 := Ypa a0 aE; replace q8 := Kp q8) | (go_at_call 56; (with_reducible refine (Yt.calls (bt a0 aE) false _ ?z1 A9.out).mono ?_); (case z1 => exact Kg); rintro e w' ⟨rfl, ⟨nd, rfl⟩⟩; have gW : (0 ≤ (aE : Int)) = True := Kl; have fG : aE < (a0.size : Int) := Km Zc; have lR := Ypa a0 aE; replace fG := Kp fG) | (go_at_call 57; (with_reducible refine (Yz.calls k1 (bt a0 aE) (⟨#[43, 45, 46]⟩ : Y) false _ ?z1 bW.out).mono ?_); (case z1 => exact Kg); rintro e w' ⟨rfl, ⟨nd, rfl⟩⟩; have p16 : (0 ≤ (aE : Int)) = True := Kl; have q16 : aE < (a0.size : Int) := Km Zc; have aGA := Ypa a0 aE; replace q16 := Kp q16))
    go_ret
    exact ⟨Zf, Zh⟩
   rw [if_pos gG] at H
   have kI : ((bt a0 aE) == 58) = true := Kx gG
   have mP : ((bt a0 aE) != 58) = false := Ku gG
   clear gG
   obtain rfl := Kr H
   have p4 : (0 ≤ (aE : Int)) = True := Kl
   have q4 : aE < (a0.size : Int) := Km Zc
   have kA := Ypa a0 aE
   replace q4 := Kp q4
   go_wp2_with (first | (go_at_call 55; (with_reducible refine (Yla.calls (bt a0 aE) false _ ?z1 A5.out).mono ?_); (case z1 => exact Kg); rintro e w' ⟨rfl, ⟨nd, rfl⟩⟩; have p8 : (0 ≤ (aE : Int)) = True := Kl; have q8 : aE < (a0.size : Int) := Km Zc; have hx8 := Ypa a0 aE; replace q8 := Kp q8) | (go_at_call 56; (with_reducible refine (Yt.calls (bt a0 aE) false _ ?z1 A9.out).mono ?_); (case z1 => exact Kg); rintro e w' ⟨rfl, ⟨nd, rfl⟩⟩; have gW : (0 ≤ (aE : Int)) = True := Kl; have fG : aE < (a0.size : Int) := Km Zc; have lR := Ypa a0 aE; replace fG := Kp fG) | (go_at_call 57; (with_reducible refine (Yz.calls k1 (bt a0 aE) (⟨#[43, 45, 46]⟩ : Y) false _ ?z1 bW.out).mono ?_); (case z1 => exact Kg); rintro e w' ⟨rfl, ⟨nd, rfl⟩⟩; have p16 : (0 ≤ (aE : Int)) = True := Kl; have q16 : aE < (a0.size : Int) := Km Zc; have aGA := Ypa a0 aE; replace q16 := Kp q16))
   go_ret
   exact ⟨Zf, Zh⟩
def Yda.l0 : Nat → Y → List Int → Int → Option (Y)
 | 0, _, _, _ => none
 | k + 1, x0, x3, x4 => if x4 < (x0.size : Int) then (if 0 ≤ x4 then (if (bt x0 x4) ≥ 65 then (if (bt x0 x4) ≤ 90 then (if x3.length < 140737488355328 then (Yda.l0 k x0 (x3 ++ [((bt x0 x4) + 32) % 256]) (wrap64 (x4 + 1))) else (none)) else (if x3.length < 140737488355328 then (Yda.l0 k x0 (x3 ++ [bt x0 x4]) (wrap64 (x4 + 1))) else (none))) else (if x3.length < 140737488355328 then (Yda.l0 k x0 (x3 ++ [bt x0 x4]) (wrap64 (x4 + 1))) else (none))) else (none)) else (some (strOfNums x3))
def Yda.f (k : Nat) (a0 : Y) : Option (Y) := Yda.l0 k a0 ([] : List Int) 0
theorem Yda.calls (k : Nat) (a0 r : Y) (w : World) (hE : EnvOk w) (h : Yda.f k a0 = some r) :
  Calls Tryz.prog 33 #[.string a0] w fun e w' => e = .returned (.string r) ∧ Below w.heap.size w w' := by
 have HE := Ya.mk hE
 clear hE
 have HB := Ya.mk (Below.refl w.heap.size w)
 have H : (Yda.l0 k a0 ([] : List Int) 0) = some r := h
 clear h
 have H' := Ya.mk H
 clear H
 go_enter Tryz.func33, Tryz.ntmps33
 go_wp2
 go_loopg [3, 4] k (fun kq v3 v4 w' => ∃ (aE : List Int) (aC : Int), v4 = .int .i64 aC ∧ Ya (Yda.l0 kq a0 aE aC = some r) ∧ Ya (kq ≤ k) ∧ Ya (Kd.R (Kd.int .u8) 5 w' w.heap.size (fun _ => True) v3 aE) ∧ Ya (Below w.heap.size w w'))
 case atStart => exact ⟨(([] : List Int)), (0), Zf, H', ⟨Ks _⟩, ⟨Zv⟩, ⟨Za⟩⟩
 case round =>
  clear H'
  obtain ⟨aE, aC, rfl, HA, cC, HO_3, HB⟩ := hrel
  cases gk with
  | zero => exact absurd HA.out (by simp [Yda.l0])
  | succ k1 =>
   have H := HA.out
   clear HA
   simp only [Yda.l0] at H
   by_cases c2 : aC < (a0.size : Int)
   rotate_left
   ·rw [if_neg c2] at H
    have dS : decide (aC < (a0.size : Int)) = false := Ko c2
    clear c2
    obtain rfl := Kr H
    have aZf := Yzf (P := Tryz.prog) Tryz.underlying67 Tryz.underlying5 Tryz.underlying9 (Kd.own_of_R HO_3.out)
    go_wp2
    go_ret
    exact ⟨Zk, Za⟩
   rw [if_pos c2] at H
   have dS : decide (aC < (a0.size : Int)) = true := Kn c2
   clear c2
   by_cases c3 : 0 ≤ aC
   rotate_left
   ·rw [if_neg c3] at H
    exact absurd H Zq
   rw [if_pos c3] at H
   have bV : decide (0 ≤ aC) = true := Kn c3
   clear c3
   by_cases c5 : (bt a0 aC) ≥ 65
   rotate_left
   ·rw [if_neg c5] at H
    have dG : decide (65 ≤ (bt a0 aC)) = false := Ko c5
    clear c5
    by_cases bK : aE.length < 140737488355328
    rotate_left
    ·rw [if_neg bK] at H
     exact absurd H Zq
    rw [if_pos bK] at H
    have aAT := Ya.mk bK
    clear bK
    obtain ⟨aLA, sY⟩ : ∃ y_ : List Int, y_ = (aE ++ [bt a0 aC]) := ⟨_, rfl⟩
    replace H : (Yda.l0 k1 a0 aLA (wrap64 (aC + 1))) = some r := by first | (rw [sY]; with_reducible exact H) | (have cO := (Kba _ _).symm.trans H; rw [sY]; with_reducible exact cO) | (have cO := (Kba _ _).symm.trans H; with_reducible exact cO) | with_reducible exact H | (rw [sY]; exact H) | exact H
    have aLB := Ya.mk sY
    clear sY
    have H' := Ya.mk H
    clear H
    have p4 : (0 ≤ (aC : Int)) = True := Kl
    have q4 : aC < (a0.size : Int) := Km Zc
    have kA := Ypa a0 aC
    replace q4 := Kp q4
    go_wp2_with (first | ((with_reducible refine Yic (b := .append) (xs := #[.tmp 23, .tmp 25]) rfl ?_); at_builtin; refine Kd.R_append (Kd.int .u8) (w0 := w) w.heap.size rfl (.tmp 23) (.tmp 25) 67 5 (.int .u8 0) 1 rfl Tryz.underlying67 Yaj rfl Zw Zj u3 aE (bt a0 aC) [.int .u8 (bt a0 aC)] (fun _ => True) (fun _ => False) rfl rfl ?aP (fun _ hk => hk.elim) ?aF ?aO ?aB ?aS ?aL ?_; (case aP => exact rfl); (case aB => exact Za); (case aF => exact (fun _ _ => trivial)); (case aO => exact Zl); (case aS => exact Ki); (case aL => have := aAT.out; omega); intro bAq uA ho hb hg hat; rw [← aLB.out] at ho; replace HB := Ya.mk (hb); have aLC := Ya.mk (ho); clear HO_3; clear ho hb hg hat))
    go_roundg k1
    case measure => have := cC.out; omega
    case rel => exact ⟨(aLA), (wrap64 (aC + 1)), Zf, H', ⟨Zu⟩, ⟨by (with_reducible repeat (first | apply Kd.R_alloc | apply Kd.R_drewN | apply Kd.R_drew)); exact aLC.out⟩, ⟨Za⟩⟩
   rw [if_pos c5] at H
   have dG : decide (65 ≤ (bt a0 aC)) = true := Kn c5
   clear c5
   by_cases c6 : (bt a0 aC) ≤ 90
   rotate_left
   ·rw [if_neg c6] at H
    have dN : decide ((bt a0 aC) ≤ 90) = false := Ko c6
    clear c6
    by_cases c9 : aE.length < 140737488355328
    rotate_left
    ·rw [if_neg c9] at H
     exact absurd H Zq
    rw [if_pos c9] at H
    have uO := Ya.mk c9
    clear c9
    obtain ⟨aLD, sZ⟩ : ∃ y_ : List Int, y_ = (aE ++ [bt a0 aC]) := ⟨_, rfl⟩
    replace H : (Yda.l0 k1 a0 aLD (wrap64 (aC + 1))) = some r := by first | (rw [sZ]; with_reducible exact H) | (have cO := (Kba _ _).symm.trans H; rw [sZ]; with_reducible exact cO) | (have cO := (Kba _ _).symm.trans H; with_reducible exact cO) | with_reducible exact H | (rw [sZ]; exact H) | exact H
    have aLE := Ya.mk sZ
    clear sZ
    have H' := Ya.mk H
    clear H
    have p4 : (0 ≤ (aC : Int)) = True := Kl
    have q4 : aC < (a0.size : Int) := Km Zc
    have kA := Ypa a0 aC
    replace q4 := Kp q4
    go_wp2_with (first | ((with_reducible refine Yic (b := .append) (xs := #[.tmp 23, .tmp 25]) rfl ?_); at_builtin; refine Kd.R_append (Kd.int .u8) (w0 := w) w.heap.size rfl (.tmp 23) (.tmp 25) 67 5 (.int .u8 0) 1 rfl Tryz.underlying67 Yaj rfl Zw Zj u3 aE (bt a0 aC) [.int .u8 (bt a0 aC)] (fun _ => True) (fun _ => False) rfl rfl ?aP (fun _ hk => hk.elim) ?aF ?aO ?aB ?aS ?aL ?_; (case aP => exact rfl); (case aB => exact Za); (case aF => exact (fun _ _ => trivial)); (case aO => exact Zl); (case aS => exact Ki); (case aL => have := uO.out; omega); intro bAr qZ ho hb hg hat; rw [← aLE.out] at ho; replace HB := Ya.mk (hb); have aLF := Ya.mk (ho); clear HO_3; clear ho hb hg hat))
    go_roundg k1
    case measure => have := cC.out; omega
    case rel => exact ⟨(aLD), (wrap64 (aC + 1)), Zf, H', ⟨Zu⟩, ⟨by (with_reducible repeat (first | apply Kd.R_alloc | apply Kd.R_drewN | apply Kd.R_drew)); exact aLF.out⟩, ⟨Za⟩⟩
   rw [if_pos c6] at H
   have dN : decide ((bt a0 aC) ≤ 90) = true := Kn c6
   clear c6
   by_cases c7 : aE.length < 140737488355328
   rotate_left
   ·rw [if_neg c7] at H
    exact absurd H Zq
   rw [if_pos c7] at H
   have aXY := Ya.mk c7
   clear c7
   obtain ⟨aLG, tA⟩ : ∃ y_ : List Int, y_ = (aE ++ [((bt a0 aC) + 32) % 256]) := ⟨_, rfl⟩
   replace H : (Yda.l0 k1 a0 aLG (wrap64 (aC + 1))) = some r := by first | (rw [tA]; with_reducible exact H) | (have cO := (Kba _ _).symm.trans H; rw [tA]; with_reducible exact cO) | (have cO := (Kba _ _).symm.trans H; with_reducible exact cO) | with_reducible exact H | (rw [tA]; exact H) | exact H
   have aLH := Ya.mk tA
   clear tA
   have H' := Ya.mk H
   clear H
   have p4 : (0 ≤ (aC : Int)) = True := Kl
   have q4 : aC < (a0.size : Int) := Km Zc
   have kA := Ypa a0 aC
   replace q4 := Kp q4
   go_wp2_with (first | ((with_reducible refine Yic (b := .append) (xs := #[.tmp 23, .tmp 25]) rfl ?_); at_builtin; refine Kd.R_append (Kd.int .u8) (w0 := w) w.heap.size rfl (.tmp 23) (.tmp 25) 67 5 (.int .u8 0) 1 rfl Tryz.underlying67 Yaj rfl Zw Zj u3 aE (((bt a0 aC) + 32) % 256) [.int .u8 (((bt a0 aC) + 32) % 256)] (fun _ => True) (fun _ => False) rfl rfl ?aP (fun _ hk => hk.elim) ?aF ?aO ?aB ?aS ?aL ?_; (case aP => exact rfl); (case aB => exact Za); (case aF => exact (fun _ _ => trivial)); (case aO => exact Zl); (case aS => exact Ki); (case aL => have := aXY.out; omega); intro bAs w8 ho hb hg hat; rw [← aLH.out] at ho; replace HB := Ya.mk (hb); have aLI := Ya.mk (ho); clear HO_3; clear ho hb hg hat))
   go_roundg k1
   case measure => have := cC.out; omega
   case rel => exact ⟨(aLG), (wrap64 (aC + 1)), Zf, H', ⟨Zu⟩, ⟨by (with_reducible repeat (first | apply Kd.R_alloc | apply Kd.R_drewN | apply Kd.R_drew)); exact aLI.out⟩, ⟨Za⟩⟩
def Yia.l0 : Nat → Y → Y → Int → Option (Int)
 | 0, _, _, _ => none
 | k + 1, x0, x1, x5 => if x5 < (x0.size : Int) then (if 0 ≤ x5 then ((Yz.f k (bt x0 x5) x1).bind fun aGB => (if aGB = true then (some x5) else (Yia.l0 k x0 x1 (wrap64 (x5 + 1))))) else (none)) else (some x5)
def Yia.f (k : Nat) (a0 a1 : Y) : Option (Int) := Yia.l0 k a0 a1 0
theorem Yia.calls (k : Nat) (a0 a1 : Y) (r : Int) (w : World) (hE : EnvOk w) (h : Yia.f k a0 a1 = some r) :
  Calls Tryz.prog 35 #[.string a0, .string a1] w fun e w' => e = .returned (.int .i64 r) ∧ Drawn0 w w' := by
 have HE := Ya.mk hE
 clear hE
 have H : (Yia.l0 k a0 a1 0) = some r := h
 clear h
 have H' := Ya.mk H
 clear H
 go_enter Tryz.func35, Tryz.ntmps35
 go_wp2
 go_loopg [5] k (fun kq v5 w' => ∃ (aI : Int), v5 = .int .i64 aI ∧ Ya (Yia.l0 kq a0 a1 aI = some r) ∧ Ya (kq ≤ k) ∧ Drawn0 w w')
 case atStart => exact ⟨(0), Zf, H', ⟨Ks _⟩, Zh⟩
 case round =>
  clear H'
  try clear p2
  obtain ⟨aI, rfl, HA, cC, ⟨m1, rfl⟩⟩ := hrel
  cases gk with
  | zero => exact absurd HA.out (by simp [Yia.l0])
  | succ k1 =>
   have H := HA.out
   clear HA
   simp only [Yia.l0] at H
   by_cases c3 : aI < (a0.size : Int)
   rotate_left
   ·rw [if_neg c3] at H
    have bV : decide (aI < (a0.size : Int)) = false := Ko c3
    clear c3
    obtain rfl := Kr H
    go_wp2
    go_ret
    exact ⟨Zf, Zh⟩
   rw [if_pos c3] at H
   have bV : decide (aI < (a0.size : Int)) = true := Kn c3
   clear c3
   by_cases c4 : 0 ≤ aI
   rotate_left
   ·rw [if_neg c4] at H
    exact absurd H Zq
   rw [if_pos c4] at H
   have bM : decide (0 ≤ aI) = true := Kn c4
   clear c4
   obtain ⟨aGB, sC, H⟩ := Kq H
   try dsimp -simprocs only at H
   have A6 := Ya.mk sC
   clear sC
   by_cases c7 : aGB = true
   ·subst c7
    rw [if_pos rfl] at H
    obtain rfl := Kr H
    have p5 : (0 ≤ (aI : Int)) = True := Kl
    have q5 : aI < (a0.size : Int) := Km Zc
    have gJ := Ypa a0 aI
    replace q5 := Kp q5
    go_wp2_with (first | (go_at_call 57; (with_reducible refine (Yz.calls k1 (bt a0 aI) a1 true _ ?z1 A6.out).mono ?_); (case z1 => exact Kg); rintro e w' ⟨rfl, ⟨nd, rfl⟩⟩))
    go_ret
    exact ⟨Zf, Zh⟩
   replace c7 := Kt c7
   subst c7
   rw [if_neg (show ¬ (false = true) by decide)] at H
   have H' := Ya.mk H
   clear H
   have p5 : (0 ≤ (aI : Int)) = True := Kl
   have q5 : aI < (a0.size : Int) := Km Zc
   have gJ := Ypa a0 aI
   replace q5 := Kp q5
   go_wp2_with (first | (go_at_call 57; (with_reducible refine (Yz.calls k1 (bt a0 aI) a1 false _ ?z1 A6.out).mono ?_); (case z1 => exact Kg); rintro e w' ⟨rfl, ⟨nd, rfl⟩⟩))
   go_roundg k1
   case measure => have := cC.out; omega
   case rel => exact ⟨(wrap64 (aI + 1)), Zf, H', ⟨Zu⟩, Zh⟩
def Ywa.f (a0 : Int) : Option (Bool) := if a0 = 47 then (some true) else (some (a0 == 92))
theorem Ywa.calls (a0 : Int) (r : Bool) (w : World) (hE : EnvOk w) (h : Ywa.f a0 = some r) :
  Calls Tryz.prog 34 #[.int .u8 a0] w fun e w' => e = .returned (.bool r) ∧ Drawn0 w w' := by
 have HE := Ya.mk hE
 clear hE
 have H : (if a0 = 47 then (some true) else (some (a0 == 92))) = some r := h
 clear h
 by_cases c2 : a0 = 47
 rotate_left
 ·rw [if_neg c2] at H
  have dS : (a0 == 47) = false := Kv c2
  have lD : (a0 != 47) = true := Kw c2
  obtain rfl := Kr H
  go_enter Tryz.func34, Tryz.ntmps34
  go_wp2
  go_ret
  exact ⟨Zf, Zh⟩
 rw [if_pos c2] at H
 have dS : (a0 == 47) = true := Kx c2
 have lD : (a0 != 47) = false := Ku c2
 clear c2
 obtain rfl := Kr H
 go_enter Tryz.func34, Tryz.ntmps34
 go_wp2
 go_ret
 exact ⟨Zf, Zh⟩
def Ykd.f (a0 : Int) : Option (Bool) := (Yla.f a0).bind fun aBE => (if aBE = true then (some true) else ((Yt.f a0).bind fun aBF => (if aBF = true then (some true) else (if a0 = 45 then (some true) else (if a0 = 46 then (some true) else (if a0 = 95 then (some true) else (some (a0 == 126))))))))
theorem Ykd.calls (a0 : Int) (r : Bool) (w : World) (hE : EnvOk w) (h : Ykd.f a0 = some r) :
  Calls Tryz.prog 116 #[.int .u8 a0] w fun e w' => e = .returned (.bool r) ∧ Drawn0 w w' := by
 have HE := Ya.mk hE
 clear hE
 have H : ((Yla.f a0).bind fun aBE => (if aBE = true then (some true) else ((Yt.f a0).bind fun aBF => (if aBF = true then (some true) else (if a0 = 45 then (some true) else (if a0 = 46 then (some true) else (if a0 = 95 then (some true) else (some (a0 == 126))))))))) = some r := h
 clear h
 obtain ⟨aBE, dX, H⟩ := Kq H
 try dsimp -simprocs only at H
 have A2 := Ya.mk dX
 clear dX
 by_cases c3 : aBE = true
 ·subst c3
  rw [if_pos rfl] at H
  obtain rfl := Kr H
  go_enter Tryz.func116, Tryz.ntmps116
  go_wp2_with (first | ((with_reducible refine Yh (f := 55) rfl ?_); refine Yy (some 4) rfl rfl Tryz.func55 Zi rfl #[.int .u8 a0] rfl Zb ?_; (with_reducible refine (Yla.calls a0 true _ ?z1 A2.out).mono ?_); (case z1 => exact Kg); rintro e w' ⟨rfl, ⟨nd, rfl⟩⟩; refine ⟨_, rfl, ?_⟩))
  go_ret
  exact ⟨Zf, Zh⟩
 replace c3 := Kt c3
 subst c3
 rw [if_neg (show ¬ (false = true) by decide)] at H
 obtain ⟨aBF, xQ, H⟩ := Kq H
 try dsimp -simprocs only at H
 have A4 := Ya.mk xQ
 clear xQ
 by_cases c5 : aBF = true
 ·subst c5
  rw [if_pos rfl] at H
  obtain rfl := Kr H
  go_enter Tryz.func116, Tryz.ntmps116
  go_wp2_with (first | ((with_reducible refine Yh (f := 55) rfl ?_); refine Yy (some 4) rfl rfl Tryz.func55 Zi rfl #[.int .u8 a0] rfl Zb ?_; (with_reducible refine (Yla.calls a0 false _ ?z1 A2.out).mono ?_); (case z1 => exact Kg); rintro e w' ⟨rfl, ⟨nd, rfl⟩⟩; refine ⟨_, rfl, ?_⟩) | (go_at_call 56; (with_reducible refine (Yt.calls a0 true _ ?z1 A4.out).mono ?_); (case z1 => exact Kg); rintro e w' ⟨rfl, ⟨nd, rfl⟩⟩))
  go_ret
  exact ⟨Zf, Zh⟩
 replace c5 := Kt c5
 subst c5
 rw [if_neg (show ¬ (false = true) by decide)] at H
 by_cases c6 : a0 = 45
 ·rw [if_pos c6] at H
  have dN : (a0 == 45) = true := Kx c6
  have lF : (a0 != 45) = false := Ku c6
  clear c6
  obtain rfl := Kr H
  go_enter Tryz.func116, Tryz.ntmps116
  go_wp2_with (first | ((with_reducible refine Yh (f := 55) rfl ?_); refine Yy (some 4) rfl rfl Tryz.func55 Zi rfl #[.int .u8 a0] rfl Zb ?_; (with_reducible refine (Yla.calls a0 false _ ?z1 A2.out).mono ?_); (case z1 => exact Kg); rintro e w' ⟨rfl, ⟨nd, rfl⟩⟩; refine ⟨_, rfl, ?_⟩) | (go_at_call 56; (with_reducible refine (Yt.calls a0 false _ ?z1 A4.out).mono ?_); (case z1 => exact Kg); rintro e w' ⟨rfl, ⟨nd, rfl⟩⟩))
  go_ret
  exact ⟨Zf, Zh⟩
 rw [if_neg c6] at H
 have dN : (a0 == 45) = false := Kv c6
 have lF : (a0 != 45) = true := Kw c6
 by_cases c7 : a0 = 46
 ·rw [if_pos c7] at H
  have cM : (a0 == 46) = true := Kx c7
  have gZ : (a0 != 46) = false := Ku c7
  clear c7
  obtain rfl := Kr H
  go_enter Tryz.func116, Tryz.ntmps116
  go_wp2_with (first | ((with_reducible refine Yh (f := 55) rfl ?_); refine Yy (some 4) rfl rfl Tryz.func55 Zi rfl #[.int .u8 a0] rfl Zb ?_; (with_reducible refine (Yla.calls a0 false _ ?z1 A2.out).mono ?_); (case z1 => exact Kg); rintro e w' ⟨rfl, ⟨nd, rfl⟩⟩; refine ⟨_, rfl, ?_⟩) | (go_at_call 56; (with_reducible refine (Yt.calls a0 false _ ?z1 A4.out).mono ?_); (case z1 => exact Kg); rintro e w' ⟨rfl, ⟨nd, rfl⟩⟩))
  go_ret
  exact ⟨Zf, Zh⟩
 rw [if_neg c7] at H
 have cM : (a0 == 46) = false := Kv c7
 have gZ : (a0 != 46) = true := Kw c7
 by_cases c8 : a0 = 95
 rotate_left
 ·rw [if_neg c8] at H
  have fS : (a0 == 95) = false := Kv c8
  have jA : (a0 != 95) = true := Kw c8
  obtain rfl := Kr H
  go_enter Tryz.func116, Tryz.ntmps116
  go_wp2_with (first | ((with_reducible refine Yh (f := 55) rfl ?_); refine Yy (some 4) rfl rfl Tryz.func55 Zi rfl #[.int .u8 a0] rfl Zb ?_; (with_reducible refine (Yla.calls a0 false _ ?z1 A2.out).mono ?_); (case z1 => exact Kg); rintro e w' ⟨rfl, ⟨nd, rfl⟩⟩; refine ⟨_, rfl, ?_⟩) | (go_at_call 56; (with_reducible refine (Yt.calls a0 false _ ?z1 A4.out).mono ?_); (case z1 => exact Kg); rintro e w' ⟨rfl, ⟨nd, rfl⟩⟩))
  go_ret
  exact ⟨Zf, Zh⟩
 rw [if_pos c8] at H
 have fS : (a0 == 95) = true := Kx c8
 have jA : (a0 != 95) = false := Ku c8
 clear c8
 obtain rfl := Kr H
 go_enter Tryz.func116, Tryz.ntmps116
 go_wp2_with (first | ((with_reducible refine Yh (f := 55) rfl ?_); refine Yy (some 4) rfl rfl Tryz.func55 Zi rfl #[.int .u8 a0] rfl Zb ?_; (with_reducible refine (Yla.calls a0 false _ ?z1 A2.out).mono ?_); (case z1 => exact Kg); rintro e w' ⟨rfl, ⟨nd, rfl⟩⟩; refine ⟨_, rfl, ?_⟩) | (go_at_call 56; (with_reducible refine (Yt.calls a0 false _ ?z1 A4.out).mono ?_); (case z1 => exact Kg); rintro e w' ⟨rfl, ⟨nd, rfl⟩⟩))
 go_ret
 exact ⟨Zf, Zh⟩
end Go.Proofs.YtihaeeldgimdiaaGreatDoor.X
