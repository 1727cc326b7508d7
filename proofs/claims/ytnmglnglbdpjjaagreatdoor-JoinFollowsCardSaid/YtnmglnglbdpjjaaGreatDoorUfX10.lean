import Derived.Test.YtnmglnglbdpjjaaGreatDoorUfX9
set_option linter.all false
namespace Go.Proofs.YtnmglnglbdpjjaaGreatDoor.X
open Go.RowKit Go.Yw.PrintWords Go.Yw.PrintLast Go.Yw.PrintMore
attribute [local go_sem] Yfe Ybe Yre Yue Yld Ykd Yee Yde
mutual
def Yj.l0 : Nat → Y → List Y → Int → Option (Bool)
 | 0, _, _, _ => none
 | k + 1, x0, x3, x4 => if x4 < (x3.length : Int) then (if 0 ≤ x4 then (if ((rdOf ByteArray.empty x3 x4).size : Int) < 1 then (Yj.j1 k x0 x3 x4 true) else (Yj.j1 k x0 x3 x4 (decide (((rdOf ByteArray.empty x3 x4).size : Int) > 63)))) else (none)) else (if (x0.size : Int) > 253 then (some false) else (if 0 ≤ (wrap64 ((x3.length : Int) - 1)) then (if (wrap64 ((x3.length : Int) - 1)) < (x3.length : Int) then ((Yz.f k (rdOf ByteArray.empty x3 (wrap64 ((x3.length : Int) - 1))) 4611686018427387904).bind fun aBU => (if aBU.2 = 3 then (some true) else (Yj.l2 k x3 0))) else (none)) else (none)))
def Yj.j1 : Nat → Y → List Y → Int → Bool → Option (Bool)
 | 0, _, _, _, _ => none
 | k + 1, x0, x3, x4, x31 => if x31 = true then (some false) else (Yj.l1 k x0 x3 x4 0)
def Yj.l1 : Nat → Y → List Y → Int → Int → Option (Bool)
 | 0, _, _, _, _ => none
 | k + 1, x0, x3, x4, x5 => if 0 ≤ x4 then (if x4 < (x3.length : Int) then (if x5 < ((rdOf ByteArray.empty x3 x4).size : Int) then (if 0 ≤ x5 then (if (bt (rdOf ByteArray.empty x3 x4) x5) ≥ 97 then (if (bt (rdOf ByteArray.empty x3 x4) x5) ≤ 122 then (Yj.l1 k x0 x3 x4 (wrap64 (x5 + 1))) else ((Yw.f (bt (rdOf ByteArray.empty x3 x4) x5)).bind fun aGk => (if aGk = true then (Yj.l1 k x0 x3 x4 (wrap64 (x5 + 1))) else (if (bt (rdOf ByteArray.empty x3 x4) x5) = 45 then (Yj.l1 k x0 x3 x4 (wrap64 (x5 + 1))) else (if ((bt (rdOf ByteArray.empty x3 x4) x5) = 95) then (Yj.l1 k x0 x3 x4 (wrap64 (x5 + 1))) else (some false)))))) else ((Yw.f (bt (rdOf ByteArray.empty x3 x4) x5)).bind fun aBV => (if aBV = true then (Yj.l1 k x0 x3 x4 (wrap64 (x5 + 1))) else (if (bt (rdOf ByteArray.empty x3 x4) x5) = 45 then (Yj.l1 k x0 x3 x4 (wrap64 (x5 + 1))) else (if ((bt (rdOf ByteArray.empty x3 x4) x5) = 95) then (Yj.l1 k x0 x3 x4 (wrap64 (x5 + 1))) else (some false)))))) else (none)) else (Yj.l0 k x0 x3 (wrap64 (x4 + 1)))) else (none)) else (none)
def Yj.l2 : Nat → List Y → Int → Option (Bool)
 | 0, _, _ => none
 | k + 1, x3, x9 => if x9 < (x3.length : Int) then (if 0 ≤ x9 then ((Ypd.f k (rdOf ByteArray.empty x3 x9)).bind fun aGl => (if aGl = true then (Yj.l2 k x3 (wrap64 (x9 + 1))) else (some false))) else (none)) else (some ((x3.length : Int) == 4))
end
def Yj.f (k : Nat) (a0 : Y) : Option (Bool) := (Yqa.f k a0 46).bind fun bG => (Yj.l0 k a0 bG 0)
set_option maxHeartbeats 8000000 in
set_option maxRecDepth 100000 in
theorem Yj.calls (k : Nat) (a0 : Y) (r : Bool) (w : World) (hE : EnvOk w) (h : Yj.f k a0 = some r) :
  Calls Tryz.prog 56 #[.string a0] w fun e w' => e = .returned (.bool r) ∧ Below w.heap.size w w' := by
 have HE := Ya.mk hE
 clear hE
 have HB := Ya.mk (Below.refl w.heap.size w)
 have H : ((Yqa.f k a0 46).bind fun bG => (Yj.l0 k a0 bG 0)) = some r := h
 clear h
 obtain ⟨bG, dW, H⟩ := Ku H
 try dsimp -simprocs only at H
 have A2 := Ya.mk dW
 clear dW
 have H' := Ya.mk H
 clear H
 go_enter Tryz.func56, Tryz.ntmps56
 go_wp2_with (first | ((with_reducible refine Yh (f := 98) rfl ?_); refine Yca (some 11) rfl rfl Tryz.func98 Zi rfl #[.string a0, .int .u8 46] rfl Zb ?_; (with_reducible refine (Yqa.calls k a0 46 bG _ ?z1 A2.out).mono ?_); (case z1 => exact Kh); rintro e w3 ⟨aWc, rfl, qJ, hb⟩; refine ⟨_, rfl, ?_⟩; have aJS := Ya.mk (Kd.R_lower qJ (Yka Za)); replace HB := Ya.mk (Yt Za hb); (try clear hb); (try clear qJ)))
 go_loopg [4] k (fun kq v4 w' => ∃ (aA : Int), v4 = .int .i64 aA ∧ Ya (Yj.l0 kq a0 bG aA = some r) ∧ Ya (kq ≤ k) ∧ Ya (Kd.R Kd.string 9 w' w.heap.size (fun _ => True) aWc bG) ∧ Ya (Below w.heap.size w w'))
 case atStart => exact ⟨(0), Zf, H', ⟨Kw _⟩, ⟨by (with_reducible repeat (first | apply Kd.R_alloc | apply Kd.R_drewN | apply Kd.R_drew)); exact aJS.out⟩, ⟨Za⟩⟩
 case round =>
  clear H'
  try clear p2
  obtain ⟨aA, rfl, HA, dB, HO_3, HB⟩ := hrel
  cases gk with
  | zero => exact absurd HA.out (by simp [Yj.l0])
  | succ k1 =>
   have H := HA.out
   clear HA
   simp only [Yj.l0] at H
   by_cases c4 : aA < (bG.length : Int)
   rotate_left
   ·rw [if_neg c4] at H
    have bX : decide (aA < (bG.length : Int)) = false := Ks c4
    clear c4
    by_cases pV : (a0.size : Int) > 253
    ·rw [if_pos pV] at H
     have tF : decide (253 < (a0.size : Int)) = true := Kr pV
     have wJ : decide (253 < a0.size) = true := Kr Zk
     clear pV
     obtain rfl := Kv H
     obtain ⟨aYn, aYo, aWd⟩ := Kd.R_slice HO_3.out
     subst aWd
     go_wp2
     go_ret
     exact ⟨Zl, Za⟩
    rw [if_neg pV] at H
    have tF : decide (253 < (a0.size : Int)) = false := Ks pV
    have wJ : decide (253 < a0.size) = false := Ks Zk
    clear pV
    obtain ⟨ji27, pK⟩ : ∃ j_ : Int, (wrap64 ((bG.length : Int) - 1)) = j_ := ⟨_, rfl⟩
    replace H : (if 0 ≤ (ji27) then (if (ji27) < (bG.length : Int) then ((Yz.f k1 (rdOf ByteArray.empty bG (ji27)) 4611686018427387904).bind fun aBU => (if aBU.2 = 3 then (some true) else (Yj.l2 k1 bG 0))) else (none)) else (none)) = some r := by first | (rw [pK] at H; exact H) | (simp only [pK] at H ⊢; exact H)
    have hji27w : (IntKind.i64.wrap ((bG.length : Int) - 1)) = ji27 := (Yaa _).trans pK
    by_cases c28 : 0 ≤ (ji27)
    rotate_left
    ·rw [if_neg c28] at H
     exact absurd H Zv
    rw [if_pos c28] at H
    have aJT : decide (0 ≤ (ji27)) = true := Kr c28
    clear c28
    by_cases oS : (ji27) < (bG.length : Int)
    rotate_left
    ·rw [if_neg oS] at H
     exact absurd H Zv
    rw [if_pos oS] at H
    have aBy : decide ((ji27) < (bG.length : Int)) = true := Kr oS
    clear oS
    obtain ⟨⟨aJU, vL⟩, aBX, H⟩ := Ku H
    try dsimp -simprocs only at H
    have jC := Ya.mk aBX
    clear aBX
    by_cases rI : vL = 3
    ·rw [if_pos rI] at H
     have aBE : (vL == 3) = true := Kba rI
     have aBF : (vL != 3) = false := Ky rI
     clear rI
     obtain rfl := Kv H
     obtain ⟨aYp, aYq, aWe⟩ := Kd.R_slice HO_3.out
     subst aWe
     have uH : 0 ≤ ((ji27) : Int) := Kq Zc
     have uI : (ji27) < (bG.length : Int) := Kq Zc
     obtain ⟨zF, aGm, zG⟩ := Kd.at_string (Kd.R_reads' HO_3.out).2.2 (ji27) uH uI
     cases aGm
     replace uH := Kt uH
     replace uI := Kt uI
     go_wp2_with (first | ((with_reducible refine Yh (f := 89) rfl ?_); refine Yca (some 76) rfl rfl Tryz.func89 Zi rfl #[.string (rdOf ByteArray.empty bG (ji27)), .int .i64 4611686018427387904] rfl (by (try simp only [List.map_toArray, List.map_cons, List.map_nil]); first | done | (simp only [pK]; rfl) | rfl | (simp only [List.length_drop, List.length_take]; rfl)) ?_; (with_reducible refine (Yz.calls k1 (rdOf ByteArray.empty bG (ji27)) 4611686018427387904 aJU vL _ ?z1 jC.out).mono ?_); (case z1 => exact Kh); rintro e w' ⟨rfl, ⟨nd, rfl⟩⟩; refine ⟨_, rfl, ?_⟩))
     go_ret
     exact ⟨Zsa, Za⟩
    rw [if_neg rI] at H
    have aBE : (vL == 3) = false := Kz rI
    have aBF : (vL != 3) = true := Kaa rI
    have H' := Ya.mk H
    clear H
    obtain ⟨aYr, aWf, aWg⟩ := Kd.R_slice HO_3.out
    subst aWg
    have uH : 0 ≤ ((ji27) : Int) := Kq Zc
    have uI : (ji27) < (bG.length : Int) := Kq Zc
    obtain ⟨zF, aGm, zG⟩ := Kd.at_string (Kd.R_reads' HO_3.out).2.2 (ji27) uH uI
    cases aGm
    replace uH := Kt uH
    replace uI := Kt uI
    go_wp2_with (first | ((with_reducible refine Yh (f := 89) rfl ?_); refine Yca (some 76) rfl rfl Tryz.func89 Zi rfl #[.string (rdOf ByteArray.empty bG (ji27)), .int .i64 4611686018427387904] rfl (by (try simp only [List.map_toArray, List.map_cons, List.map_nil]); first | done | (simp only [pK]; rfl) | rfl | (simp only [List.length_drop, List.length_take]; rfl)) ?_; (with_reducible refine (Yz.calls k1 (rdOf ByteArray.empty bG (ji27)) 4611686018427387904 aJU vL _ ?z1 jC.out).mono ?_); (case z1 => exact Kh); rintro e w' ⟨rfl, ⟨nd, rfl⟩⟩; refine ⟨_, rfl, ?_⟩))
    go_loopg [9] k1 (fun kq v9 w' => ∃ (iU : Int), v9 = .int .i64 iU ∧ Ya (Yj.l2 kq bG iU = some r) ∧ Ya (kq ≤ k1) ∧ Ya (Kd.R Kd.string 9 w' w.heap.size (fun _ => True) (.slice (some zF) bG.length aWf) bG) ∧ Ya (Below w.heap.size w w'))
    case atStart => exact ⟨(0), Zf, H', ⟨Kw _⟩, ⟨Zm⟩, ⟨Za⟩⟩
    case round =>
     clear H'
     try clear c1
     try clear p1
     try clear q1
     try clear wE
     try clear c2
     try clear p2
     try clear q2
     try clear qA
     try clear c3
     try clear c4
     try clear bX
     try clear c5
     try clear p6
     try clear c7
     try clear cW
     try clear c8
     try clear gS
     try clear jA
     try clear c9
     try clear dP
     try clear hD
     try clear c11
     try clear gT
     try clear dD
     try clear dS
     try clear eM
     try clear hG
     try clear iL
     try clear iM
     try clear kZ
     try clear dG
     try clear eT
     try clear eO
     try clear hF
     try clear eP
     try clear iK
     try clear kD
     try clear pP
     try clear gX
     try clear kE
     try clear sX
     try clear p21
     try clear q21
     try clear aDq
     try clear iF
     try clear p22
     try clear q22
     try clear aVZ
     try clear jK
     try clear oC
     try clear oD
     try clear kB
     try clear pY
     try clear pZ
     try clear pV
     try clear tF
     try clear wJ
     try clear c28
     try clear aJT
     try clear oS
     try clear aBy
     try clear rI
     try clear aBE
     try clear aBF
     try clear mO
     try clear rO
     try clear gI
     try clear gR
     try clear zG
     try clear iL
     try clear p2
     try clear pF
     try clear zZ
     try clear dE
     try clear dQ
     try clear uH
     try clear iM
     try clear q2
     try clear pG
     try clear aAa
     try clear dF
     try clear dR
     try clear uI
     obtain ⟨iU, rfl, HA, jX, HO_3, HB⟩ := hrel
     cases gk with
     | zero => exact absurd HA.out (by simp [Yj.l2])
     | succ k2 =>
      have H := HA.out
      clear HA
      simp only [Yj.l2] at H
      by_cases c34 : iU < (bG.length : Int)
      rotate_left
      ·rw [if_neg c34] at H
       have aES : decide (iU < (bG.length : Int)) = false := Ks c34
       clear c34
       obtain rfl := Kv H
       go_wp2
       go_ret
       exact ⟨Zsa, Za⟩
      rw [if_pos c34] at H
      have aES : decide (iU < (bG.length : Int)) = true := Kr c34
      clear c34
      by_cases c35 : 0 ≤ iU
      rotate_left
      ·rw [if_neg c35] at H
       exact absurd H Zv
      rw [if_pos c35] at H
      have aXp : decide (0 ≤ iU) = true := Kr c35
      clear c35
      obtain ⟨aGl, aJV, H⟩ := Ku H
      try dsimp -simprocs only at H
      have A36 := Ya.mk aJV
      clear aJV
      by_cases c37 : aGl = true
      rotate_left
      ·replace c37 := Kx c37
       subst c37
       rw [if_neg (show ¬ (false = true) by decide)] at H
       obtain rfl := Kv H
       have vM : 0 ≤ (iU : Int) := Kq Zc
       have vN : iU < (bG.length : Int) := Kq Zc
       obtain ⟨ad224, aGn, aDV⟩ := Kd.at_string (Kd.R_reads' HO_3.out).2.2 iU vM vN
       obtain rfl : zF = ad224 := (by injection aGn)
       replace vM := Kt vM
       replace vN := Kt vN
       go_wp2_with (first | ((with_reducible refine Yh (f := 99) rfl ?_); refine Yca (some 91) rfl rfl Tryz.func99 Zi rfl #[.string (rdOf ByteArray.empty bG iU)] rfl Zb ?_; (with_reducible refine (Ypd.calls k2 (rdOf ByteArray.empty bG iU) false _ ?z1 A36.out).mono ?_); (case z1 => exact Kh); rintro e w39 ⟨rfl, hb⟩; refine ⟨_, rfl, ?_⟩; replace HO_3 := Ya.mk (Kd.R_below Zm hb); replace HB := Ya.mk (Yt Za hb); (try clear hb)))
       go_ret
       exact ⟨Zsa, Za⟩
      subst c37
      rw [if_pos rfl] at H
      have H' := Ya.mk H
      clear H
      have vM : 0 ≤ (iU : Int) := Kq Zc
      have vN : iU < (bG.length : Int) := Kq Zc
      obtain ⟨ad224, aGn, aDV⟩ := Kd.at_string (Kd.R_reads' HO_3.out).2.2 iU vM vN
      obtain rfl : zF = ad224 := (by injection aGn)
      replace vM := Kt vM
      replace vN := Kt vN
      go_wp2_with (first | ((with_reducible refine Yh (f := 99) rfl ?_); refine Yca (some 91) rfl rfl Tryz.func99 Zi rfl #[.string (rdOf ByteArray.empty bG iU)] rfl Zb ?_; (with_reducible refine (Ypd.calls k2 (rdOf ByteArray.empty bG iU) true _ ?z1 A36.out).mono ?_); (case z1 => exact Kh); rintro e w38 ⟨rfl, hb⟩; refine ⟨_, rfl, ?_⟩; replace HO_3 := Ya.mk (Kd.R_below Zm hb); replace HB := Ya.mk (Yt Za hb); (try clear hb)))
      go_roundg k2
      case measure => have := dB.out; have := jX.out; omega
      case rel => exact ⟨(wrap64 (iU + 1)), Zf, H', ⟨Zdb⟩, ⟨Zm⟩, ⟨Za⟩⟩
   rw [if_pos c4] at H
   have bX : decide (aA < (bG.length : Int)) = true := Kr c4
   clear c4
   have HC5 := Ya.mk H
   clear H
   obtain ⟨Ao6, co6, eo6⟩ := Kd.R_slice HO_3.out
   subst eo6
   go_upto_region 5 with (fail)
   go_cut [31] (fun v31 wc => ∃ (kq : Nat) (zH : Bool), v31 = .bool zH ∧ Ya (Yj.j1 kq a0 bG aA zH = some r) ∧ Ya (kq ≤ k1) ∧ Ya (Kd.R Kd.string 9 wc w.heap.size (fun _ => True) (.slice Ao6 bG.length co6) bG) ∧ Ya (Below w.heap.size w wc))
   case first =>
    have H := HC5.out
    clear HC5
    by_cases c7 : 0 ≤ aA
    rotate_left
    ·rw [if_neg c7] at H
     exact absurd H Zv
    rw [if_pos c7] at H
    have cW : decide (0 ≤ aA) = true := Kr c7
    clear c7
    (first | rw [cW] | (simp only [Yaa, Yda]; rw [cW]) | skip)
    by_cases c8 : ((rdOf ByteArray.empty bG aA).size : Int) < 1
    ·rw [if_pos c8] at H
     have gS : decide (((rdOf ByteArray.empty bG aA).size : Int) < 1) = true := Kr c8
     have jA : decide ((rdOf ByteArray.empty bG aA).size < 1) = true := Kr Zk
     clear c8
     have H' := Ya.mk H
     clear H
     have pF : 0 ≤ (aA : Int) := Kq Zc
     have pG : aA < (bG.length : Int) := Kq Zc
     obtain ⟨aEZ, aGo, mO⟩ := Kd.at_string (Kd.R_reads' HO_3.out).2.2 aA pF pG
     cases aGo
     replace pF := Kt pF
     replace pG := Kt pG
     go_wp2
     go_meet
     case rel => exact ⟨_, (true), Zf, H', ⟨Zia⟩, ⟨Zm⟩, ⟨Za⟩⟩
    rw [if_neg c8] at H
    have gS : decide (((rdOf ByteArray.empty bG aA).size : Int) < 1) = false := Ks c8
    have jA : decide ((rdOf ByteArray.empty bG aA).size < 1) = false := Ks Zk
    clear c8
    have H' := Ya.mk H
    clear H
    have pF : 0 ≤ (aA : Int) := Kq Zc
    have pG : aA < (bG.length : Int) := Kq Zc
    obtain ⟨aEZ, aGo, mO⟩ := Kd.at_string (Kd.R_reads' HO_3.out).2.2 aA pF pG
    cases aGo
    replace pF := Kt pF
    replace pG := Kt pG
    have zZ : 0 ≤ (aA : Int) := Kq Zc
    have aAa : aA < (bG.length : Int) := Kq Zc
    obtain ⟨ad216, aWh, rO⟩ := Kd.at_string (Kd.R_reads' HO_3.out).2.2 aA zZ aAa
    obtain rfl : aEZ = ad216 := (by injection aWh)
    replace zZ := Kt zZ
    replace aAa := Kt aAa
    go_wp2
    go_meet
    case rel => exact ⟨_, (decide (((rdOf ByteArray.empty bG aA).size : Int) > 63)), Zf, H', ⟨Zia⟩, ⟨Zm⟩, ⟨Za⟩⟩
   case rest =>
    clear HC5
    try clear p2
    try clear q2
    try clear qA
    try clear c4
    try clear bX
    try clear c5
    try clear c7
    try clear cW
    try clear c8
    try clear gS
    try clear jA
    try clear mO
    try clear rO
    try clear p2
    try clear pF
    try clear zZ
    try clear pG
    try clear aAa
    obtain ⟨kq, zH, rfl, HA, HJ4, HO_3, HB⟩ := hcut
    cases kq with
    | zero => exact absurd HA.out (by simp [Yj.j1])
    | succ kj4 =>
     have H := HA.out
     clear HA
     simp only [Yj.j1] at H
     by_cases c9 : zH = true
     ·subst c9
      rw [if_pos rfl] at H
      obtain rfl := Kv H
      go_wp2
      go_ret
      exact ⟨Zl, Za⟩
     replace c9 := Kx c9
     subst c9
     rw [if_neg (show ¬ (false = true) by decide)] at H
     have H' := Ya.mk H
     clear H
     go_wp2
     go_loopg [5] kj4 (fun kq v5 w' => ∃ (bS : Int), v5 = .int .i64 bS ∧ Ya (Yj.l1 kq a0 bG aA bS = some r) ∧ Ya (kq ≤ kj4) ∧ Ya (Kd.R Kd.string 9 w' w.heap.size (fun _ => True) (.slice Ao6 bG.length co6) bG) ∧ Ya (Below w.heap.size w w'))
     case atStart => exact ⟨(0), Zf, H', ⟨Kw _⟩, ⟨Zm⟩, ⟨Za⟩⟩
     case round =>
      clear H'
      try clear p2
      try clear q2
      try clear qA
      try clear c4
      try clear bX
      try clear c5
      try clear c7
      try clear cW
      try clear c8
      try clear gS
      try clear jA
      try clear c9
      try clear mO
      try clear rO
      try clear p2
      try clear pF
      try clear zZ
      try clear q2
      try clear pG
      try clear aAa
      obtain ⟨bS, rfl, HA, sM, HO_3, HB⟩ := hrel
      cases gk with
      | zero => exact absurd HA.out (by simp [Yj.l1])
      | succ k3 =>
       have H := HA.out
       clear HA
       simp only [Yj.l1] at H
       by_cases dP : 0 ≤ aA
       rotate_left
       ·rw [if_neg dP] at H
        exact absurd H Zv
       rw [if_pos dP] at H
       have hD : decide (0 ≤ aA) = true := Kr dP
       clear dP
       by_cases c11 : aA < (bG.length : Int)
       rotate_left
       ·rw [if_neg c11] at H
        exact absurd H Zv
       rw [if_pos c11] at H
       have gT : decide (aA < (bG.length : Int)) = true := Kr c11
       clear c11
       by_cases dD : bS < ((rdOf ByteArray.empty bG aA).size : Int)
       rotate_left
       ·rw [if_neg dD] at H
        have dS : decide (bS < ((rdOf ByteArray.empty bG aA).size : Int)) = false := Ks dD
        clear dD
        have H' := Ya.mk H
        clear H
        have dE : 0 ≤ (aA : Int) := Kq Zc
        have dF : aA < (bG.length : Int) := Kq Zc
        obtain ⟨fZ, iV, gI⟩ := Kd.at_string (Kd.R_reads' HO_3.out).2.2 aA dE dF
        cases iV
        replace dE := Kt dE
        replace dF := Kt dF
        go_wp2
        go_roundg k3
        case measure => have := dB.out; have := HJ4.out; have := sM.out; omega
        case rel => exact ⟨(wrap64 (aA + 1)), Zf, H', ⟨Zna⟩, ⟨Zm⟩, ⟨Za⟩⟩
       rw [if_pos dD] at H
       have dS : decide (bS < ((rdOf ByteArray.empty bG aA).size : Int)) = true := Kr dD
       clear dD
       by_cases eM : 0 ≤ bS
       rotate_left
       ·rw [if_neg eM] at H
        exact absurd H Zv
       rw [if_pos eM] at H
       have hG : decide (0 ≤ bS) = true := Kr eM
       clear eM
       by_cases dG : (bt (rdOf ByteArray.empty bG aA) bS) ≥ 97
       rotate_left
       ·rw [if_neg dG] at H
        have eT : decide (97 ≤ (bt (rdOf ByteArray.empty bG aA) bS)) = false := Ks dG
        clear dG
        obtain ⟨aBV, aBt, H⟩ := Ku H
        try dsimp -simprocs only at H
        have A21 := Ya.mk aBt
        clear aBt
        by_cases iF : aBV = true
        ·subst iF
         rw [if_pos rfl] at H
         have H' := Ya.mk H
         clear H
         have dE : 0 ≤ (aA : Int) := Kq Zc
         have dF : aA < (bG.length : Int) := Kq Zc
         obtain ⟨fZ, iV, gI⟩ := Kd.at_string (Kd.R_reads' HO_3.out).2.2 aA dE dF
         cases iV
         replace dE := Kt dE
         replace dF := Kt dF
         have dQ : 0 ≤ (aA : Int) := Kq Zc
         have dR : aA < (bG.length : Int) := Kq Zc
         obtain ⟨ad218, qG, gR⟩ := Kd.at_string (Kd.R_reads' HO_3.out).2.2 aA dQ dR
         obtain rfl : fZ = ad218 := Zxb
         replace dQ := Kt dQ
         replace dR := Kt dR
         have iL : (0 ≤ (bS : Int)) = True := Kp
         have iM : (bS < ((rdOf ByteArray.empty bG aA).size : Int)) = True := Kp
         have kZ := Ybb (rdOf ByteArray.empty bG aA) bS
         go_wp2_with (first | (go_at_call 87; (with_reducible refine (Yw.calls (bt (rdOf ByteArray.empty bG aA) bS) true _ ?z1 A21.out).mono ?_); (case z1 => exact Kh); rintro e w' ⟨rfl, ⟨nd, rfl⟩⟩))
         go_roundg k3
         case measure => have := dB.out; have := HJ4.out; have := sM.out; omega
         case rel => exact ⟨(wrap64 (bS + 1)), Zf, H', ⟨Zna⟩, ⟨Zm⟩, ⟨Za⟩⟩
        replace iF := Kx iF
        subst iF
        rw [if_neg (show ¬ (false = true) by decide)] at H
        by_cases jK : (bt (rdOf ByteArray.empty bG aA) bS) = 45
        ·rw [if_pos jK] at H
         have oC : ((bt (rdOf ByteArray.empty bG aA) bS) == 45) = true := Kba jK
         have oD : ((bt (rdOf ByteArray.empty bG aA) bS) != 45) = false := Ky jK
         clear jK
         have H' := Ya.mk H
         clear H
         have dE : 0 ≤ (aA : Int) := Kq Zc
         have dF : aA < (bG.length : Int) := Kq Zc
         obtain ⟨fZ, iV, gI⟩ := Kd.at_string (Kd.R_reads' HO_3.out).2.2 aA dE dF
         cases iV
         replace dE := Kt dE
         replace dF := Kt dF
         have dQ : 0 ≤ (aA : Int) := Kq Zc
         have dR : aA < (bG.length : Int) := Kq Zc
         obtain ⟨ad218, qG, gR⟩ := Kd.at_string (Kd.R_reads' HO_3.out).2.2 aA dQ dR
         obtain rfl : fZ = ad218 := Zxb
         replace dQ := Kt dQ
         replace dR := Kt dR
         have iL : (0 ≤ (bS : Int)) = True := Kp
         have iM : (bS < ((rdOf ByteArray.empty bG aA).size : Int)) = True := Kp
         have kZ := Ybb (rdOf ByteArray.empty bG aA) bS
         go_wp2_with (first | (go_at_call 87; (with_reducible refine (Yw.calls (bt (rdOf ByteArray.empty bG aA) bS) false _ ?z1 A21.out).mono ?_); (case z1 => exact Kh); rintro e w' ⟨rfl, ⟨nd, rfl⟩⟩))
         go_roundg k3
         case measure => have := dB.out; have := HJ4.out; have := sM.out; omega
         case rel => exact ⟨(wrap64 (bS + 1)), Zf, H', ⟨Zna⟩, ⟨Zm⟩, ⟨Za⟩⟩
        rw [if_neg jK] at H
        have oC : ((bt (rdOf ByteArray.empty bG aA) bS) == 45) = false := Kz jK
        have oD : ((bt (rdOf ByteArray.empty bG aA) bS) != 45) = true := Kaa jK
        by_cases kB : ((bt (rdOf ByteArray.empty bG aA) bS) = 95)
        rotate_left
        ·rw [if_neg kB] at H
         have pY : ((bt (rdOf ByteArray.empty bG aA) bS) == 95) = false := Kz kB
         have pZ : ((bt (rdOf ByteArray.empty bG aA) bS) != 95) = true := Kaa kB
         obtain rfl := Kv H
         have dE : 0 ≤ (aA : Int) := Kq Zc
         have dF : aA < (bG.length : Int) := Kq Zc
         obtain ⟨fZ, iV, gI⟩ := Kd.at_string (Kd.R_reads' HO_3.out).2.2 aA dE dF
         cases iV
         replace dE := Kt dE
         replace dF := Kt dF
         have dQ : 0 ≤ (aA : Int) := Kq Zc
         have dR : aA < (bG.length : Int) := Kq Zc
         obtain ⟨ad218, qG, gR⟩ := Kd.at_string (Kd.R_reads' HO_3.out).2.2 aA dQ dR
         obtain rfl : fZ = ad218 := Zxb
         replace dQ := Kt dQ
         replace dR := Kt dR
         have iL : (0 ≤ (bS : Int)) = True := Kp
         have iM : (bS < ((rdOf ByteArray.empty bG aA).size : Int)) = True := Kp
         have kZ := Ybb (rdOf ByteArray.empty bG aA) bS
         go_wp2_with (first | (go_at_call 87; (with_reducible refine (Yw.calls (bt (rdOf ByteArray.empty bG aA) bS) false _ ?z1 A21.out).mono ?_); (case z1 => exact Kh); rintro e w' ⟨rfl, ⟨nd, rfl⟩⟩))
         go_ret
         exact ⟨Zl, Za⟩
        rw [if_pos kB] at H
        have pY : ((bt (rdOf ByteArray.empty bG aA) bS) == 95) = true := Kba kB
        have pZ : ((bt (rdOf ByteArray.empty bG aA) bS) != 95) = false := Ky kB
        clear kB
        have H' := Ya.mk H
        clear H
        have dE : 0 ≤ (aA : Int) := Kq Zc
        have dF : aA < (bG.length : Int) := Kq Zc
        obtain ⟨fZ, iV, gI⟩ := Kd.at_string (Kd.R_reads' HO_3.out).2.2 aA dE dF
        cases iV
        replace dE := Kt dE
        replace dF := Kt dF
        have dQ : 0 ≤ (aA : Int) := Kq Zc
        have dR : aA < (bG.length : Int) := Kq Zc
        obtain ⟨ad218, qG, gR⟩ := Kd.at_string (Kd.R_reads' HO_3.out).2.2 aA dQ dR
        obtain rfl : fZ = ad218 := Zxb
        replace dQ := Kt dQ
        replace dR := Kt dR
        have iL : (0 ≤ (bS : Int)) = True := Kp
        have iM : (bS < ((rdOf ByteArray.empty bG aA).size : Int)) = True := Kp
        have kZ := Ybb (rdOf ByteArray.empty bG aA) bS
        go_wp2_with (first | (go_at_call 87; (with_reducible refine (Yw.calls (bt (rdOf ByteArray.empty bG aA) bS) false _ ?z1 A21.out).mono ?_); (case z1 => exact Kh); rintro e w' ⟨rfl, ⟨nd, rfl⟩⟩))
        go_roundg k3
        case measure => have := dB.out; have := HJ4.out; have := sM.out; omega
        case rel => exact ⟨(wrap64 (bS + 1)), Zf, H', ⟨Zna⟩, ⟨Zm⟩, ⟨Za⟩⟩
       rw [if_pos dG] at H
       have eT : decide (97 ≤ (bt (rdOf ByteArray.empty bG aA) bS)) = true := Kr dG
       clear dG
       by_cases eO : (bt (rdOf ByteArray.empty bG aA) bS) ≤ 122
       ·rw [if_pos eO] at H
        have hF : decide ((bt (rdOf ByteArray.empty bG aA) bS) ≤ 122) = true := Kr eO
        clear eO
        have H' := Ya.mk H
        clear H
        have dE : 0 ≤ (aA : Int) := Kq Zc
        have dF : aA < (bG.length : Int) := Kq Zc
        obtain ⟨fZ, iV, gI⟩ := Kd.at_string (Kd.R_reads' HO_3.out).2.2 aA dE dF
        cases iV
        replace dE := Kt dE
        replace dF := Kt dF
        have dQ : 0 ≤ (aA : Int) := Kq Zc
        have dR : aA < (bG.length : Int) := Kq Zc
        obtain ⟨ad218, qG, gR⟩ := Kd.at_string (Kd.R_reads' HO_3.out).2.2 aA dQ dR
        obtain rfl : fZ = ad218 := Zxb
        replace dQ := Kt dQ
        replace dR := Kt dR
        have iL : (0 ≤ (bS : Int)) = True := Kp
        have iM : (bS < ((rdOf ByteArray.empty bG aA).size : Int)) = True := Kp
        have kZ := Ybb (rdOf ByteArray.empty bG aA) bS
        go_wp2
        go_roundg k3
        case measure => have := dB.out; have := HJ4.out; have := sM.out; omega
        case rel => exact ⟨(wrap64 (bS + 1)), Zf, H', ⟨Zna⟩, ⟨Zm⟩, ⟨Za⟩⟩
       rw [if_neg eO] at H
       have hF : decide ((bt (rdOf ByteArray.empty bG aA) bS) ≤ 122) = false := Ks eO
       clear eO
       obtain ⟨aGk, oO, H⟩ := Ku H
       try dsimp -simprocs only at H
       have A17 := Ya.mk oO
       clear oO
       by_cases eP : aGk = true
       ·subst eP
        rw [if_pos rfl] at H
        have H' := Ya.mk H
        clear H
        have dE : 0 ≤ (aA : Int) := Kq Zc
        have dF : aA < (bG.length : Int) := Kq Zc
        obtain ⟨fZ, iV, gI⟩ := Kd.at_string (Kd.R_reads' HO_3.out).2.2 aA dE dF
        cases iV
        replace dE := Kt dE
        replace dF := Kt dF
        have dQ : 0 ≤ (aA : Int) := Kq Zc
        have dR : aA < (bG.length : Int) := Kq Zc
        obtain ⟨ad218, qG, gR⟩ := Kd.at_string (Kd.R_reads' HO_3.out).2.2 aA dQ dR
        obtain rfl : fZ = ad218 := Zxb
        replace dQ := Kt dQ
        replace dR := Kt dR
        have iL : (0 ≤ (bS : Int)) = True := Kp
        have iM : (bS < ((rdOf ByteArray.empty bG aA).size : Int)) = True := Kp
        have kZ := Ybb (rdOf ByteArray.empty bG aA) bS
        go_wp2_with (first | (go_at_call 87; (with_reducible refine (Yw.calls (bt (rdOf ByteArray.empty bG aA) bS) true _ ?z1 A17.out).mono ?_); (case z1 => exact Kh); rintro e w' ⟨rfl, ⟨nd, rfl⟩⟩))
        go_roundg k3
        case measure => have := dB.out; have := HJ4.out; have := sM.out; omega
        case rel => exact ⟨(wrap64 (bS + 1)), Zf, H', ⟨Zna⟩, ⟨Zm⟩, ⟨Za⟩⟩
       replace eP := Kx eP
       subst eP
       rw [if_neg (show ¬ (false = true) by decide)] at H
       by_cases iK : (bt (rdOf ByteArray.empty bG aA) bS) = 45
       ·rw [if_pos iK] at H
        have kD : ((bt (rdOf ByteArray.empty bG aA) bS) == 45) = true := Kba iK
        have pP : ((bt (rdOf ByteArray.empty bG aA) bS) != 45) = false := Ky iK
        clear iK
        have H' := Ya.mk H
        clear H
        have dE : 0 ≤ (aA : Int) := Kq Zc
        have dF : aA < (bG.length : Int) := Kq Zc
        obtain ⟨fZ, iV, gI⟩ := Kd.at_string (Kd.R_reads' HO_3.out).2.2 aA dE dF
        cases iV
        replace dE := Kt dE
        replace dF := Kt dF
        have dQ : 0 ≤ (aA : Int) := Kq Zc
        have dR : aA < (bG.length : Int) := Kq Zc
        obtain ⟨ad218, qG, gR⟩ := Kd.at_string (Kd.R_reads' HO_3.out).2.2 aA dQ dR
        obtain rfl : fZ = ad218 := Zxb
        replace dQ := Kt dQ
        replace dR := Kt dR
        have iL : (0 ≤ (bS : Int)) = True := Kp
        have iM : (bS < ((rdOf ByteArray.empty bG aA).size : Int)) = True := Kp
        have kZ := Ybb (rdOf ByteArray.empty bG aA) bS
        go_wp2_with (first | (go_at_call 87; (with_reducible refine (Yw.calls (bt (rdOf ByteArray.empty bG aA) bS) false _ ?z1 A17.out).mono ?_); (case z1 => exact Kh); rintro e w' ⟨rfl, ⟨nd, rfl⟩⟩))
        go_roundg k3
        case measure => have := dB.out; have := HJ4.out; have := sM.out; omega
        case rel => exact ⟨(wrap64 (bS + 1)), Zf, H', ⟨Zna⟩, ⟨Zm⟩, ⟨Za⟩⟩
       rw [if_neg iK] at H
       have kD : ((bt (rdOf ByteArray.empty bG aA) bS) == 45) = false := Kz iK
       have pP : ((bt (rdOf ByteArray.empty bG aA) bS) != 45) = true := Kaa iK
       by_cases gX : ((bt (rdOf ByteArray.empty bG aA) bS) = 95)
       rotate_left
       ·rw [if_neg gX] at H
        have kE : ((bt (rdOf ByteArray.empty bG aA) bS) == 95) = false := Kz gX
        have sX : ((bt (rdOf ByteArray.empty bG aA) bS) != 95) = true := Kaa gX
        obtain rfl := Kv H
        have dE : 0 ≤ (aA : Int) := Kq Zc
        have dF : aA < (bG.length : Int) := Kq Zc
        obtain ⟨fZ, iV, gI⟩ := Kd.at_string (Kd.R_reads' HO_3.out).2.2 aA dE dF
        cases iV
        replace dE := Kt dE
        replace dF := Kt dF
        have dQ : 0 ≤ (aA : Int) := Kq Zc
        have dR : aA < (bG.length : Int) := Kq Zc
        obtain ⟨ad218, qG, gR⟩ := Kd.at_string (Kd.R_reads' HO_3.out).2.2 aA dQ dR
        obtain rfl : fZ = ad218 := Zxb
        replace dQ := Kt dQ
        replace dR := Kt dR
        have iL : (0 ≤ (bS : Int)) = True := Kp
        have iM : (bS < ((rdOf ByteArray.empty bG aA).size : Int)) = True := Kp
        have kZ := Ybb (rdOf ByteArray.empty bG aA) bS
        go_wp2_with (first | (go_at_call 87; (with_reducible refine (Yw.calls (bt (rdOf ByteArray.empty bG aA) bS) false _ ?z1 A17.out).mono ?_); (case z1 => exact Kh); rintro e w' ⟨rfl, ⟨nd, rfl⟩⟩))
        go_ret
        exact ⟨Zl, Za⟩
       rw [if_pos gX] at H
       have kE : ((bt (rdOf ByteArray.empty bG aA) bS) == 95) = true := Kba gX
       have sX : ((bt (rdOf ByteArray.empty bG aA) bS) != 95) = false := Ky gX
       clear gX
       have H' := Ya.mk H
       clear H
       have dE : 0 ≤ (aA : Int) := Kq Zc
       have dF : aA < (bG.length : Int) := Kq Zc
       obtain ⟨fZ, iV, gI⟩ := Kd.at_string (Kd.R_reads' HO_3.out).2.2 aA dE dF
       cases iV
       replace dE := Kt dE
       replace dF := Kt dF
       have dQ : 0 ≤ (aA : Int) := Kq Zc
       have dR : aA < (bG.length : Int) := Kq Zc
       obtain ⟨ad218, qG, gR⟩ := Kd.at_string (Kd.R_reads' HO_3.out).2.2 aA dQ dR
       obtain rfl : fZ = ad218 := Zxb
       replace dQ := Kt dQ
       replace dR := Kt dR
       have iL : (0 ≤ (bS : Int)) = True := Kp
       have iM : bS < ((rdOf ByteArray.empty bG aA).size : Int) := Kq Zc
       have kZ := Ybb (rdOf ByteArray.empty bG aA) bS
       replace iM := Kt iM
       go_wp2_with (first | (go_at_call 87; (with_reducible refine (Yw.calls (bt (rdOf ByteArray.empty bG aA) bS) false _ ?z1 A17.out).mono ?_); (case z1 => exact Kh); rintro e w' ⟨rfl, ⟨nd, rfl⟩⟩))
       go_roundg k3
       case measure => have := dB.out; have := HJ4.out; have := sM.out; omega
       case rel => exact ⟨(wrap64 (bS + 1)), Zf, H', ⟨Zna⟩, ⟨Zm⟩, ⟨Za⟩⟩
end Go.Proofs.YtnmglnglbdpjjaaGreatDoor.X
