import Derived.Test.YtihaeeldgimdiaaGreatDoorIUX13
set_option linter.all false
namespace Go.Proofs.YtihaeeldgimdiaaGreatDoor.X
open Go.RowKit Go.Yw.PrintWords Go.Yw.PrintLast Go.Yw.PrintMore
attribute [local go_sem] Yxd Yvd Yze Yye Ymd Yld Yyd Ywd
mutual
def Yi.l0 : Nat → Y → List Y → Int → Option (Bool)
 | 0, _, _, _ => none
 | k + 1, x0, x3, x4 => if x4 < (x3.length : Int) then (if 0 ≤ x4 then (if ((rdOf ByteArray.empty x3 x4).size : Int) < 1 then (Yi.j1 k x0 x3 x4 true) else (Yi.j1 k x0 x3 x4 (decide (((rdOf ByteArray.empty x3 x4).size : Int) > 63)))) else (none)) else (if (x0.size : Int) > 253 then (some false) else (if 0 ≤ (wrap64 ((x3.length : Int) - 1)) then (if (wrap64 ((x3.length : Int) - 1)) < (x3.length : Int) then ((Yv.f k (rdOf ByteArray.empty x3 (wrap64 ((x3.length : Int) - 1))) 4611686018427387904).bind fun aBS => (if aBS.2 = 3 then (some true) else (Yi.l2 k x3 0))) else (none)) else (none)))
def Yi.j1 : Nat → Y → List Y → Int → Bool → Option (Bool)
 | 0, _, _, _, _ => none
 | k + 1, x0, x3, x4, x31 => if x31 = true then (some false) else (Yi.l1 k x0 x3 x4 0)
def Yi.l1 : Nat → Y → List Y → Int → Int → Option (Bool)
 | 0, _, _, _, _ => none
 | k + 1, x0, x3, x4, x5 => if 0 ≤ x4 then (if x4 < (x3.length : Int) then (if x5 < ((rdOf ByteArray.empty x3 x4).size : Int) then (if 0 ≤ x5 then (if (bt (rdOf ByteArray.empty x3 x4) x5) ≥ 97 then (if (bt (rdOf ByteArray.empty x3 x4) x5) ≤ 122 then (Yi.l1 k x0 x3 x4 (wrap64 (x5 + 1))) else ((Yt.f (bt (rdOf ByteArray.empty x3 x4) x5)).bind fun aGY => (if aGY = true then (Yi.l1 k x0 x3 x4 (wrap64 (x5 + 1))) else (if (bt (rdOf ByteArray.empty x3 x4) x5) = 45 then (Yi.l1 k x0 x3 x4 (wrap64 (x5 + 1))) else (if ((bt (rdOf ByteArray.empty x3 x4) x5) = 95) then (Yi.l1 k x0 x3 x4 (wrap64 (x5 + 1))) else (some false)))))) else ((Yt.f (bt (rdOf ByteArray.empty x3 x4) x5)).bind fun aGZ => (if aGZ = true then (Yi.l1 k x0 x3 x4 (wrap64 (x5 + 1))) else (if (bt (rdOf ByteArray.empty x3 x4) x5) = 45 then (Yi.l1 k x0 x3 x4 (wrap64 (x5 + 1))) else (if ((bt (rdOf ByteArray.empty x3 x4) x5) = 95) then (Yi.l1 k x0 x3 x4 (wrap64 (x5 + 1))) else (some false)))))) else (none)) else (Yi.l0 k x0 x3 (wrap64 (x4 + 1)))) else (none)) else (none)
def Yi.l2 : Nat → List Y → Int → Option (Bool)
 | 0, _, _ => none
 | k + 1, x3, x9 => if x9 < (x3.length : Int) then (if 0 ≤ x9 then ((Yxc.f k (rdOf ByteArray.empty x3 x9)).bind fun aHa => (if aHa = true then (Yi.l2 k x3 (wrap64 (x9 + 1))) else (some false))) else (none)) else (some ((x3.length : Int) == 4))
end
def Yi.f (k : Nat) (a0 : Y) : Option (Bool) := (Yga.f k a0 46).bind fun aY => (Yi.l0 k a0 aY 0)
set_option maxHeartbeats 8000000 in
set_option maxRecDepth 100000 in
theorem Yi.calls (k : Nat) (a0 : Y) (r : Bool) (w : World) (hE : EnvOk w) (h : Yi.f k a0 = some r) :
  Calls Tryz.prog 84 #[.string a0] w fun e w' => e = .returned (.bool r) ∧ Below w.heap.size w w' := by
 have HE := Ya.mk hE
 clear hE
 have HB := Ya.mk (Below.refl w.heap.size w)
 have H : ((Yga.f k a0 46).bind fun aY => (Yi.l0 k a0 aY 0)) = some r := h
 clear h
 obtain ⟨aY, dX, H⟩ := Kq H
 try dsimp -simprocs only at H
 have A2 := Ya.mk dX
 clear dX
 have H' := Ya.mk H
 clear H
 go_enter Tryz.func84, Tryz.ntmps84
 go_wp2_with (first | ((with_reducible refine Yh (f := 114) rfl ?_); refine Yy (some 11) rfl rfl Tryz.func114 Zi rfl #[.string a0, .int .u8 46] rfl Zb ?_; (with_reducible refine (Yga.calls k a0 46 aY _ ?z1 A2.out).mono ?_); (case z1 => exact Kh); rintro e w3 ⟨aYk, rfl, oQ, hb⟩; refine ⟨_, rfl, ?_⟩; have aMw := Ya.mk (Kd.R_lower oQ (Yna Za)); replace HB := Ya.mk (Ys Za hb); (try clear hb); (try clear oQ)))
 go_loopg [4] k (fun kq v4 w' => ∃ (aC : Int), v4 = .int .i64 aC ∧ Ya (Yi.l0 kq a0 aY aC = some r) ∧ Ya (kq ≤ k) ∧ Ya (Kd.R Kd.string 9 w' w.heap.size (fun _ => True) aYk aY) ∧ Ya (Below w.heap.size w w'))
 case atStart => exact ⟨(0), Zf, H', ⟨Ks _⟩, ⟨by (with_reducible repeat (first | apply Kd.R_alloc | apply Kd.R_drewN | apply Kd.R_drew)); exact aMw.out⟩, ⟨Za⟩⟩
 case round =>
  clear H'
  try clear c1
  try clear p2
  obtain ⟨aC, rfl, HA, cC, HO_3, HB⟩ := hrel
  cases gk with
  | zero => exact absurd HA.out (by simp [Yi.l0])
  | succ k1 =>
   have H := HA.out
   clear HA
   simp only [Yi.l0] at H
   by_cases c4 : aC < (aY.length : Int)
   rotate_left
   ·rw [if_neg c4] at H
    have bM : decide (aC < (aY.length : Int)) = false := Ko c4
    clear c4
    by_cases pM : (a0.size : Int) > 253
    ·rw [if_pos pM] at H
     have sN : decide (253 < (a0.size : Int)) = true := Kn pM
     have yK : decide (253 < a0.size) = true := Kn Zj
     clear pM
     obtain rfl := Kr H
     obtain ⟨bAE, bAF, aYl⟩ := Kd.R_slice HO_3.out
     subst aYl
     go_wp2
     go_ret
     exact ⟨Zk, Za⟩
    rw [if_neg pM] at H
    have sN : decide (253 < (a0.size : Int)) = false := Ko pM
    have yK : decide (253 < a0.size) = false := Ko Zj
    clear pM
    obtain ⟨ji27, pD⟩ : ∃ j_ : Int, (wrap64 ((aY.length : Int) - 1)) = j_ := ⟨_, rfl⟩
    replace H : (if 0 ≤ (ji27) then (if (ji27) < (aY.length : Int) then ((Yv.f k1 (rdOf ByteArray.empty aY (ji27)) 4611686018427387904).bind fun aBS => (if aBS.2 = 3 then (some true) else (Yi.l2 k1 aY 0))) else (none)) else (none)) = some r := by first | (rw [pD] at H; exact H) | (simp only [pD] at H ⊢; exact H)
    have hji27w : (IntKind.i64.wrap ((aY.length : Int) - 1)) = ji27 := (Yha _).trans pD
    by_cases c28 : 0 ≤ (ji27)
    rotate_left
    ·rw [if_neg c28] at H
     exact absurd H Zq
    rw [if_pos c28] at H
    have aMy : decide (0 ≤ (ji27)) = true := Kn c28
    clear c28
    by_cases oG : (ji27) < (aY.length : Int)
    rotate_left
    ·rw [if_neg oG] at H
     exact absurd H Zq
    rw [if_pos oG] at H
    have aBq : decide ((ji27) < (aY.length : Int)) = true := Kn oG
    clear oG
    obtain ⟨⟨aMz, wO⟩, aMA, H⟩ := Kq H
    try dsimp -simprocs only at H
    have pF := Ya.mk aMA
    clear aMA
    by_cases zQ : wO = 3
    ·rw [if_pos zQ] at H
     have aBG : (wO == 3) = true := Kx zQ
     have aBH : (wO != 3) = false := Ku zQ
     clear zQ
     obtain rfl := Kr H
     obtain ⟨bAG, bAH, aYm⟩ := Kd.R_slice HO_3.out
     subst aYm
     have tQ : 0 ≤ ((ji27) : Int) := Km Zc
     have tR : (ji27) < (aY.length : Int) := Km Zc
     obtain ⟨yW, aHb, yX⟩ := Kd.at_string (Kd.R_reads' HO_3.out).2.2 (ji27) tQ tR
     cases aHb
     replace tQ := Kp tQ
     replace tR := Kp tR
     go_wp2_with (first | ((with_reducible refine Yh (f := 59) rfl ?_); refine Yy (some 76) rfl rfl Tryz.func59 Zi rfl #[.string (rdOf ByteArray.empty aY (ji27)), .int .i64 4611686018427387904] rfl (by (try simp only [List.map_toArray, List.map_cons, List.map_nil]); first | done | (simp only [pD]; rfl) | rfl | (simp only [List.length_drop, List.length_take]; rfl)) ?_; (with_reducible refine (Yv.calls k1 (rdOf ByteArray.empty aY (ji27)) 4611686018427387904 aMz wO _ ?z1 pF.out).mono ?_); (case z1 => exact Kh); rintro e w' ⟨rfl, ⟨nd, rfl⟩⟩; refine ⟨_, rfl, ?_⟩))
     go_ret
     exact ⟨Zja, Za⟩
    rw [if_neg zQ] at H
    have aBG : (wO == 3) = false := Kv zQ
    have aBH : (wO != 3) = true := Kw zQ
    have H' := Ya.mk H
    clear H
    obtain ⟨bAI, aYn, aYo⟩ := Kd.R_slice HO_3.out
    subst aYo
    have tQ : 0 ≤ ((ji27) : Int) := Km Zc
    have tR : (ji27) < (aY.length : Int) := Km Zc
    obtain ⟨yW, aHb, yX⟩ := Kd.at_string (Kd.R_reads' HO_3.out).2.2 (ji27) tQ tR
    cases aHb
    replace tQ := Kp tQ
    replace tR := Kp tR
    go_wp2_with (first | ((with_reducible refine Yh (f := 59) rfl ?_); refine Yy (some 76) rfl rfl Tryz.func59 Zi rfl #[.string (rdOf ByteArray.empty aY (ji27)), .int .i64 4611686018427387904] rfl (by (try simp only [List.map_toArray, List.map_cons, List.map_nil]); first | done | (simp only [pD]; rfl) | rfl | (simp only [List.length_drop, List.length_take]; rfl)) ?_; (with_reducible refine (Yv.calls k1 (rdOf ByteArray.empty aY (ji27)) 4611686018427387904 aMz wO _ ?z1 pF.out).mono ?_); (case z1 => exact Kh); rintro e w' ⟨rfl, ⟨nd, rfl⟩⟩; refine ⟨_, rfl, ?_⟩))
    go_loopg [9] k1 (fun kq v9 w' => ∃ (jI : Int), v9 = .int .i64 jI ∧ Ya (Yi.l2 kq aY jI = some r) ∧ Ya (kq ≤ k1) ∧ Ya (Kd.R Kd.string 9 w' w.heap.size (fun _ => True) (.slice (some yW) aY.length aYn) aY) ∧ Ya (Below w.heap.size w w'))
    case atStart => exact ⟨(0), Zf, H', ⟨Ks _⟩, ⟨Zl⟩, ⟨Za⟩⟩
    case round =>
     clear H'
     try clear c1
     try clear p1
     try clear q1
     try clear uN
     try clear c2
     try clear p2
     try clear q2
     try clear wP
     try clear c3
     try clear c4
     try clear bM
     try clear c5
     try clear p6
     try clear c7
     try clear cM
     try clear c8
     try clear fS
     try clear jA
     try clear c9
     try clear dK
     try clear iJ
     try clear bK
     try clear fM
     try clear bT
     try clear dZ
     try clear cI
     try clear hJ
     try clear hU
     try clear fP
     try clear mD
     try clear bN
     try clear eA
     try clear dF
     try clear gD
     try clear dR
     try clear kE
     try clear oJ
     try clear pN
     try clear jD
     try clear lG
     try clear sS
     try clear jU
     try clear kF
     try clear oM
     try clear oN
     try clear kX
     try clear pP
     try clear pQ
     try clear pM
     try clear sN
     try clear yK
     try clear p27
     try clear q27
     try clear aYi
     try clear c28
     try clear aMy
     try clear oG
     try clear aBq
     try clear zQ
     try clear aBG
     try clear aBH
     try clear nH
     try clear qR
     try clear gB
     try clear gQ
     try clear yX
     try clear hU
     try clear p2
     try clear pA
     try clear zT
     try clear cX
     try clear dI
     try clear tQ
     try clear fP
     try clear q2
     try clear pB
     try clear zU
     try clear cY
     try clear dJ
     try clear tR
     obtain ⟨jI, rfl, HA, kU, HO_3, HB⟩ := hrel
     cases gk with
     | zero => exact absurd HA.out (by simp [Yi.l2])
     | succ k2 =>
      have H := HA.out
      clear HA
      simp only [Yi.l2] at H
      by_cases c34 : jI < (aY.length : Int)
      rotate_left
      ·rw [if_neg c34] at H
       have aEM : decide (jI < (aY.length : Int)) = false := Ko c34
       clear c34
       obtain rfl := Kr H
       go_wp2
       go_ret
       exact ⟨Zja, Za⟩
      rw [if_pos c34] at H
      have aEM : decide (jI < (aY.length : Int)) = true := Kn c34
      clear c34
      by_cases c35 : 0 ≤ jI
      rotate_left
      ·rw [if_neg c35] at H
       exact absurd H Zq
      rw [if_pos c35] at H
      have aZI : decide (0 ≤ jI) = true := Kn c35
      clear c35
      obtain ⟨aHa, aMB, H⟩ := Kq H
      try dsimp -simprocs only at H
      have A36 := Ya.mk aMB
      clear aMB
      by_cases c37 : aHa = true
      rotate_left
      ·replace c37 := Kt c37
       subst c37
       rw [if_neg (show ¬ (false = true) by decide)] at H
       obtain rfl := Kr H
       have wQ : 0 ≤ (jI : Int) := Km Zc
       have wR : jI < (aY.length : Int) := Km Zc
       obtain ⟨ad279, aHc, aDY⟩ := Kd.at_string (Kd.R_reads' HO_3.out).2.2 jI wQ wR
       obtain rfl : yW = ad279 := (by injection aHc)
       replace wQ := Kp wQ
       replace wR := Kp wR
       go_wp2_with (first | ((with_reducible refine Yh (f := 115) rfl ?_); refine Yy (some 91) rfl rfl Tryz.func115 Zi rfl #[.string (rdOf ByteArray.empty aY jI)] rfl Zb ?_; (with_reducible refine (Yxc.calls k2 (rdOf ByteArray.empty aY jI) false _ ?z1 A36.out).mono ?_); (case z1 => exact Kh); rintro e w39 ⟨rfl, hb⟩; refine ⟨_, rfl, ?_⟩; replace HO_3 := Ya.mk (Kd.R_below Zl hb); replace HB := Ya.mk (Ys Za hb); (try clear hb)))
       go_ret
       exact ⟨Zja, Za⟩
      subst c37
      rw [if_pos rfl] at H
      have H' := Ya.mk H
      clear H
      have wQ : 0 ≤ (jI : Int) := Km Zc
      have wR : jI < (aY.length : Int) := Km Zc
      obtain ⟨ad279, aHc, aDY⟩ := Kd.at_string (Kd.R_reads' HO_3.out).2.2 jI wQ wR
      obtain rfl : yW = ad279 := (by injection aHc)
      replace wQ := Kp wQ
      replace wR := Kp wR
      go_wp2_with (first | ((with_reducible refine Yh (f := 115) rfl ?_); refine Yy (some 91) rfl rfl Tryz.func115 Zi rfl #[.string (rdOf ByteArray.empty aY jI)] rfl Zb ?_; (with_reducible refine (Yxc.calls k2 (rdOf ByteArray.empty aY jI) true _ ?z1 A36.out).mono ?_); (case z1 => exact Kh); rintro e w38 ⟨rfl, hb⟩; refine ⟨_, rfl, ?_⟩; replace HO_3 := Ya.mk (Kd.R_below Zl hb); replace HB := Ya.mk (Ys Za hb); (try clear hb)))
      go_roundg k2
      case measure => have := cC.out; have := kU.out; omega
      case rel => exact ⟨(wrap64 (jI + 1)), Zf, H', ⟨Zpa⟩, ⟨Zl⟩, ⟨Za⟩⟩
   rw [if_pos c4] at H
   have bM : decide (aC < (aY.length : Int)) = true := Kn c4
   clear c4
   have HC5 := Ya.mk H
   clear H
   obtain ⟨Ao6, tZ, eo6⟩ := Kd.R_slice HO_3.out
   subst eo6
   go_upto_region 5 with (fail)
   go_cut [31] (fun v31 wc => ∃ (kq : Nat) (yY : Bool), v31 = .bool yY ∧ Ya (Yi.j1 kq a0 aY aC yY = some r) ∧ Ya (kq ≤ k1) ∧ Ya (Kd.R Kd.string 9 wc w.heap.size (fun _ => True) (.slice Ao6 aY.length tZ) aY) ∧ Ya (Below w.heap.size w wc))
   case first =>
    have H := HC5.out
    clear HC5
    by_cases c7 : 0 ≤ aC
    rotate_left
    ·rw [if_neg c7] at H
     exact absurd H Zq
    rw [if_pos c7] at H
    have cM : decide (0 ≤ aC) = true := Kn c7
    clear c7
    (first | rw [cM] | (simp only [Yha, Yka]; rw [cM]) | skip)
    by_cases c8 : ((rdOf ByteArray.empty aY aC).size : Int) < 1
    ·rw [if_pos c8] at H
     have fS : decide (((rdOf ByteArray.empty aY aC).size : Int) < 1) = true := Kn c8
     have jA : decide ((rdOf ByteArray.empty aY aC).size < 1) = true := Kn Zj
     clear c8
     have H' := Ya.mk H
     clear H
     have pA : 0 ≤ (aC : Int) := Km Zc
     have pB : aC < (aY.length : Int) := Km Zc
     obtain ⟨aEQ, aHd, nH⟩ := Kd.at_string (Kd.R_reads' HO_3.out).2.2 aC pA pB
     cases aHd
     replace pA := Kp pA
     replace pB := Kp pB
     go_wp2
     go_meet
     case rel => exact ⟨_, (true), Zf, H', ⟨Zfa⟩, ⟨Zl⟩, ⟨Za⟩⟩
    rw [if_neg c8] at H
    have fS : decide (((rdOf ByteArray.empty aY aC).size : Int) < 1) = false := Ko c8
    have jA : decide ((rdOf ByteArray.empty aY aC).size < 1) = false := Ko Zj
    clear c8
    have H' := Ya.mk H
    clear H
    have pA : 0 ≤ (aC : Int) := Km Zc
    have pB : aC < (aY.length : Int) := Km Zc
    obtain ⟨aEQ, aHd, nH⟩ := Kd.at_string (Kd.R_reads' HO_3.out).2.2 aC pA pB
    cases aHd
    replace pA := Kp pA
    replace pB := Kp pB
    have zT : 0 ≤ (aC : Int) := Km Zc
    have zU : aC < (aY.length : Int) := Km Zc
    obtain ⟨ad271, aYp, qR⟩ := Kd.at_string (Kd.R_reads' HO_3.out).2.2 aC zT zU
    obtain rfl : aEQ = ad271 := (by injection aYp)
    replace zT := Kp zT
    replace zU := Kp zU
    go_wp2
    go_meet
    case rel => exact ⟨_, (decide (((rdOf ByteArray.empty aY aC).size : Int) > 63)), Zf, H', ⟨Zfa⟩, ⟨Zl⟩, ⟨Za⟩⟩
   case rest =>
    clear HC5
    try clear c1
    try clear p2
    try clear q2
    try clear wP
    try clear c4
    try clear bM
    try clear c7
    try clear cM
    try clear c8
    try clear fS
    try clear jA
    try clear nH
    try clear qR
    try clear p2
    try clear pA
    try clear zT
    try clear pB
    try clear zU
    obtain ⟨kq, yY, rfl, HA, HJ4, HO_3, HB⟩ := hcut
    cases kq with
    | zero => exact absurd HA.out (by simp [Yi.j1])
    | succ kj4 =>
     have H := HA.out
     clear HA
     simp only [Yi.j1] at H
     by_cases c9 : yY = true
     ·subst c9
      rw [if_pos rfl] at H
      obtain rfl := Kr H
      go_wp2
      go_ret
      exact ⟨Zk, Za⟩
     replace c9 := Kt c9
     subst c9
     rw [if_neg (show ¬ (false = true) by decide)] at H
     have H' := Ya.mk H
     clear H
     go_wp2
     go_loopg [5] kj4 (fun kq v5 w' => ∃ (bH : Int), v5 = .int .i64 bH ∧ Ya (Yi.l1 kq a0 aY aC bH = some r) ∧ Ya (kq ≤ kj4) ∧ Ya (Kd.R Kd.string 9 w' w.heap.size (fun _ => True) (.slice Ao6 aY.length tZ) aY) ∧ Ya (Below w.heap.size w w'))
     case atStart => exact ⟨(0), Zf, H', ⟨Ks _⟩, ⟨Zl⟩, ⟨Za⟩⟩
     case round =>
      clear H'
      try clear c1
      try clear p2
      try clear q2
      try clear wP
      try clear c4
      try clear bM
      try clear c7
      try clear cM
      try clear c8
      try clear fS
      try clear jA
      try clear c9
      try clear nH
      try clear qR
      try clear p2
      try clear pA
      try clear zT
      try clear q2
      try clear pB
      try clear zU
      obtain ⟨bH, rfl, HA, qX, HO_3, HB⟩ := hrel
      cases gk with
      | zero => exact absurd HA.out (by simp [Yi.l1])
      | succ k3 =>
       have H := HA.out
       clear HA
       simp only [Yi.l1] at H
       by_cases dK : 0 ≤ aC
       rotate_left
       ·rw [if_neg dK] at H
        exact absurd H Zq
       rw [if_pos dK] at H
       have iJ : decide (0 ≤ aC) = true := Kn dK
       clear dK
       by_cases bK : aC < (aY.length : Int)
       rotate_left
       ·rw [if_neg bK] at H
        exact absurd H Zq
       rw [if_pos bK] at H
       have fM : decide (aC < (aY.length : Int)) = true := Kn bK
       clear bK
       by_cases bT : bH < ((rdOf ByteArray.empty aY aC).size : Int)
       rotate_left
       ·rw [if_neg bT] at H
        have dZ : decide (bH < ((rdOf ByteArray.empty aY aC).size : Int)) = false := Ko bT
        clear bT
        have H' := Ya.mk H
        clear H
        have cX : 0 ≤ (aC : Int) := Km Zc
        have cY : aC < (aY.length : Int) := Km Zc
        obtain ⟨fQ, jJ, gB⟩ := Kd.at_string (Kd.R_reads' HO_3.out).2.2 aC cX cY
        cases jJ
        replace cX := Kp cX
        replace cY := Kp cY
        go_wp2
        go_roundg k3
        case measure => have := cC.out; have := HJ4.out; have := qX.out; omega
        case rel => exact ⟨(wrap64 (aC + 1)), Zf, H', ⟨Zea⟩, ⟨Zl⟩, ⟨Za⟩⟩
       rw [if_pos bT] at H
       have dZ : decide (bH < ((rdOf ByteArray.empty aY aC).size : Int)) = true := Kn bT
       clear bT
       by_cases cI : 0 ≤ bH
       rotate_left
       ·rw [if_neg cI] at H
        exact absurd H Zq
       rw [if_pos cI] at H
       have hJ : decide (0 ≤ bH) = true := Kn cI
       clear cI
       by_cases bN : (bt (rdOf ByteArray.empty aY aC) bH) ≥ 97
       rotate_left
       ·rw [if_neg bN] at H
        have eA : decide (97 ≤ (bt (rdOf ByteArray.empty aY aC) bH)) = false := Ko bN
        clear bN
        obtain ⟨aGZ, aBl, H⟩ := Kq H
        try dsimp -simprocs only at H
        have A21 := Ya.mk aBl
        clear aBl
        by_cases jU : aGZ = true
        ·subst jU
         rw [if_pos rfl] at H
         have H' := Ya.mk H
         clear H
         have cX : 0 ≤ (aC : Int) := Km Zc
         have cY : aC < (aY.length : Int) := Km Zc
         obtain ⟨fQ, jJ, gB⟩ := Kd.at_string (Kd.R_reads' HO_3.out).2.2 aC cX cY
         cases jJ
         replace cX := Kp cX
         replace cY := Kp cY
         have dI : 0 ≤ (aC : Int) := Km Zc
         have dJ : aC < (aY.length : Int) := Km Zc
         obtain ⟨ad273, pT, gQ⟩ := Kd.at_string (Kd.R_reads' HO_3.out).2.2 aC dI dJ
         obtain rfl : fQ = ad273 := Zqb
         replace dI := Kp dI
         replace dJ := Kp dJ
         have hU : (0 ≤ (bH : Int)) = True := Kl
         have fP : (bH < ((rdOf ByteArray.empty aY aC).size : Int)) = True := Kl
         have mD := Ypa (rdOf ByteArray.empty aY aC) bH
         go_wp2_with (first | (go_at_call 56; (with_reducible refine (Yt.calls (bt (rdOf ByteArray.empty aY aC) bH) true _ ?z1 A21.out).mono ?_); (case z1 => exact Kh); rintro e w' ⟨rfl, ⟨nd, rfl⟩⟩))
         go_roundg k3
         case measure => have := cC.out; have := HJ4.out; have := qX.out; omega
         case rel => exact ⟨(wrap64 (bH + 1)), Zf, H', ⟨Zea⟩, ⟨Zl⟩, ⟨Za⟩⟩
        replace jU := Kt jU
        subst jU
        rw [if_neg (show ¬ (false = true) by decide)] at H
        by_cases kF : (bt (rdOf ByteArray.empty aY aC) bH) = 45
        ·rw [if_pos kF] at H
         have oM : ((bt (rdOf ByteArray.empty aY aC) bH) == 45) = true := Kx kF
         have oN : ((bt (rdOf ByteArray.empty aY aC) bH) != 45) = false := Ku kF
         clear kF
         have H' := Ya.mk H
         clear H
         have cX : 0 ≤ (aC : Int) := Km Zc
         have cY : aC < (aY.length : Int) := Km Zc
         obtain ⟨fQ, jJ, gB⟩ := Kd.at_string (Kd.R_reads' HO_3.out).2.2 aC cX cY
         cases jJ
         replace cX := Kp cX
         replace cY := Kp cY
         have dI : 0 ≤ (aC : Int) := Km Zc
         have dJ : aC < (aY.length : Int) := Km Zc
         obtain ⟨ad273, pT, gQ⟩ := Kd.at_string (Kd.R_reads' HO_3.out).2.2 aC dI dJ
         obtain rfl : fQ = ad273 := Zqb
         replace dI := Kp dI
         replace dJ := Kp dJ
         have hU : (0 ≤ (bH : Int)) = True := Kl
         have fP : (bH < ((rdOf ByteArray.empty aY aC).size : Int)) = True := Kl
         have mD := Ypa (rdOf ByteArray.empty aY aC) bH
         go_wp2_with (first | (go_at_call 56; (with_reducible refine (Yt.calls (bt (rdOf ByteArray.empty aY aC) bH) false _ ?z1 A21.out).mono ?_); (case z1 => exact Kh); rintro e w' ⟨rfl, ⟨nd, rfl⟩⟩))
         go_roundg k3
         case measure => have := cC.out; have := HJ4.out; have := qX.out; omega
         case rel => exact ⟨(wrap64 (bH + 1)), Zf, H', ⟨Zea⟩, ⟨Zl⟩, ⟨Za⟩⟩
        rw [if_neg kF] at H
        have oM : ((bt (rdOf ByteArray.empty aY aC) bH) == 45) = false := Kv kF
        have oN : ((bt (rdOf ByteArray.empty aY aC) bH) != 45) = true := Kw kF
        by_cases kX : ((bt (rdOf ByteArray.empty aY aC) bH) = 95)
        rotate_left
        ·rw [if_neg kX] at H
         have pP : ((bt (rdOf ByteArray.empty aY aC) bH) == 95) = false := Kv kX
         have pQ : ((bt (rdOf ByteArray.empty aY aC) bH) != 95) = true := Kw kX
         obtain rfl := Kr H
         have cX : 0 ≤ (aC : Int) := Km Zc
         have cY : aC < (aY.length : Int) := Km Zc
         obtain ⟨fQ, jJ, gB⟩ := Kd.at_string (Kd.R_reads' HO_3.out).2.2 aC cX cY
         cases jJ
         replace cX := Kp cX
         replace cY := Kp cY
         have dI : 0 ≤ (aC : Int) := Km Zc
         have dJ : aC < (aY.length : Int) := Km Zc
         obtain ⟨ad273, pT, gQ⟩ := Kd.at_string (Kd.R_reads' HO_3.out).2.2 aC dI dJ
         obtain rfl : fQ = ad273 := Zqb
         replace dI := Kp dI
         replace dJ := Kp dJ
         have hU : (0 ≤ (bH : Int)) = True := Kl
         have fP : (bH < ((rdOf ByteArray.empty aY aC).size : Int)) = True := Kl
         have mD := Ypa (rdOf ByteArray.empty aY aC) bH
         go_wp2_with (first | (go_at_call 56; (with_reducible refine (Yt.calls (bt (rdOf ByteArray.empty aY aC) bH) false _ ?z1 A21.out).mono ?_); (case z1 => exact Kh); rintro e w' ⟨rfl, ⟨nd, rfl⟩⟩))
         go_ret
         exact ⟨Zk, Za⟩
        rw [if_pos kX] at H
        have pP : ((bt (rdOf ByteArray.empty aY aC) bH) == 95) = true := Kx kX
        have pQ : ((bt (rdOf ByteArray.empty aY aC) bH) != 95) = false := Ku kX
        clear kX
        have H' := Ya.mk H
        clear H
        have cX : 0 ≤ (aC : Int) := Km Zc
        have cY : aC < (aY.length : Int) := Km Zc
        obtain ⟨fQ, jJ, gB⟩ := Kd.at_string (Kd.R_reads' HO_3.out).2.2 aC cX cY
        cases jJ
        replace cX := Kp cX
        replace cY := Kp cY
        have dI : 0 ≤ (aC : Int) := Km Zc
        have dJ : aC < (aY.length : Int) := Km Zc
        obtain ⟨ad273, pT, gQ⟩ := Kd.at_string (Kd.R_reads' HO_3.out).2.2 aC dI dJ
        obtain rfl : fQ = ad273 := Zqb
        replace dI := Kp dI
        replace dJ := Kp dJ
        have hU : (0 ≤ (bH : Int)) = True := Kl
        have fP : (bH < ((rdOf ByteArray.empty aY aC).size : Int)) = True := Kl
        have mD := Ypa (rdOf ByteArray.empty aY aC) bH
        go_wp2_with (first | (go_at_call 56; (with_reducible refine (Yt.calls (bt (rdOf ByteArray.empty aY aC) bH) false _ ?z1 A21.out).mono ?_); (case z1 => exact Kh); rintro e w' ⟨rfl, ⟨nd, rfl⟩⟩))
        go_roundg k3
        case measure => have := cC.out; have := HJ4.out; have := qX.out; omega
        case rel => exact ⟨(wrap64 (bH + 1)), Zf, H', ⟨Zea⟩, ⟨Zl⟩, ⟨Za⟩⟩
       rw [if_pos bN] at H
       have eA : decide (97 ≤ (bt (rdOf ByteArray.empty aY aC) bH)) = true := Kn bN
       clear bN
       by_cases dF : (bt (rdOf ByteArray.empty aY aC) bH) ≤ 122
       ·rw [if_pos dF] at H
        have gD : decide ((bt (rdOf ByteArray.empty aY aC) bH) ≤ 122) = true := Kn dF
        clear dF
        have H' := Ya.mk H
        clear H
        have cX : 0 ≤ (aC : Int) := Km Zc
        have cY : aC < (aY.length : Int) := Km Zc
        obtain ⟨fQ, jJ, gB⟩ := Kd.at_string (Kd.R_reads' HO_3.out).2.2 aC cX cY
        cases jJ
        replace cX := Kp cX
        replace cY := Kp cY
        have dI : 0 ≤ (aC : Int) := Km Zc
        have dJ : aC < (aY.length : Int) := Km Zc
        obtain ⟨ad273, pT, gQ⟩ := Kd.at_string (Kd.R_reads' HO_3.out).2.2 aC dI dJ
        obtain rfl : fQ = ad273 := Zqb
        replace dI := Kp dI
        replace dJ := Kp dJ
        have hU : (0 ≤ (bH : Int)) = True := Kl
        have fP : (bH < ((rdOf ByteArray.empty aY aC).size : Int)) = True := Kl
        have mD := Ypa (rdOf ByteArray.empty aY aC) bH
        go_wp2
        go_roundg k3
        case measure => have := cC.out; have := HJ4.out; have := qX.out; omega
        case rel => exact ⟨(wrap64 (bH + 1)), Zf, H', ⟨Zea⟩, ⟨Zl⟩, ⟨Za⟩⟩
       rw [if_neg dF] at H
       have gD : decide ((bt (rdOf ByteArray.empty aY aC) bH) ≤ 122) = false := Ko dF
       clear dF
       obtain ⟨aGY, oC, H⟩ := Kq H
       try dsimp -simprocs only at H
       have zY := Ya.mk oC
       clear oC
       by_cases dR : aGY = true
       ·subst dR
        rw [if_pos rfl] at H
        have H' := Ya.mk H
        clear H
        have cX : 0 ≤ (aC : Int) := Km Zc
        have cY : aC < (aY.length : Int) := Km Zc
        obtain ⟨fQ, jJ, gB⟩ := Kd.at_string (Kd.R_reads' HO_3.out).2.2 aC cX cY
        cases jJ
        replace cX := Kp cX
        replace cY := Kp cY
        have dI : 0 ≤ (aC : Int) := Km Zc
        have dJ : aC < (aY.length : Int) := Km Zc
        obtain ⟨ad273, pT, gQ⟩ := Kd.at_string (Kd.R_reads' HO_3.out).2.2 aC dI dJ
        obtain rfl : fQ = ad273 := Zqb
        replace dI := Kp dI
        replace dJ := Kp dJ
        have hU : (0 ≤ (bH : Int)) = True := Kl
        have fP : (bH < ((rdOf ByteArray.empty aY aC).size : Int)) = True := Kl
        have mD := Ypa (rdOf ByteArray.empty aY aC) bH
        go_wp2_with (first | (go_at_call 56; (with_reducible refine (Yt.calls (bt (rdOf ByteArray.empty aY aC) bH) true _ ?z1 zY.out).mono ?_); (case z1 => exact Kh); rintro e w' ⟨rfl, ⟨nd, rfl⟩⟩))
        go_roundg k3
        case measure => have := cC.out; have := HJ4.out; have := qX.out; omega
        case rel => exact ⟨(wrap64 (bH + 1)), Zf, H', ⟨Zea⟩, ⟨Zl⟩, ⟨Za⟩⟩
       replace dR := Kt dR
       subst dR
       rw [if_neg (show ¬ (false = true) by decide)] at H
       by_cases kE : (bt (rdOf ByteArray.empty aY aC) bH) = 45
       ·rw [if_pos kE] at H
        have oJ : ((bt (rdOf ByteArray.empty aY aC) bH) == 45) = true := Kx kE
        have pN : ((bt (rdOf ByteArray.empty aY aC) bH) != 45) = false := Ku kE
        clear kE
        have H' := Ya.mk H
        clear H
        have cX : 0 ≤ (aC : Int) := Km Zc
        have cY : aC < (aY.length : Int) := Km Zc
        obtain ⟨fQ, jJ, gB⟩ := Kd.at_string (Kd.R_reads' HO_3.out).2.2 aC cX cY
        cases jJ
        replace cX := Kp cX
        replace cY := Kp cY
        have dI : 0 ≤ (aC : Int) := Km Zc
        have dJ : aC < (aY.length : Int) := Km Zc
        obtain ⟨ad273, pT, gQ⟩ := Kd.at_string (Kd.R_reads' HO_3.out).2.2 aC dI dJ
        obtain rfl : fQ = ad273 := Zqb
        replace dI := Kp dI
        replace dJ := Kp dJ
        have hU : (0 ≤ (bH : Int)) = True := Kl
        have fP : (bH < ((rdOf ByteArray.empty aY aC).size : Int)) = True := Kl
        have mD := Ypa (rdOf ByteArray.empty aY aC) bH
        go_wp2_with (first | (go_at_call 56; (with_reducible refine (Yt.calls (bt (rdOf ByteArray.empty aY aC) bH) false _ ?z1 zY.out).mono ?_); (case z1 => exact Kh); rintro e w' ⟨rfl, ⟨nd, rfl⟩⟩))
        go_roundg k3
        case measure => have := cC.out; have := HJ4.out; have := qX.out; omega
        case rel => exact ⟨(wrap64 (bH + 1)), Zf, H', ⟨Zea⟩, ⟨Zl⟩, ⟨Za⟩⟩
       rw [if_neg kE] at H
       have oJ : ((bt (rdOf ByteArray.empty aY aC) bH) == 45) = false := Kv kE
       have pN : ((bt (rdOf ByteArray.empty aY aC) bH) != 45) = true := Kw kE
       by_cases jD : ((bt (rdOf ByteArray.empty aY aC) bH) = 95)
       rotate_left
       ·rw [if_neg jD] at H
        have lG : ((bt (rdOf ByteArray.empty aY aC) bH) == 95) = false := Kv jD
        have sS : ((bt (rdOf ByteArray.empty aY aC) bH) != 95) = true := Kw jD
        obtain rfl := Kr H
        have cX : 0 ≤ (aC : Int) := Km Zc
        have cY : aC < (aY.length : Int) := Km Zc
        obtain ⟨fQ, jJ, gB⟩ := Kd.at_string (Kd.R_reads' HO_3.out).2.2 aC cX cY
        cases jJ
        replace cX := Kp cX
        replace cY := Kp cY
        have dI : 0 ≤ (aC : Int) := Km Zc
        have dJ : aC < (aY.length : Int) := Km Zc
        obtain ⟨ad273, pT, gQ⟩ := Kd.at_string (Kd.R_reads' HO_3.out).2.2 aC dI dJ
        obtain rfl : fQ = ad273 := Zqb
        replace dI := Kp dI
        replace dJ := Kp dJ
        have hU : (0 ≤ (bH : Int)) = True := Kl
        have fP : (bH < ((rdOf ByteArray.empty aY aC).size : Int)) = True := Kl
        have mD := Ypa (rdOf ByteArray.empty aY aC) bH
        go_wp2_with (first | (go_at_call 56; (with_reducible refine (Yt.calls (bt (rdOf ByteArray.empty aY aC) bH) false _ ?z1 zY.out).mono ?_); (case z1 => exact Kh); rintro e w' ⟨rfl, ⟨nd, rfl⟩⟩))
        go_ret
        exact ⟨Zk, Za⟩
       rw [if_pos jD] at H
       have lG : ((bt (rdOf ByteArray.empty aY aC) bH) == 95) = true := Kx jD
       have sS : ((bt (rdOf ByteArray.empty aY aC) bH) != 95) = false := Ku jD
       clear jD
       have H' := Ya.mk H
       clear H
       have cX : 0 ≤ (aC : Int) := Km Zc
       have cY : aC < (aY.length : Int) := Km Zc
       obtain ⟨fQ, jJ, gB⟩ := Kd.at_string (Kd.R_reads' HO_3.out).2.2 aC cX cY
       cases jJ
       replace cX := Kp cX
       replace cY := Kp cY
       have dI : 0 ≤ (aC : Int) := Km Zc
       have dJ : aC < (aY.length : Int) := Km Zc
       obtain ⟨ad273, pT, gQ⟩ := Kd.at_string (Kd.R_reads' HO_3.out).2.2 aC dI dJ
       obtain rfl : fQ = ad273 := Zqb
       replace dI := Kp dI
       replace dJ := Kp dJ
       have hU : (0 ≤ (bH : Int)) = True := Kl
       have fP : bH < ((rdOf ByteArray.empty aY aC).size : Int) := Km Zc
       have mD := Ypa (rdOf ByteArray.empty aY aC) bH
       replace fP := Kp fP
       go_wp2_with (first | (go_at_call 56; (with_reducible refine (Yt.calls (bt (rdOf ByteArray.empty aY aC) bH) false _ ?z1 zY.out).mono ?_); (case z1 => exact Kh); rintro e w' ⟨rfl, ⟨nd, rfl⟩⟩))
       go_roundg k3
       case measure => have := cC.out; have := HJ4.out; have := qX.out; omega
       case rel => exact ⟨(wrap64 (bH + 1)), Zf, H', ⟨Zea⟩, ⟨Zl⟩, ⟨Za⟩⟩
end Go.Proofs.YtihaeeldgimdiaaGreatDoor.X
