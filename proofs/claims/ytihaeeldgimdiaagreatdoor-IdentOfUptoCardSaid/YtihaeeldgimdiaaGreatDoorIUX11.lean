import Derived.Test.YtihaeeldgimdiaaGreatDoorIUX10
set_option linter.all false
namespace Go.Proofs.YtihaeeldgimdiaaGreatDoor.X
open Go.RowKit Go.Yw.PrintWords Go.Yw.PrintLast Go.Yw.PrintMore
attribute [local go_sem] Yxd Yvd Yze Yye Ymd Yld Yyd Ywd
set_option maxHeartbeats 8000000
set_option maxRecDepth 100000
mutual
def Yqa.j0 : Nat → Int → Y → Y → Option (Y)
 | 0, _, _, _ => none
 | k + 1, x1, x5, x6 => Yqa.l0 k x1 x5 x6
def Yqa.l0 : Nat → Int → Y → Y → Option (Y)
 | 0, _, _, _ => none
 | k + 1, x1, x5, x6 => if (x6.size : Int) < (mn x1 20) then (if 1 + x6.size ≤ 9223372036854775807 then (Yqa.l0 k x1 x5 ((⟨#[48]⟩ : Y) ++ x6)) else (none)) else (if x5.size + x6.size ≤ 9223372036854775807 then (some (x5 ++ x6)) else (none))
end
def Yqa.f (k : Nat) (a0 a1 : Int) : Option (Y) := if a0 < 0 then ((Yxa.f k (IntKind.u64.wrap ((IntKind.u64.wrap (wrap64 (-(wrap64 (a0 + 1))))) + 1))).bind fun zR => (Yqa.j0 k a1 (⟨#[45]⟩ : Y) zR)) else ((Yxa.f k (IntKind.u64.wrap (a0))).bind fun zS => (Yqa.j0 k a1 (⟨#[]⟩ : Y) zS))
theorem Yqa.calls (k : Nat) (a0 a1 : Int) (r : Y) (w : World) (hE : EnvOk w) (h : Yqa.f k a0 a1 = some r) :
  Calls Tryz.prog 39 #[.int .i64 a0, .int .i64 a1] w fun e w' => e = .returned (.string r) ∧ Below w.heap.size w w' := by
 have HE := Ya.mk hE
 clear hE
 have HB := Ya.mk (Below.refl w.heap.size w)
 have H : (if a0 < 0 then ((Yxa.f k (IntKind.u64.wrap ((IntKind.u64.wrap (wrap64 (-(wrap64 (a0 + 1))))) + 1))).bind fun zR => (Yqa.j0 k a1 (⟨#[45]⟩ : Y) zR)) else ((Yxa.f k (IntKind.u64.wrap (a0))).bind fun zS => (Yqa.j0 k a1 (⟨#[]⟩ : Y) zS))) = some r := h
 clear h
 have uQ := Ya.mk H
 clear H
 go_enter Tryz.func39, Tryz.ntmps39
 go_upto_if 8 with (fail)
 go_cut [5, 6] (fun v5 v6 wc => ∃ (kq : Nat) (dH : Y) (cF : Y), v5 = .string dH ∧ v6 = .string cF ∧ Ya (Yqa.j0 kq a1 dH cF = some r) ∧ Ya (kq ≤ k) ∧ Ya (Below w.heap.size w wc))
 case first =>
  have H := uQ.out
  clear uQ
  by_cases c4 : a0 < 0
  rotate_left
  ·rw [if_neg c4] at H
   have bM : decide (a0 < 0) = false := Ko c4
   clear c4
   (first | rw [bM] | (simp only [Yha, Yka]; rw [bM]) | skip)
   obtain ⟨zS, pG, H⟩ := Kq H
   try dsimp -simprocs only at H
   have A7 := Ya.mk pG
   clear pG
   have H' := Ya.mk H
   clear H
   go_wp2_with (first | ((with_reducible refine Yh (f := 62) rfl ?_); refine Yy (some 17) rfl rfl Tryz.func62 Zi rfl #[.int .u64 (IntKind.u64.wrap (a0))] rfl Zb ?_; (with_reducible refine (Yxa.calls k (IntKind.u64.wrap (a0)) zS _ ?z1 A7.out).mono ?_); (case z1 => exact Kh); rintro e w8 ⟨rfl, hb⟩; refine ⟨_, rfl, ?_⟩; replace HB := Ya.mk (Ys Za hb); (try clear hb)))
   go_meet
   case rel => exact ⟨_, ((⟨#[]⟩ : Y)), (zS), Zf, Zf, H', ⟨Zka⟩, ⟨Za⟩⟩
  rw [if_pos c4] at H
  have bM : decide (a0 < 0) = true := Kn c4
  clear c4
  (first | rw [bM] | (simp only [Yha, Yka]; rw [bM]) | skip)
  obtain ⟨zR, A50, H⟩ := Kq H
  try dsimp -simprocs only at H
  have A5 := Ya.mk A50
  clear A50
  have H' := Ya.mk H
  clear H
  go_wp2_with (first | ((with_reducible refine Yh (f := 62) rfl ?_); refine Yy (some 14) rfl rfl Tryz.func62 Zi rfl #[.int .u64 (IntKind.u64.wrap ((IntKind.u64.wrap (wrap64 (-(wrap64 (a0 + 1))))) + 1))] rfl Zb ?_; (with_reducible refine (Yxa.calls k (IntKind.u64.wrap ((IntKind.u64.wrap (wrap64 (-(wrap64 (a0 + 1))))) + 1)) zR _ ?z1 A5.out).mono ?_); (case z1 => exact Kh); rintro e w6 ⟨rfl, hb⟩; refine ⟨_, rfl, ?_⟩; replace HB := Ya.mk (Ys Za hb); (try clear hb)))
  go_meet
  case rel => exact ⟨_, ((⟨#[45]⟩ : Y)), (zR), Zf, Zf, H', ⟨Zka⟩, ⟨Za⟩⟩
 case rest =>
  clear uQ
  obtain ⟨kq, dH, cF, rfl, rfl, HA, tW, HB⟩ := hcut
  cases kq with
  | zero => exact absurd HA.out (by simp [Yqa.j0])
  | succ pH =>
   have H := HA.out
   clear HA
   simp only [Yqa.j0] at H
   have H' := Ya.mk H
   clear H
   go_wp2
   go_loopg [6] pH (fun kq v6 w' => ∃ (cF : Y), v6 = .string cF ∧ Ya (Yqa.l0 kq a1 dH cF = some r) ∧ Ya (kq ≤ pH) ∧ Ya (Below w.heap.size w w'))
   case atStart => exact ⟨(cF), Zf, H', ⟨Ks _⟩, ⟨Za⟩⟩
   case round =>
    clear H'
    try clear p2
    try clear c3
    try clear c4
    try clear bM
    try clear c6
    try clear p6
    try clear p2
    try clear p6
    obtain ⟨cF, rfl, HA, kU, HB⟩ := hrel
    cases gk with
    | zero => exact absurd HA.out (by simp [Yqa.l0])
    | succ k2 =>
     have H := HA.out
     clear HA
     simp only [Yqa.l0] at H
     obtain ⟨ji9, oU⟩ : ∃ j_ : Int, (mn a1 20) = j_ := ⟨_, rfl⟩
     replace H : (if (cF.size : Int) < (ji9) then (if 1 + cF.size ≤ 9223372036854775807 then (Yqa.l0 k2 a1 dH ((⟨#[48]⟩ : Y) ++ cF)) else (none)) else (if dH.size + cF.size ≤ 9223372036854775807 then (some (dH ++ cF)) else (none))) = some r := by first | (rw [oU] at H; exact H) | (simp only [oU] at H ⊢; exact H)
     have aJa : (if 20 < a1 then 20 else a1) = ji9 := oU
     by_cases dK : (cF.size : Int) < (ji9)
     rotate_left
     ·rw [if_neg dK] at H
      have iJ : decide ((cF.size : Int) < (ji9)) = false := Ko dK
      clear dK
      by_cases bT : dH.size + cF.size ≤ 9223372036854775807
      rotate_left
      ·rw [if_neg bT] at H
       exact absurd H Zq
      rw [if_pos bT] at H
      have dZ := Kp bT
      have rJ : decide (dH.size + cF.size ≤ 9223372036854775807) = true := Kn bT
      try have aZz : (9223372036854775807 < dH.size + cF.size) = False := eq_false (Nat.not_lt.2 bT)
      obtain rfl := Kr H
      go_wp2
      go_ret
      exact ⟨by first | rfl | (simp [Ym, Yl] <;> rfl) | (simp only [← oU]; first | rfl | (simp [Ym, Yl] <;> rfl)) | (simp [*, Ym, Yl] <;> rfl), Za⟩
     rw [if_pos dK] at H
     have iJ : decide ((cF.size : Int) < (ji9)) = true := Kn dK
     clear dK
     by_cases bK : 1 + cF.size ≤ 9223372036854775807
     rotate_left
     ·rw [if_neg bK] at H
      exact absurd H Zq
     rw [if_pos bK] at H
     have fM := Kp bK
     have kH : decide (1 + cF.size ≤ 9223372036854775807) = true := Kn bK
     try have aLK : (9223372036854775807 < 1 + cF.size) = False := eq_false (Nat.not_lt.2 bK)
     have H' := Ya.mk H
     clear H
     go_wp2
     go_roundg k2
     case measure => have := tW.out; have := kU.out; omega
     case rel => exact ⟨((⟨#[48]⟩ : Y) ++ cF), Zf, H', ⟨Zhb⟩, ⟨Za⟩⟩
def Ygc.f (k : Nat) (a0 : Int) : Option (Y) := (Yqa.f k a0 1).bind fun aBO => (some aBO)
theorem Ygc.calls (k : Nat) (a0 : Int) (r : Y) (w : World) (hE : EnvOk w) (h : Ygc.f k a0 = some r) :
  Calls Tryz.prog 22 #[.int .i64 a0] w fun e w' => e = .returned (.string r) ∧ Below w.heap.size w w' := by
 have HE := Ya.mk hE
 clear hE
 have HB := Ya.mk (Below.refl w.heap.size w)
 have H : ((Yqa.f k a0 1).bind fun aBO => (some aBO)) = some r := h
 clear h
 obtain ⟨aBO, dX, H⟩ := Kq H
 try dsimp -simprocs only at H
 have A2 := Ya.mk dX
 clear dX
 obtain rfl := Kr H
 go_enter Tryz.func22, Tryz.ntmps22
 go_wp2_with (first | ((with_reducible refine Yh (f := 39) rfl ?_); refine Yy (some 4) rfl rfl Tryz.func39 Zi rfl #[.int .i64 a0, .int .i64 1] rfl Zb ?_; (with_reducible refine (Yqa.calls k a0 1 aBO _ ?z1 A2.out).mono ?_); (case z1 => exact Kh); rintro e w3 ⟨rfl, hb⟩; refine ⟨_, rfl, ?_⟩; replace HB := Ya.mk (Ys Za hb); (try clear hb)))
 go_ret
 exact ⟨Zk, Za⟩
def Yva.j0 : Nat → Y → Y → Y → Int → Y → Y → Y → Bool → Bool → Option (Y)
 | 0, _, _, _, _, _, _, _, _, _ => none
 | k + 1, x3, aVN, aVO, aVP, hX, lU, jV, aDV, yT => if x3.size + hX.size ≤ 9223372036854775807 then (if aDV = true then (if 1 + lU.size ≤ 9223372036854775807 then (if (x3 ++ hX).size + ((⟨#[63]⟩ : Y) ++ lU).size ≤ 9223372036854775807 then (if yT = true then (if 1 + jV.size ≤ 9223372036854775807 then (if ((x3 ++ hX) ++ ((⟨#[63]⟩ : Y) ++ lU)).size + ((⟨#[35]⟩ : Y) ++ jV).size ≤ 9223372036854775807 then (some (((x3 ++ hX) ++ ((⟨#[63]⟩ : Y) ++ lU)) ++ ((⟨#[35]⟩ : Y) ++ jV))) else (none)) else (none)) else (some ((x3 ++ hX) ++ ((⟨#[63]⟩ : Y) ++ lU)))) else (none)) else (none)) else (if yT = true then (if 1 + jV.size ≤ 9223372036854775807 then (if (x3 ++ hX).size + ((⟨#[35]⟩ : Y) ++ jV).size ≤ 9223372036854775807 then (some ((x3 ++ hX) ++ ((⟨#[35]⟩ : Y) ++ jV))) else (none)) else (none)) else (some (x3 ++ hX)))) else (none)
def Yva.f (k : Nat) (aM aQ : Y) (aW : Int) (aR aV aX : Y) (bB bD : Bool) : Option (Y) := if aM.size + 3 ≤ 9223372036854775807 then (if (aM ++ (⟨#[58, 47, 47]⟩ : Y)).size + aQ.size ≤ 9223372036854775807 then (if aW = 0 then (Yva.j0 k ((aM ++ (⟨#[58, 47, 47]⟩ : Y)) ++ aQ) aM aQ aW aR aV aX bB bD) else ((Ygc.f k aW).bind fun kG => (if 1 + kG.size ≤ 9223372036854775807 then (if ((aM ++ (⟨#[58, 47, 47]⟩ : Y)) ++ aQ).size + ((⟨#[58]⟩ : Y) ++ kG).size ≤ 9223372036854775807 then (Yva.j0 k (((aM ++ (⟨#[58, 47, 47]⟩ : Y)) ++ aQ) ++ ((⟨#[58]⟩ : Y) ++ kG)) aM aQ aW aR aV aX bB bD) else (none)) else (none)))) else (none)) else (none)
theorem Yva.calls (k : Nat) (aM aQ : Y) (aW : Int) (aR aV aX : Y) (bB bD : Bool) (r : Y) (w : World) (hE : EnvOk w) (h : Yva.f k aM aQ aW aR aV aX bB bD = some r) :
  Calls Tryz.prog 38 #[.agg #[.string aM, .string aQ, .int .i64 aW, .string aR, .string aV, .string aX, .bool bB, .bool bD]] w fun e w' => e = .returned (.string r) ∧ Below w.heap.size w w' := by
 have cV := Tryz.underlying46
 have HE := Ya.mk hE
 clear hE
 have HB := Ya.mk (Below.refl w.heap.size w)
 have H : (if aM.size + 3 ≤ 9223372036854775807 then (if (aM ++ (⟨#[58, 47, 47]⟩ : Y)).size + aQ.size ≤ 9223372036854775807 then (if aW = 0 then (Yva.j0 k ((aM ++ (⟨#[58, 47, 47]⟩ : Y)) ++ aQ) aM aQ aW aR aV aX bB bD) else ((Ygc.f k aW).bind fun kG => (if 1 + kG.size ≤ 9223372036854775807 then (if ((aM ++ (⟨#[58, 47, 47]⟩ : Y)) ++ aQ).size + ((⟨#[58]⟩ : Y) ++ kG).size ≤ 9223372036854775807 then (Yva.j0 k (((aM ++ (⟨#[58, 47, 47]⟩ : Y)) ++ aQ) ++ ((⟨#[58]⟩ : Y) ++ kG)) aM aQ aW aR aV aX bB bD) else (none)) else (none)))) else (none)) else (none)) = some r := h
 clear h
 by_cases c2 : aM.size + 3 ≤ 9223372036854775807
 rotate_left
 ·rw [if_neg c2] at H
  exact absurd H Zq
 rw [if_pos c2] at H
 have dS := Kp c2
 have lD : decide (aM.size + 3 ≤ 9223372036854775807) = true := Kn c2
 try have aFE : (9223372036854775807 < aM.size + 3) = False := eq_false (Nat.not_lt.2 c2)
 by_cases c3 : (aM ++ (⟨#[58, 47, 47]⟩ : Y)).size + aQ.size ≤ 9223372036854775807
 rotate_left
 ·rw [if_neg c3] at H
  exact absurd H Zq
 rw [if_pos c3] at H
 have bV := Kp c3
 have dY : decide ((aM ++ (⟨#[58, 47, 47]⟩ : Y)).size + aQ.size ≤ 9223372036854775807) = true := Kn c3
 try have zH : (9223372036854775807 < (aM ++ (⟨#[58, 47, 47]⟩ : Y)).size + aQ.size) = False := eq_false (Nat.not_lt.2 c3)
 have HC4 := Ya.mk H
 clear H
 go_enter Tryz.func38, Tryz.ntmps38
 go_upto_if 12 with (first | ((with_reducible refine Ybd (N := 1) rfl ?_); refine Ytd ?hg (N := 1) ?hd (cs := #[.string aM, .string aQ, .int .i64 aW, .string aR, .string aV, .string aX, .bool bB, .bool bD]) (t := 46) ?hr ?_; (case hd => rfl); (case hg => rfl); (case hr => first | (go_simp; done) | (go_simp; rfl)); intro bG hg w5 hbox hb; have aJ := Ya.mk (Ys Za hb); have aU := Ya.mk (hbox); have bE := Ya.mk ((by rw [hg]; exact (Yna Za) : w.heap.size ≤ bG)); have gS := Ya.mk ((by rw [hg]; exact (Yna Za) : w.heap.size ≤ bG)); clear HB; have HB := aJ; have aT := aU; have aZA := bE; have aHQ := gS; clear aJ aU bE gS; clear hb hbox hg; obtain ⟨uT, uU, uV, uW, uX, uY, uZ, vA, vB, vC, vD, vE, vF, vG, vH, vI⟩ := Ka aT.out))
 (try simp only [Act.put, Ky])
 go_cut [3] (fun v3 wc => ∃ (kq : Nat) (gM : Y), v3 = .string gM ∧ Ya (Yva.j0 kq gM aM aQ aW aR aV aX bB bD = some r) ∧ Ya (kq ≤ k) ∧ Ya (wc.heap[bG]? = some (.cells #[.string aM, .string aQ, .int .i64 aW, .string aR, .string aV, .string aX, .bool bB, .bool bD] 46 (0, 0))) ∧ Ya (Below w.heap.size w wc))
 case first =>
  have H := HC4.out
  clear HC4
  by_cases c7 : aW = 0
  ·rw [if_pos c7] at H
   have cM : (aW == 0) = true := Kx c7
   have gZ : (aW != 0) = false := Ku c7
   clear c7
   (first | rw [cM] | (simp only [Yha, Yka]; rw [cM]) | skip)
   have H' := Ya.mk H
   clear H
   go_wp2
   go_meet
   case rel => exact ⟨_, ((aM ++ (⟨#[58, 47, 47]⟩ : Y)) ++ aQ), Zf, H', ⟨Zka⟩, ⟨Zbb⟩, ⟨Zt⟩⟩
  rw [if_neg c7] at H
  have cM : (aW == 0) = false := Kv c7
  have gZ : (aW != 0) = true := Kw c7
  (first | rw [cM] | (simp only [Yha, Yka]; rw [cM]) | skip)
  obtain ⟨kG, xP, H⟩ := Kq H
  try dsimp -simprocs only at H
  have A8 := Ya.mk xP
  clear xP
  by_cases c9 : 1 + kG.size ≤ 9223372036854775807
  rotate_left
  ·rw [if_neg c9] at H
   exact absurd H Zq
  rw [if_pos c9] at H
  have gN := Kp c9
  have nX : decide (1 + kG.size ≤ 9223372036854775807) = true := Kn c9
  try have aBg : (9223372036854775807 < 1 + kG.size) = False := eq_false (Nat.not_lt.2 c9)
  by_cases dK : ((aM ++ (⟨#[58, 47, 47]⟩ : Y)) ++ aQ).size + ((⟨#[58]⟩ : Y) ++ kG).size ≤ 9223372036854775807
  rotate_left
  ·rw [if_neg dK] at H
   exact absurd H Zq
  rw [if_pos dK] at H
  have iJ := Kp dK
  have aAS : decide (((aM ++ (⟨#[58, 47, 47]⟩ : Y)) ++ aQ).size + ((⟨#[58]⟩ : Y) ++ kG).size ≤ 9223372036854775807) = true := Kn dK
  try have aMe : (9223372036854775807 < ((aM ++ (⟨#[58, 47, 47]⟩ : Y)) ++ aQ).size + ((⟨#[58]⟩ : Y) ++ kG).size) = False := eq_false (Nat.not_lt.2 dK)
  have H' := Ya.mk H
  clear H
  obtain ⟨xT, xU, xV, xW, xX, xY, xZ, yA, yB, yC, yD, yE, yF, yG, yH, yI⟩ := Ka aT.out
  go_wp2_with (first | ((with_reducible refine Yh (f := 22) rfl ?_); refine Yy (some 16) rfl rfl Tryz.func22 Zi rfl #[.int .i64 aW] rfl Zb ?_; (with_reducible refine (Ygc.calls k aW kG _ ?z1 A8.out).mono ?_); (case z1 => first | exact HE.out | exact EnvOk.below HE.out Zt); rintro e uA ⟨rfl, hb⟩; refine ⟨_, rfl, ?_⟩; replace aT := Ya.mk (Yue (g := bG) (o := .cells #[.string aM, .string aQ, .int .i64 aW, .string aR, .string aV, .string aX, .bool bB, .bool bD] 46 (0, 0)) Zbb hb); replace HB := Ya.mk (Ys Zt hb); (try clear hb)))
  go_meet
  case rel => exact ⟨_, (((aM ++ (⟨#[58, 47, 47]⟩ : Y)) ++ aQ) ++ ((⟨#[58]⟩ : Y) ++ kG)), Zf, H', ⟨Zka⟩, ⟨Zbb⟩, ⟨Zt⟩⟩
 case rest =>
  clear HC4
  try clear c2
  try clear dS
  try clear lD
  try clear aFE
  try clear c3
  try clear bV
  try clear dY
  try clear zH
  try clear uT
  try clear uU
  try clear uV
  try clear uW
  try clear uX
  try clear uY
  try clear uZ
  try clear vA
  try clear vB
  try clear vC
  try clear vD
  try clear vE
  try clear vF
  try clear vG
  try clear vH
  try clear vI
  obtain ⟨kq, gM, rfl, HA, HJ3, aT, HB⟩ := hcut
  cases kq with
  | zero => exact absurd HA.out (by simp [Yva.j0])
  | succ kj3 =>
   have H := HA.out
   clear HA
   simp only [Yva.j0] at H
   by_cases cI : gM.size + aR.size ≤ 9223372036854775807
   rotate_left
   ·rw [if_neg cI] at H
    exact absurd H Zq
   rw [if_pos cI] at H
   have hJ := Kp cI
   have aEO : decide (gM.size + aR.size ≤ 9223372036854775807) = true := Kn cI
   try have aZB : (9223372036854775807 < gM.size + aR.size) = False := eq_false (Nat.not_lt.2 cI)
   by_cases cD : bB = true
   rotate_left
   ·replace cD := Kt cD
    subst cD
    rw [if_neg (show ¬ (false = true) by decide)] at H
    by_cases jU : bD = true
    rotate_left
    ·replace jU := Kt jU
     subst jU
     rw [if_neg (show ¬ (false = true) by decide)] at H
     obtain rfl := Kr H
     obtain ⟨aVQ, aVR, aVS, aVT, aVU, aVV, aVW, aVX, aVY, aVZ, aWa, aWb, aWc, aWd, aWe, aWf⟩ := Ka aT.out
     go_wp2
     go_ret
     exact ⟨Zk, Zt⟩
    subst jU
    rw [if_pos rfl] at H
    by_cases kF : 1 + aX.size ≤ 9223372036854775807
    rotate_left
    ·rw [if_neg kF] at H
     exact absurd H Zq
    rw [if_pos kF] at H
    have oM := Kp kF
    have oN : decide (1 + aX.size ≤ 9223372036854775807) = true := Kn kF
    try have aLJ : (9223372036854775807 < 1 + aX.size) = False := eq_false (Nat.not_lt.2 kF)
    by_cases kX : (gM ++ aR).size + ((⟨#[35]⟩ : Y) ++ aX).size ≤ 9223372036854775807
    rotate_left
    ·rw [if_neg kX] at H
     exact absurd H Zq
    rw [if_pos kX] at H
    have pP := Kp kX
    have pQ : decide ((gM ++ aR).size + ((⟨#[35]⟩ : Y) ++ aX).size ≤ 9223372036854775807) = true := Kn kX
    try have aZC : (9223372036854775807 < (gM ++ aR).size + ((⟨#[35]⟩ : Y) ++ aX).size) = False := eq_false (Nat.not_lt.2 kX)
    obtain rfl := Kr H
    obtain ⟨aDu, aDv, aDw, aDx, aDy, aDz, aDA, aDB, aDC, aDD, aDE, aDF, aDG, aDH, aDI, aDJ⟩ := Ka aT.out
    go_wp2
    go_ret
    exact ⟨Zk, Zt⟩
   subst cD
   rw [if_pos rfl] at H
   by_cases bN : 1 + aV.size ≤ 9223372036854775807
   rotate_left
   ·rw [if_neg bN] at H
    exact absurd H Zq
   rw [if_pos bN] at H
   have eA := Kp bN
   have pR : decide (1 + aV.size ≤ 9223372036854775807) = true := Kn bN
   try have aZD : (9223372036854775807 < 1 + aV.size) = False := eq_false (Nat.not_lt.2 bN)
   by_cases dF : (gM ++ aR).size + ((⟨#[63]⟩ : Y) ++ aV).size ≤ 9223372036854775807
   rotate_left
   ·rw [if_neg dF] at H
    exact absurd H Zq
   rw [if_pos dF] at H
   have gD := Kp dF
   have lP : decide ((gM ++ aR).size + ((⟨#[63]⟩ : Y) ++ aV).size ≤ 9223372036854775807) = true := Kn dF
   try have aZE : (9223372036854775807 < (gM ++ aR).size + ((⟨#[63]⟩ : Y) ++ aV).size) = False := eq_false (Nat.not_lt.2 dF)
   by_cases gG : bD = true
   rotate_left
   ·replace gG := Kt gG
    subst gG
    rw [if_neg (show ¬ (false = true) by decide)] at H
    obtain rfl := Kr H
    obtain ⟨aWg, aWh, aWi, aWj, aWk, aWl, aWm, aWn, aWo, aWp, aWq, aWr, aWs, aWt, aWu, aWv⟩ := Ka aT.out
    go_wp2
    go_ret
    exact ⟨Zk, Zt⟩
   subst gG
   rw [if_pos rfl] at H
   by_cases dR : 1 + aX.size ≤ 9223372036854775807
   rotate_left
   ·rw [if_neg dR] at H
    exact absurd H Zq
   rw [if_pos dR] at H
   have lA := Kp dR
   have mO : decide (1 + aX.size ≤ 9223372036854775807) = true := Kn dR
   try have aEL : (9223372036854775807 < 1 + aX.size) = False := eq_false (Nat.not_lt.2 dR)
   by_cases kE : ((gM ++ aR) ++ ((⟨#[63]⟩ : Y) ++ aV)).size + ((⟨#[35]⟩ : Y) ++ aX).size ≤ 9223372036854775807
   rotate_left
   ·rw [if_neg kE] at H
    exact absurd H Zq
   rw [if_pos kE] at H
   have oJ := Kp kE
   have pN : decide (((gM ++ aR) ++ ((⟨#[63]⟩ : Y) ++ aV)).size + ((⟨#[35]⟩ : Y) ++ aX).size ≤ 9223372036854775807) = true := Kn kE
   try have aKd : (9223372036854775807 < ((gM ++ aR) ++ ((⟨#[63]⟩ : Y) ++ aV)).size + ((⟨#[35]⟩ : Y) ++ aX).size) = False := eq_false (Nat.not_lt.2 kE)
   obtain rfl := Kr H
   obtain ⟨aDe, aDf, aDg, aDh, aDi, aDj, aDk, aDl, aDm, aDn, aDo, aDp, aDq, aDr, aDs, aDt⟩ := Ka aT.out
   go_wp2
   go_ret
   exact ⟨Zk, Zt⟩
def Yea.j0 : Nat → Int → Bool → Option (Int)
 | 0, _, _ => none
 | k + 1, x0, x9 => if x9 = true then (some (((x0 - 97) % 256) + 10)) else (if x0 ≥ 65 then (if x0 ≤ 70 then (some (((x0 - 65) % 256) + 10)) else (some 16)) else (some 16))
def Yea.f (k : Nat) (a0 : Int) : Option (Int) := (Yt.f a0).bind fun aBP => (if aBP = true then (some ((a0 - 48) % 256)) else (if a0 ≥ 97 then (Yea.j0 k a0 (decide (a0 ≤ 102))) else (Yea.j0 k a0 false)))
theorem Yea.mono_l : ∀ k, (∀ y0 y1, LeO (Yea.j0 k y0 y1) (Yea.j0 (k + 1) y0 y1))
 | 0 => fun _ _ r h => by simp [Yea.j0] at h
 | k + 1 => by
  have rZ := Yea.mono_l k
  ·intro y0 y1
   unfold Yea.j0
   repeat' first
   | (with_reducible exact rZ _ _)
   | (with_reducible exact LeO.refl _)
   | (with_reducible exact LeO.none _)
   | (with_reducible refine LeO.ite ?_ ?_)
   | (with_reducible refine LeO.bind ?_ (fun _ => ?_))
   | exact rZ _ _
   | exact LeO.none _
   | refine LeO.ite ?_ ?_
   | refine LeO.bind ?_ (fun _ => ?_)
theorem Yea.mono : ∀ a0 k, LeO (Yea.f k a0) (Yea.f (k + 1) a0) := by
 intro a0 k
 have rZ := Yea.mono_l k
 unfold Yea.f
 repeat' first
   | (with_reducible exact rZ _ _)
   | (with_reducible exact LeO.refl _)
   | (with_reducible exact LeO.none _)
   | (with_reducible refine LeO.ite ?_ ?_)
   | (with_reducible refine LeO.bind ?_ (fun _ => ?_))
   | exact rZ _ _
   | exact LeO.none _
   | refine LeO.ite ?_ ?_
   | refine LeO.bind ?_ (fun _ => ?_)
theorem Yea.calls (k : Nat) (a0 r : Int) (w : World) (hE : EnvOk w) (h : Yea.f k a0 = some r) :
  Calls Tryz.prog 132 #[.int .u8 a0] w fun e w' => e = .returned (.int .u32 r) ∧ Drawn0 w w' := by
 have HE := Ya.mk hE
 clear hE
 have H : ((Yt.f a0).bind fun aBP => (if aBP = true then (some ((a0 - 48) % 256)) else (if a0 ≥ 97 then (Yea.j0 k a0 (decide (a0 ≤ 102))) else (Yea.j0 k a0 false)))) = some r := h
 clear h
 obtain ⟨aBP, dX, H⟩ := Kq H
 try dsimp -simprocs only at H
 have A2 := Ya.mk dX
 clear dX
 by_cases c3 : aBP = true
 ·subst c3
  rw [if_pos rfl] at H
  obtain rfl := Kr H
  go_enter Tryz.func132, Tryz.ntmps132
  go_wp2_with (first | ((with_reducible refine Yh (f := 56) rfl ?_); refine Yy (some 5) rfl rfl Tryz.func56 Zi rfl #[.int .u8 a0] rfl Zb ?_; (with_reducible refine (Yt.calls a0 true _ ?z1 A2.out).mono ?_); (case z1 => exact Kg); rintro e w' ⟨rfl, ⟨nd, rfl⟩⟩; refine ⟨_, rfl, ?_⟩))
  go_ret
  exact ⟨Zf, Zh⟩
 replace c3 := Kt c3
 subst c3
 rw [if_neg (show ¬ (false = true) by decide)] at H
 have HC4 := Ya.mk H
 clear H
 go_enter Tryz.func132, Tryz.ntmps132
 go_upto_region 3 with (first | ((with_reducible refine Yh (f := 56) rfl ?_); refine Yy (some 5) rfl rfl Tryz.func56 Zi rfl #[.int .u8 a0] rfl Zb ?_; (with_reducible refine (Yt.calls a0 false _ ?z1 A2.out).mono ?_); (case z1 => exact Kg); rintro e w' ⟨rfl, ⟨nd, rfl⟩⟩; refine ⟨_, rfl, ?_⟩))
 (try simp only [Act.put, Ky])
 go_cut [9] (fun v9 wc => ∃ (kq : Nat) (aDW : Bool), v9 = .bool aDW ∧ Ya (Yea.j0 kq a0 aDW = some r) ∧ Ya (kq ≤ k) ∧ Drawn0 w wc)
 case first =>
  have H := HC4.out
  clear HC4
  by_cases c5 : a0 ≥ 97
  rotate_left
  ·rw [if_neg c5] at H
   have dG : decide (97 ≤ a0) = false := Ko c5
   clear c5
   (first | rw [dG] | (simp only [Yha, Yka]; rw [dG]) | skip)
   have H' := Ya.mk H
   clear H
   go_wp2
   go_meet
   case rel => exact ⟨_, (false), Zf, H', ⟨Zka⟩, Zh⟩
  rw [if_pos c5] at H
  have dG : decide (97 ≤ a0) = true := Kn c5
  clear c5
  (first | rw [dG] | (simp only [Yha, Yka]; rw [dG]) | skip)
  have H' := Ya.mk H
  clear H
  go_wp2
  go_meet
  case rel => exact ⟨_, (decide (a0 ≤ 102)), Zf, H', ⟨Zka⟩, Zh⟩
 case rest =>
  clear HC4
  try clear c3
  obtain ⟨kq, aDW, rfl, HA, HJ3, ⟨mc3, rfl⟩⟩ := hcut
  cases kq with
  | zero => exact absurd HA.out (by simp [Yea.j0])
  | succ kj3 =>
   have H := HA.out
   clear HA
   simp only [Yea.j0] at H
   by_cases c6 : aDW = true
   ·subst c6
    rw [if_pos rfl] at H
    obtain rfl := Kr H
    go_wp2
    go_ret
    exact ⟨Zf, Zh⟩
   replace c6 := Kt c6
   subst c6
   rw [if_neg (show ¬ (false = true) by decide)] at H
   by_cases c7 : a0 ≥ 65
   rotate_left
   ·rw [if_neg c7] at H
    have cM : decide (65 ≤ a0) = false := Ko c7
    clear c7
    obtain rfl := Kr H
    go_wp2
    go_ret
    exact ⟨Zf, Zh⟩
   rw [if_pos c7] at H
   have cM : decide (65 ≤ a0) = true := Kn c7
   clear c7
   by_cases c8 : a0 ≤ 70
   ·rw [if_pos c8] at H
    have fS : decide (a0 ≤ 70) = true := Kn c8
    clear c8
    obtain rfl := Kr H
    go_wp2
    go_ret
    exact ⟨Zf, Zh⟩
   rw [if_neg c8] at H
   have fS : decide (a0 ≤ 70) = false := Ko c8
   clear c8
   obtain rfl := Kr H
   go_wp2
   go_ret
   exact ⟨Zf, Zh⟩
def Yw.f (k : Nat) (a0 : Int) : Option (Int) := (Yea.f k a0).bind fun aBQ => (some aBQ)
theorem Yw.mono : ∀ a0 k, LeO (Yw.f k a0) (Yw.f (k + 1) a0) := by
 intro a0 k
 unfold Yw.f
 repeat' first
   | (with_reducible exact Yea.mono _ _)
   | (with_reducible exact LeO.refl _)
   | (with_reducible exact LeO.none _)
   | (with_reducible refine LeO.ite ?_ ?_)
   | (with_reducible refine LeO.bind ?_ (fun _ => ?_))
   | exact Yea.mono _ _
   | exact LeO.none _
   | refine LeO.ite ?_ ?_
   | refine LeO.bind ?_ (fun _ => ?_)
theorem Yw.calls (k : Nat) (a0 r : Int) (w : World) (hE : EnvOk w) (h : Yw.f k a0 = some r) :
  Calls Tryz.prog 113 #[.int .u8 a0] w fun e w' => e = .returned (.int .u32 r) ∧ Drawn0 w w' := by
 have HE := Ya.mk hE
 clear hE
 have H : ((Yea.f k a0).bind fun aBQ => (some aBQ)) = some r := h
 clear h
 obtain ⟨aBQ, dX, H⟩ := Kq H
 try dsimp -simprocs only at H
 have A2 := Ya.mk dX
 clear dX
 obtain rfl := Kr H
 go_enter Tryz.func113, Tryz.ntmps113
 go_wp2_with (first | ((with_reducible refine Yh (f := 132) rfl ?_); refine Yy (some 4) rfl rfl Tryz.func132 Zi rfl #[.int .u8 a0] rfl Zb ?_; (with_reducible refine (Yea.calls k a0 aBQ _ ?z1 A2.out).mono ?_); (case z1 => exact Kg); rintro e w' ⟨rfl, ⟨nd, rfl⟩⟩; refine ⟨_, rfl, ?_⟩))
 go_ret
 exact ⟨Zf, Zh⟩
end Go.Proofs.YtihaeeldgimdiaaGreatDoor.X
