import Derived.Test.YtihaeeldgimdiaaGreatDoorIUH1c
set_option linter.all false
namespace Go.Proofs.YtihaeeldgimdiaaGreatDoor.X
open Go.RowKit Go.Yw.PrintWords Go.Yw.PrintLast Go.Yw.PrintMore
attribute [local go_sem] Yxd Yvd Yze Yye Ymd Yld Yyd Ywd
set_option maxHeartbeats 8000000
set_option maxRecDepth 100000
mutual
def Yq.j0 : Nat → Y → Y → Bool → Y → Y → Y → Int → Y → Y → Y → Bool → Bool → Option (Int × Y × Y × Y × Int × Y × Y × Y × Bool × Bool)
 | 0, _, _, _, _, _, _, _, _, _, _, _, _ => none
 | k + 1, x3, x4, x29, oA, oB, kJ, kK, kL, kM, kN, kO, kP => if x29 = true then (some (3, oA, oB, kJ, kK, kL, kM, kN, kO, kP)) else (Yq.l0 k x3 x4 (x3.size : Int) 0 oA oB kJ kK kL kM kN kO kP)
def Yq.l0 : Nat → Y → Y → Int → Int → Y → Y → Y → Int → Y → Y → Y → Bool → Bool → Option (Int × Y × Y × Y × Int × Y × Y × Y × Bool × Bool)
 | 0, _, _, _, _, _, _, _, _, _, _, _, _, _ => none
 | k + 1, x3, x4, x31, x32, oA, oB, kJ, kK, kL, kM, kN, kO, kP => if x32 < x31 then (if 0 ≤ x32 then (if x32 < (x3.size : Int) then ((Yib.f (bt x3 x32)).bind fun aFG => (if aFG = true then (Yq.l0 k x3 x4 x31 (wrap64 (x32 + 1)) oA oB kJ kK kL kM kN kO kP) else ((Ysa.f (bt x3 x32)).bind fun aFH => (if aFH = true then (Yq.l0 k x3 x4 x31 (wrap64 (x32 + 1)) oA oB kJ kK kL kM kN kO kP) else ((strings_IndexByte.f (⟨#[43, 45, 46]⟩ : Y) (bt x3 x32)).bind fun vK => (if vK < 0 then (some (3, oA, oB, kJ, kK, kL, kM, kN, kO, kP)) else (Yq.l0 k x3 x4 x31 (wrap64 (x32 + 1)) oA oB kJ kK kL kM kN kO kP))))))) else (none)) else (none)) else ((Ycc.f x3).bind fun jB => (if jB.toList = ([104, 116, 116, 112] : List UInt8) then (some (0, x4, jB, kJ, kK, kL, kM, kN, kO, kP)) else (if jB.toList = ([104, 116, 116, 112, 115] : List UInt8) then (some (0, x4, jB, kJ, kK, kL, kM, kN, kO, kP)) else (some (16, x4, jB, kJ, kK, kL, kM, kN, kO, kP)))))
end
def Yq.f (k : Nat) (cL fT fU : Y) (fV : Int) (fW fX fY : Y) (fZ gA : Bool) : Option (Int × Y × Y × Y × Int × Y × Y × Y × Bool × Bool) := (strings_Cut.f cL (⟨#[58]⟩ : Y)).bind fun dU => (if dU.2.2 = true then (if dU.1.toList = ([] : List UInt8) then (Yq.j0 k dU.1 dU.2.1 true cL fT fU fV fW fX fY fZ gA) else (if 0 < (dU.1.size : Int) then ((Yib.f (bt dU.1 0)).bind fun zI => (Yq.j0 k dU.1 dU.2.1 (!zI) cL fT fU fV fW fX fY fZ gA)) else (none))) else (Yq.j0 k dU.1 dU.2.1 true cL fT fU fV fW fX fY fZ gA))
theorem Yq.calls (k g : Nat) (cL fT fU : Y) (fV : Int) (fW fX fY : Y) (fZ gA : Bool) (r1 : Int) (r2 r3 r4 : Y) (r5 : Int) (r6 r7 r8 : Y) (r9 lX : Bool) (w0 w : World) (hE : EnvOk w0) (hI : IsS75 w0 w g cL fT fU fV fW fX fY fZ gA) (hB : Below w0.heap.size w0 w) (h : Yq.f k cL fT fU fV fW fX fY fZ gA = some (r1, r2, r3, r4, r5, r6, r7, r8, r9, lX)) :
  Calls Tryz.prog 45 #[.pointer (some ⟨g, 0, none⟩)] w fun e w' => e = .returned (.int .i64 r1) ∧ IsS75 w0 w' g r2 r3 r4 r5 r6 r7 r8 r9 lX ∧ Below w0.heap.size w0 w' ∧ KeepBut w w' g none := by
 have bY := Ya.mk hI
 have HK := Ya.mk (KeepBut.refl w g none)
 have HL := Ya.mk hB.size
 clear hI
 have HE := Ya.mk hE
 clear hE
 have HW0 := Ya.mk hB.size
 have HB := Ya.mk hB
 clear hB
 have H : ((strings_Cut.f cL (⟨#[58]⟩ : Y)).bind fun dU => (if dU.2.2 = true then (if dU.1.toList = ([] : List UInt8) then (Yq.j0 k dU.1 dU.2.1 true cL fT fU fV fW fX fY fZ gA) else (if 0 < (dU.1.size : Int) then ((Yib.f (bt dU.1 0)).bind fun zI => (Yq.j0 k dU.1 dU.2.1 (!zI) cL fT fU fV fW fX fY fZ gA)) else (none))) else (Yq.j0 k dU.1 dU.2.1 true cL fT fU fV fW fX fY fZ gA))) = some (r1, r2, r3, r4, r5, r6, r7, r8, r9, lX) := h
 clear h
 obtain ⟨⟨cN, aFI, aJm⟩, dX, H⟩ := Kq H
 try dsimp -simprocs only at H
 have A2 := Ya.mk dX
 clear dX
 have uQ := Ya.mk H
 clear H
 obtain ⟨jC, aWS⟩ := bY.out
 have vL := Ysb jC
 have vM := Ydc jC
 have vN := Yhc jC
 have vO := Yec jC
 have vP := Yzb jC
 have vQ := Yac jC
 have vR := Yvb jC
 have vS := Ybc jC
 have aBj := Yub jC
 obtain ⟨vT, vU, vV, vW, vX, vY, vZ, wA⟩ := Ke jC
 have aBk := Ye jC 8
 clear jC aWS
 go_enter Tryz.func45, Tryz.ntmps45
 go_upto_region 2 with (first | ((with_reducible refine Yh (f := 24) rfl ?_); refine Yy (some 14) rfl rfl Tryz.func24 Zi rfl #[.string cL, .string (⟨#[58]⟩ : Y)] rfl Zb ?_; (with_reducible refine (strings_Cut.calls cL (⟨#[58]⟩ : Y) cN aFI aJm _ ?z1 A2.out).mono ?_); (case z1 => exact Kj); rintro e w' ⟨rfl, ⟨nd, rfl⟩⟩; refine ⟨_, rfl, ?_⟩))
 (try simp only [Act.put, Ky])
 go_cut [29] (fun v29 wc => ∃ (kq : Nat) (yJ : Bool), v29 = .bool yJ ∧ Ya (Yq.j0 kq cN aFI yJ cL fT fU fV fW fX fY fZ gA = some (r1, r2, r3, r4, r5, r6, r7, r8, r9, lX)) ∧ Ya (kq ≤ k) ∧ Ya (IsS75 w0 wc g cL fT fU fV fW fX fY fZ gA) ∧ Ya (KeepBut w wc g none) ∧ Ya (Below w0.heap.size w0 wc))
 case first =>
  have H := uQ.out
  clear uQ
  by_cases c5 : aJm = true
  rotate_left
  ·replace c5 := Kt c5
   subst c5
   rw [if_neg (show ¬ (false = true) by decide)] at H
   have H' := Ya.mk H
   clear H
   go_wp2
   go_meet
   case rel => exact ⟨_, (true), Zf, H', ⟨Zka⟩, ⟨Zd⟩, ⟨Zg⟩, ⟨Ze⟩⟩
  subst c5
  rw [if_pos rfl] at H
  by_cases c6 : cN.toList = ([] : List UInt8)
  ·rw [if_pos c6] at H
   have dN : (cN.toList == ([] : List UInt8)) = true := Kx c6
   have lF : (cN.toList != ([] : List UInt8)) = false := Ku c6
   clear c6
   (first | rw [dN] | (simp only [Yha, Yka]; rw [dN]) | skip)
   have H' := Ya.mk H
   clear H
   go_wp2
   go_meet
   case rel => exact ⟨_, (true), Zf, H', ⟨Zka⟩, ⟨Zd⟩, ⟨Zg⟩, ⟨Ze⟩⟩
  rw [if_neg c6] at H
  have dN : (cN.toList == ([] : List UInt8)) = false := Kv c6
  have lF : (cN.toList != ([] : List UInt8)) = true := Kw c6
  (first | rw [dN] | (simp only [Yha, Yka]; rw [dN]) | skip)
  by_cases c7 : 0 < (cN.size : Int)
  rotate_left
  ·rw [if_neg c7] at H
   exact absurd H Zq
  rw [if_pos c7] at H
  have cM : decide (0 < (cN.size : Int)) = true := Kn c7
  have gZ : decide (0 < cN.size) = true := Kn Zj
  clear c7
  obtain ⟨zI, A90, H⟩ := Kq H
  try dsimp -simprocs only at H
  have A9 := Ya.mk A90
  clear A90
  have H' := Ya.mk H
  clear H
  have p8 : 0 ≤ (0 : Int) := Zj
  have q8 : 0 < cN.size := (by have : (0 : Int) < (cN.size : Int) := Km Zc; omega)
  have hx8 : ∀ h : 0 < cN.size, ((cN[0]'h).toNat : Int) = bt cN 0 := Ypa cN 0
  clear p8
  have qi8 : (0 < (cN.size : Int)) = True := Kp (Km Zc)
  replace q8 := Kp q8
  go_wp2_with (first | (go_at_call 68; (with_reducible refine (Yib.calls (bt cN 0) zI _ ?z1 A9.out).mono ?_); (case z1 => exact Kj); rintro e w' ⟨rfl, ⟨nd, rfl⟩⟩))
  go_meet
  case rel => exact ⟨_, (!zI), Zf, H', ⟨Zka⟩, ⟨Zd⟩, ⟨Zg⟩, ⟨Ze⟩⟩
 case rest =>
  clear uQ
  try clear vL
  try clear vM
  try clear vN
  try clear vO
  try clear vP
  try clear vQ
  try clear vR
  try clear vS
  try clear aBj
  try clear vT
  try clear vU
  try clear vV
  try clear vW
  try clear vX
  try clear vY
  try clear vZ
  try clear wA
  try clear aBk
  obtain ⟨kq, yJ, rfl, HA, tW, bY, HK, HB⟩ := hcut
  cases kq with
  | zero => exact absurd HA.out (by simp [Yq.j0])
  | succ pH =>
   have H := HA.out
   clear HA
   simp only [Yq.j0] at H
   by_cases dK : yJ = true
   ·subst dK
    rw [if_pos rfl] at H
    simp only [Kz, Kaa] at H
    obtain ⟨rfl, rfl, rfl, rfl, rfl, rfl, rfl, rfl, rfl, rfl⟩ := H
    go_wp2
    go_ret
    exact ⟨Zk, Zd, Ze, Zg⟩
   replace dK := Kt dK
   subst dK
   rw [if_neg (show ¬ (false = true) by decide)] at H
   have H' := Ya.mk H
   clear H
   go_wp2
   go_loopg [32] pH (fun kq v32 w' => ∃ (cE : Int), v32 = .int .i64 cE ∧ Ya (Yq.l0 kq cN aFI (cN.size : Int) cE cL fT fU fV fW fX fY fZ gA = some (r1, r2, r3, r4, r5, r6, r7, r8, r9, lX)) ∧ Ya (kq ≤ pH) ∧ Ya (IsS75 w0 w' g cL fT fU fV fW fX fY fZ gA) ∧ Ya (KeepBut w w' g none) ∧ Ya (Below w0.heap.size w0 w'))
   case atStart => exact ⟨(0), Zf, H', ⟨Ks _⟩, ⟨Zd⟩, ⟨Zg⟩, ⟨Ze⟩⟩
   case round =>
    clear H'
    try clear c1
    try clear c2
    try clear p2
    try clear c4
    try clear c5
    try clear c6
    try clear dN
    try clear lF
    try clear c7
    try clear cM
    try clear gZ
    try clear p8
    try clear q8
    try clear hx8
    try clear qi8
    try clear dK
    try clear vL
    try clear vM
    try clear vN
    try clear vO
    try clear vP
    try clear vQ
    try clear vR
    try clear vS
    try clear aBj
    try clear vT
    try clear vU
    try clear vV
    try clear vW
    try clear vX
    try clear vY
    try clear vZ
    try clear wA
    try clear aBk
    try clear p2
    try clear p8
    try clear q8
    obtain ⟨cE, rfl, HA, kU, bY, HK, HB⟩ := hrel
    cases gk with
    | zero => exact absurd HA.out (by simp [Yq.l0])
    | succ k2 =>
     have H := HA.out
     clear HA
     simp only [Yq.l0] at H
     by_cases bK : cE < (cN.size : Int)
     rotate_left
     ·rw [if_neg bK] at H
      have fM : decide (cE < (cN.size : Int)) = false := Ko bK
      clear bK
      obtain ⟨jB, aBl, H⟩ := Kq H
      try dsimp -simprocs only at H
      have A21 := Ya.mk aBl
      clear aBl
      by_cases jU : jB.toList = ([104, 116, 116, 112] : List UInt8)
      ·rw [if_pos jU] at H
       have pL : (jB.toList == ([104, 116, 116, 112] : List UInt8)) = true := Kx jU
       have sM : (jB.toList != ([104, 116, 116, 112] : List UInt8)) = false := Ku jU
       clear jU
       simp only [Kz, Kaa] at H
       obtain ⟨rfl, rfl, rfl, rfl, rfl, rfl, rfl, rfl, rfl, rfl⟩ := H
       go_wp2_with (first | ((with_reducible refine Yh (f := 70) rfl ?_); refine Yy (some 55) rfl rfl Tryz.func70 Zi rfl #[.string cN] rfl Zb ?_; (with_reducible refine (Ycc.calls cN jB _ ?z1 A21.out).mono ?_); (case z1 => exact Kj); rintro e oS ⟨rfl, hb⟩; refine ⟨_, rfl, ?_⟩; replace HK := Ya.mk (KeepBut.trans Zg (KeepBut.of_below hb g none) (.inl rfl)); replace HB := Ya.mk (Ys Ze hb); replace bY := Ya.mk (IsS75.below Zd hb); (try clear hb); obtain ⟨eH, aJn⟩ := bY.out; have aCO := Ysb eH; have aCP := Ydc eH; have aCQ := Yhc eH; have aCR := Yec eH; have aCS := Yzb eH; have aCT := Yac eH; have aCU := Yvb eH; have aCV := Ybc eH; have aNv := Yub eH; obtain ⟨aCW, aCX, aCY, aCZ, aDa, aDb, aDc, aDd⟩ := Ke eH; have aNw := Ye eH 8; clear eH aJn))
       go_ret
       exact ⟨Zk, Zd, Ze, Zg⟩
      rw [if_neg jU] at H
      have pL : (jB.toList == ([104, 116, 116, 112] : List UInt8)) = false := Kv jU
      have sM : (jB.toList != ([104, 116, 116, 112] : List UInt8)) = true := Kw jU
      by_cases pM : jB.toList = ([104, 116, 116, 112, 115] : List UInt8)
      rotate_left
      ·rw [if_neg pM] at H
       have sN : (jB.toList == ([104, 116, 116, 112, 115] : List UInt8)) = false := Kv pM
       have yK : (jB.toList != ([104, 116, 116, 112, 115] : List UInt8)) = true := Kw pM
       simp only [Kz, Kaa] at H
       obtain ⟨rfl, rfl, rfl, rfl, rfl, rfl, rfl, rfl, rfl, rfl⟩ := H
       go_wp2_with (first | ((with_reducible refine Yh (f := 70) rfl ?_); refine Yy (some 55) rfl rfl Tryz.func70 Zi rfl #[.string cN] rfl Zb ?_; (with_reducible refine (Ycc.calls cN jB _ ?z1 A21.out).mono ?_); (case z1 => exact Kj); rintro e w28 ⟨rfl, hb⟩; refine ⟨_, rfl, ?_⟩; replace HK := Ya.mk (KeepBut.trans Zg (KeepBut.of_below hb g none) (.inl rfl)); replace HB := Ya.mk (Ys Ze hb); replace bY := Ya.mk (IsS75.below Zd hb); (try clear hb); obtain ⟨eI, aJo⟩ := bY.out; have aNx := Ysb eI; have aNy := Ydc eI; have aNz := Yhc eI; have aNA := Yec eI; have aNB := Yzb eI; have aNC := Yac eI; have aND := Yvb eI; have aNE := Ybc eI; have aNF := Yub eI; obtain ⟨aNG, aNH, aNI, aNJ, aNK, aNL, aNM, aNN⟩ := Ke eI; have aNO := Ye eI 8; clear eI aJo))
       go_ret
       exact ⟨Zk, Zd, Ze, Zg⟩
      rw [if_pos pM] at H
      have sN : (jB.toList == ([104, 116, 116, 112, 115] : List UInt8)) = true := Kx pM
      have yK : (jB.toList != ([104, 116, 116, 112, 115] : List UInt8)) = false := Ku pM
      clear pM
      simp only [Kz, Kaa] at H
      obtain ⟨rfl, rfl, rfl, rfl, rfl, rfl, rfl, rfl, rfl, rfl⟩ := H
      go_wp2_with (first | ((with_reducible refine Yh (f := 70) rfl ?_); refine Yy (some 55) rfl rfl Tryz.func70 Zi rfl #[.string cN] rfl Zb ?_; (with_reducible refine (Ycc.calls cN jB _ ?z1 A21.out).mono ?_); (case z1 => exact Kj); rintro e w26 ⟨rfl, hb⟩; refine ⟨_, rfl, ?_⟩; replace HK := Ya.mk (KeepBut.trans Zg (KeepBut.of_below hb g none) (.inl rfl)); replace HB := Ya.mk (Ys Ze hb); replace bY := Ya.mk (IsS75.below Zd hb); (try clear hb); obtain ⟨eJ, aJp⟩ := bY.out; have aNP := Ysb eJ; have aNQ := Ydc eJ; have aNR := Yhc eJ; have aNS := Yec eJ; have aNT := Yzb eJ; have aNU := Yac eJ; have aNV := Yvb eJ; have aNW := Ybc eJ; have aNX := Yub eJ; obtain ⟨aNY, aNZ, aOa, aOb, aOc, aOd, aOe, aOf⟩ := Ke eJ; have aOg := Ye eJ 8; clear eJ aJp))
      go_ret
      exact ⟨Zk, Zd, Ze, Zg⟩
     rw [if_pos bK] at H
     have fM : decide (cE < (cN.size : Int)) = true := Kn bK
     clear bK
     by_cases bT : 0 ≤ cE
     rotate_left
     ·rw [if_neg bT] at H
      exact absurd H Zq
     rw [if_pos bT] at H
     have dZ : decide (0 ≤ cE) = true := Kn bT
     clear bT
     by_cases cI : cE < (cN.size : Int)
     rotate_left
     ·rw [if_neg cI] at H
      exact absurd H Zq
     rw [if_pos cI] at H
     have hJ : decide (cE < (cN.size : Int)) = true := Kn cI
     clear cI
     obtain ⟨aFG, aBm, H⟩ := Kq H
     try dsimp -simprocs only at H
     have dW := Ya.mk aBm
     clear aBm
     by_cases dF : aFG = true
     ·subst dF
      rw [if_pos rfl] at H
      have H' := Ya.mk H
      clear H
      have hU : (0 ≤ (cE : Int)) = True := Kl
      have fP : cE < (cN.size : Int) := Km Zc
      have mD := Ypa cN cE
      replace fP := Kp fP
      go_wp2_with (first | ((with_reducible refine Yh (f := 68) rfl ?_); refine Yy (some 39) rfl rfl Tryz.func68 Zi rfl #[.int .u8 (bt cN cE)] rfl Zb ?_; (with_reducible refine (Yib.calls (bt cN cE) true _ ?z1 dW.out).mono ?_); (case z1 => exact Kj); rintro e w' ⟨rfl, ⟨nd, rfl⟩⟩; refine ⟨_, rfl, ?_⟩))
      go_roundg k2
      case measure => have := tW.out; have := kU.out; omega
      case rel => exact ⟨(wrap64 (cE + 1)), Zf, H', ⟨Zhb⟩, ⟨Zd⟩, ⟨Zg⟩, ⟨Ze⟩⟩
     replace dF := Kt dF
     subst dF
     rw [if_neg (show ¬ (false = true) by decide)] at H
     obtain ⟨aFH, oC, H⟩ := Kq H
     try dsimp -simprocs only at H
     have zY := Ya.mk oC
     clear oC
     by_cases dR : aFH = true
     ·subst dR
      rw [if_pos rfl] at H
      have H' := Ya.mk H
      clear H
      have hU : (0 ≤ (cE : Int)) = True := Kl
      have fP : cE < (cN.size : Int) := Km Zc
      have mD := Ypa cN cE
      replace fP := Kp fP
      go_wp2_with (first | ((with_reducible refine Yh (f := 68) rfl ?_); refine Yy (some 39) rfl rfl Tryz.func68 Zi rfl #[.int .u8 (bt cN cE)] rfl Zb ?_; (with_reducible refine (Yib.calls (bt cN cE) false _ ?z1 dW.out).mono ?_); (case z1 => exact Kj); rintro e w' ⟨rfl, ⟨nd, rfl⟩⟩; refine ⟨_, rfl, ?_⟩) | (go_at_call 69; (with_reducible refine (Ysa.calls (bt cN cE) true _ ?z1 zY.out).mono ?_); (case z1 => exact Kj); rintro e w' ⟨rfl, ⟨nd, rfl⟩⟩))
      go_roundg k2
      case measure => have := tW.out; have := kU.out; omega
      case rel => exact ⟨(wrap64 (cE + 1)), Zf, H', ⟨Zhb⟩, ⟨Zd⟩, ⟨Zg⟩, ⟨Ze⟩⟩
     replace dR := Kt dR
     subst dR
     rw [if_neg (show ¬ (false = true) by decide)] at H
     obtain ⟨vK, aJq, H⟩ := Kq H
     try dsimp -simprocs only at H
     have A19 := Ya.mk aJq
     clear aJq
     by_cases jD : vK < 0
     ·rw [if_pos jD] at H
      have lG : decide (vK < 0) = true := Kn jD
      clear jD
      simp only [Kz, Kaa] at H
      obtain ⟨rfl, rfl, rfl, rfl, rfl, rfl, rfl, rfl, rfl, rfl⟩ := H
      have hU : (0 ≤ (cE : Int)) = True := Kl
      have fP : cE < (cN.size : Int) := Km Zc
      have mD := Ypa cN cE
      replace fP := Kp fP
      go_wp2_with (first | ((with_reducible refine Yh (f := 68) rfl ?_); refine Yy (some 39) rfl rfl Tryz.func68 Zi rfl #[.int .u8 (bt cN cE)] rfl Zb ?_; (with_reducible refine (Yib.calls (bt cN cE) false _ ?z1 dW.out).mono ?_); (case z1 => exact Kj); rintro e w' ⟨rfl, ⟨nd, rfl⟩⟩; refine ⟨_, rfl, ?_⟩) | (go_at_call 69; (with_reducible refine (Ysa.calls (bt cN cE) false _ ?z1 zY.out).mono ?_); (case z1 => exact Kj); rintro e w' ⟨rfl, ⟨nd, rfl⟩⟩) | (go_at_call 25; (with_reducible refine (strings_IndexByte.calls (⟨#[43, 45, 46]⟩ : Y) (bt cN cE) vK _ ?z1 A19.out).mono ?_); (case z1 => exact Kj); rintro e w' ⟨rfl, ⟨nd, rfl⟩⟩))
      go_ret
      exact ⟨Zk, Zd, Ze, Zg⟩
     rw [if_neg jD] at H
     have lG : decide (vK < 0) = false := Ko jD
     clear jD
     have H' := Ya.mk H
     clear H
     have hU : (0 ≤ (cE : Int)) = True := Kl
     have fP : cE < (cN.size : Int) := Km Zc
     have mD := Ypa cN cE
     replace fP := Kp fP
     go_wp2_with (first | ((with_reducible refine Yh (f := 68) rfl ?_); refine Yy (some 39) rfl rfl Tryz.func68 Zi rfl #[.int .u8 (bt cN cE)] rfl Zb ?_; (with_reducible refine (Yib.calls (bt cN cE) false _ ?z1 dW.out).mono ?_); (case z1 => exact Kj); rintro e w' ⟨rfl, ⟨nd, rfl⟩⟩; refine ⟨_, rfl, ?_⟩) | (go_at_call 69; (with_reducible refine (Ysa.calls (bt cN cE) false _ ?z1 zY.out).mono ?_); (case z1 => exact Kj); rintro e w' ⟨rfl, ⟨nd, rfl⟩⟩) | (go_at_call 25; (with_reducible refine (strings_IndexByte.calls (⟨#[43, 45, 46]⟩ : Y) (bt cN cE) vK _ ?z1 A19.out).mono ?_); (case z1 => exact Kj); rintro e w' ⟨rfl, ⟨nd, rfl⟩⟩))
     go_roundg k2
     case measure => have := tW.out; have := kU.out; omega
     case rel => exact ⟨(wrap64 (cE + 1)), Zf, H', ⟨Zhb⟩, ⟨Zd⟩, ⟨Zg⟩, ⟨Ze⟩⟩
def Yzd.f (k : Nat) (a0 : Y) : Option (Y × Int) := (Yhd.f a0).bind fun mF => ((Ycc.f mF).bind fun iK => (if iK.toList = ([] : List UInt8) then (some ((⟨#[]⟩ : Y), 4)) else ((Ydb.f k iK).bind fun aBn => (if aBn = true then (some (iK, 0)) else (some ((⟨#[]⟩ : Y), 17))))))
theorem Yzd.calls (k : Nat) (a0 r1 : Y) (r2 : Int) (w : World) (hE : EnvOk w) (h : Yzd.f k a0 = some (r1, r2)) :
  Calls Tryz.prog 74 #[.string a0] w fun e w' => e = .returned (.tuple #[.string r1, .int .i64 r2]) ∧ Below w.heap.size w w' := by
 have HE := Ya.mk hE
 clear hE
 have HB := Ya.mk (Below.refl w.heap.size w)
 have H : ((Yhd.f a0).bind fun mF => ((Ycc.f mF).bind fun iK => (if iK.toList = ([] : List UInt8) then (some ((⟨#[]⟩ : Y), 4)) else ((Ydb.f k iK).bind fun aBn => (if aBn = true then (some (iK, 0)) else (some ((⟨#[]⟩ : Y), 17))))))) = some (r1, r2) := h
 clear h
 obtain ⟨mF, dX, H⟩ := Kq H
 try dsimp -simprocs only at H
 have A2 := Ya.mk dX
 clear dX
 obtain ⟨iK, pF, H⟩ := Kq H
 try dsimp -simprocs only at H
 have A3 := Ya.mk pF
 clear pF
 by_cases c4 : iK.toList = ([] : List UInt8)
 ·rw [if_pos c4] at H
  have bM : (iK.toList == ([] : List UInt8)) = true := Kx c4
  have jZ : (iK.toList != ([] : List UInt8)) = false := Ku c4
  clear c4
  simp only [Kz, Kaa] at H
  obtain ⟨rfl, rfl⟩ := H
  go_enter Tryz.func74, Tryz.ntmps74
  go_wp2_with (first | ((with_reducible refine Yh (f := 104) rfl ?_); refine Yy (some 5) rfl rfl Tryz.func104 Zi rfl #[.string a0] rfl Zb ?_; (with_reducible refine (Yhd.calls a0 mF _ ?z1 A2.out).mono ?_); (case z1 => exact Kh); rintro e w5 ⟨rfl, hb⟩; refine ⟨_, rfl, ?_⟩; replace HB := Ya.mk (Ys Za hb); (try clear hb)) | ((with_reducible refine Yh (f := 70) rfl ?_); refine Yy (some 6) rfl rfl Tryz.func70 Zi rfl #[.string mF] rfl Zb ?_; (with_reducible refine (Ycc.calls mF iK _ ?z1 A3.out).mono ?_); (case z1 => exact Kh); rintro e w6 ⟨rfl, hb⟩; refine ⟨_, rfl, ?_⟩; replace HB := Ya.mk (Ys Za hb); (try clear hb)))
  go_ret2
  exact ⟨Zk, Za⟩
 rw [if_neg c4] at H
 have bM : (iK.toList == ([] : List UInt8)) = false := Kv c4
 have jZ : (iK.toList != ([] : List UInt8)) = true := Kw c4
 obtain ⟨aBn, pG, H⟩ := Kq H
 try dsimp -simprocs only at H
 have A7 := Ya.mk pG
 clear pG
 by_cases c8 : aBn = true
 ·subst c8
  rw [if_pos rfl] at H
  simp only [Kz, Kaa] at H
  obtain ⟨rfl, rfl⟩ := H
  go_enter Tryz.func74, Tryz.ntmps74
  go_wp2_with (first | ((with_reducible refine Yh (f := 104) rfl ?_); refine Yy (some 5) rfl rfl Tryz.func104 Zi rfl #[.string a0] rfl Zb ?_; (with_reducible refine (Yhd.calls a0 mF _ ?z1 A2.out).mono ?_); (case z1 => exact Kh); rintro e w9 ⟨rfl, hb⟩; refine ⟨_, rfl, ?_⟩; replace HB := Ya.mk (Ys Za hb); (try clear hb)) | ((with_reducible refine Yh (f := 70) rfl ?_); refine Yy (some 6) rfl rfl Tryz.func70 Zi rfl #[.string mF] rfl Zb ?_; (with_reducible refine (Ycc.calls mF iK _ ?z1 A3.out).mono ?_); (case z1 => exact Kh); rintro e qZ ⟨rfl, hb⟩; refine ⟨_, rfl, ?_⟩; replace HB := Ya.mk (Ys Za hb); (try clear hb)) | ((with_reducible refine Yh (f := 105) rfl ?_); refine Yy (some 12) rfl rfl Tryz.func105 Zi rfl #[.string iK] rfl Zb ?_; (with_reducible refine (Ydb.calls k iK true _ ?z1 A7.out).mono ?_); (case z1 => exact Kh); rintro e mV ⟨rfl, hb⟩; refine ⟨_, rfl, ?_⟩; replace HB := Ya.mk (Ys Za hb); (try clear hb)))
  go_ret2
  exact ⟨Zk, Za⟩
 replace c8 := Kt c8
 subst c8
 rw [if_neg (show ¬ (false = true) by decide)] at H
 simp only [Kz, Kaa] at H
 obtain ⟨rfl, rfl⟩ := H
 go_enter Tryz.func74, Tryz.ntmps74
 go_wp2_with (first | ((with_reducible refine Yh (f := 104) rfl ?_); refine Yy (some 5) rfl rfl Tryz.func104 Zi rfl #[.string a0] rfl Zb ?_; (with_reducible refine (Yhd.calls a0 mF _ ?z1 A2.out).mono ?_); (case z1 => exact Kh); rintro e uA ⟨rfl, hb⟩; refine ⟨_, rfl, ?_⟩; replace HB := Ya.mk (Ys Za hb); (try clear hb)) | ((with_reducible refine Yh (f := 70) rfl ?_); refine Yy (some 6) rfl rfl Tryz.func70 Zi rfl #[.string mF] rfl Zb ?_; (with_reducible refine (Ycc.calls mF iK _ ?z1 A3.out).mono ?_); (case z1 => exact Kh); rintro e mW ⟨rfl, hb⟩; refine ⟨_, rfl, ?_⟩; replace HB := Ya.mk (Ys Za hb); (try clear hb)) | ((with_reducible refine Yh (f := 105) rfl ?_); refine Yy (some 12) rfl rfl Tryz.func105 Zi rfl #[.string iK] rfl Zb ?_; (with_reducible refine (Ydb.calls k iK false _ ?z1 A7.out).mono ?_); (case z1 => exact Kh); rintro e w14 ⟨rfl, hb⟩; refine ⟨_, rfl, ?_⟩; replace HB := Ya.mk (Ys Za hb); (try clear hb)))
 go_ret2
 exact ⟨Zk, Za⟩
def Yre.f (k : Nat) (cL fT fU : Y) (fV : Int) (fW fX fY : Y) (fZ gA : Bool) : Option (Int × Y × Y × Y × Int × Y × Y × Y × Bool × Bool) := (strings_IndexAny.f cL (⟨#[47, 92]⟩ : Y)).bind fun kB => (if kB = 0 then ((Yfc.f cL (⟨#[47, 92]⟩ : Y)).bind fun kC => ((Yrb.f kC fT fU fV fW fX fY fZ gA (⟨#[47, 92, 63, 35]⟩ : Y)).bind fun aN => ((strings_IndexByte.f aN.1 64).bind fun mG => (if mG ≥ 0 then (some (3, aN.2.1, aN.2.2.1, aN.2.2.2.1, aN.2.2.2.2.1, aN.2.2.2.2.2.1, aN.2.2.2.2.2.2.1, aN.2.2.2.2.2.2.2.1, aN.2.2.2.2.2.2.2.2.1, aN.2.2.2.2.2.2.2.2.2)) else ((strings_Cut.f aN.1 (⟨#[58]⟩ : Y)).bind fun oD => ((Yzd.f k oD.1).bind fun iL => (if iL.2 = 0 then (if oD.2.1.toList = ([] : List UInt8) then (some (0, aN.2.1, aN.2.2.1, iL.1, aN.2.2.2.2.1, aN.2.2.2.2.2.1, aN.2.2.2.2.2.2.1, aN.2.2.2.2.2.2.2.1, aN.2.2.2.2.2.2.2.2.1, aN.2.2.2.2.2.2.2.2.2)) else ((Yaa.f k oD.2.1 65535).bind fun oE => (if oE.2 = 0 then ((Ymf.f aN.2.2.1).bind fun oF => (if oE.1 = oF then (some (0, aN.2.1, aN.2.2.1, iL.1, aN.2.2.2.2.1, aN.2.2.2.2.2.1, aN.2.2.2.2.2.2.1, aN.2.2.2.2.2.2.2.1, aN.2.2.2.2.2.2.2.2.1, aN.2.2.2.2.2.2.2.2.2)) else (some (0, aN.2.1, aN.2.2.1, iL.1, oE.1, aN.2.2.2.2.2.1, aN.2.2.2.2.2.2.1, aN.2.2.2.2.2.2.2.1, aN.2.2.2.2.2.2.2.2.1, aN.2.2.2.2.2.2.2.2.2)))) else (some (3, aN.2.1, aN.2.2.1, iL.1, aN.2.2.2.2.1, aN.2.2.2.2.2.1, aN.2.2.2.2.2.2.1, aN.2.2.2.2.2.2.2.1, aN.2.2.2.2.2.2.2.2.1, aN.2.2.2.2.2.2.2.2.2))))) else (some (iL.2, aN.2.1, aN.2.2.1, aN.2.2.2.1, aN.2.2.2.2.1, aN.2.2.2.2.2.1, aN.2.2.2.2.2.2.1, aN.2.2.2.2.2.2.2.1, aN.2.2.2.2.2.2.2.2.1, aN.2.2.2.2.2.2.2.2.2))))))))) else (some (3, cL, fT, fU, fV, fW, fX, fY, fZ, gA)))
theorem Yre.calls (k g : Nat) (cL fT fU : Y) (fV : Int) (fW fX fY : Y) (fZ gA : Bool) (r1 : Int) (r2 r3 r4 : Y) (r5 : Int) (r6 r7 r8 : Y) (r9 lX : Bool) (w0 w : World) (hE : EnvOk w0) (hI : IsS75 w0 w g cL fT fU fV fW fX fY fZ gA) (hB : Below w0.heap.size w0 w) (h : Yre.f k cL fT fU fV fW fX fY fZ gA = some (r1, r2, r3, r4, r5, r6, r7, r8, r9, lX)) :
  Calls Tryz.prog 46 #[.pointer (some ⟨g, 0, none⟩)] w fun e w' => e = .returned (.int .i64 r1) ∧ IsS75 w0 w' g r2 r3 r4 r5 r6 r7 r8 r9 lX ∧ Below w0.heap.size w0 w' ∧ KeepBut w w' g none := by
 have bY := Ya.mk hI
 have HK := Ya.mk (KeepBut.refl w g none)
 have HL := Ya.mk hB.size
 clear hI
 have HE := Ya.mk hE
 clear hE
 have HW0 := Ya.mk hB.size
 have HB := Ya.mk hB
 clear hB
 have H : ((strings_IndexAny.f cL (⟨#[47, 92]⟩ : Y)).bind fun kB => (if kB = 0 then ((Yfc.f cL (⟨#[47, 92]⟩ : Y)).bind fun kC => ((Yrb.f kC fT fU fV fW fX fY fZ gA (⟨#[47, 92, 63, 35]⟩ : Y)).bind fun aN => ((strings_IndexByte.f aN.1 64).bind fun mG => (if mG ≥ 0 then (some (3, aN.2.1, aN.2.2.1, aN.2.2.2.1, aN.2.2.2.2.1, aN.2.2.2.2.2.1, aN.2.2.2.2.2.2.1, aN.2.2.2.2.2.2.2.1, aN.2.2.2.2.2.2.2.2.1, aN.2.2.2.2.2.2.2.2.2)) else ((strings_Cut.f aN.1 (⟨#[58]⟩ : Y)).bind fun oD => ((Yzd.f k oD.1).bind fun iL => (if iL.2 = 0 then (if oD.2.1.toList = ([] : List UInt8) then (some (0, aN.2.1, aN.2.2.1, iL.1, aN.2.2.2.2.1, aN.2.2.2.2.2.1, aN.2.2.2.2.2.2.1, aN.2.2.2.2.2.2.2.1, aN.2.2.2.2.2.2.2.2.1, aN.2.2.2.2.2.2.2.2.2)) else ((Yaa.f k oD.2.1 65535).bind fun oE => (if oE.2 = 0 then ((Ymf.f aN.2.2.1).bind fun oF => (if oE.1 = oF then (some (0, aN.2.1, aN.2.2.1, iL.1, aN.2.2.2.2.1, aN.2.2.2.2.2.1, aN.2.2.2.2.2.2.1, aN.2.2.2.2.2.2.2.1, aN.2.2.2.2.2.2.2.2.1, aN.2.2.2.2.2.2.2.2.2)) else (some (0, aN.2.1, aN.2.2.1, iL.1, oE.1, aN.2.2.2.2.2.1, aN.2.2.2.2.2.2.1, aN.2.2.2.2.2.2.2.1, aN.2.2.2.2.2.2.2.2.1, aN.2.2.2.2.2.2.2.2.2)))) else (some (3, aN.2.1, aN.2.2.1, iL.1, aN.2.2.2.2.1, aN.2.2.2.2.2.1, aN.2.2.2.2.2.2.1, aN.2.2.2.2.2.2.2.1, aN.2.2.2.2.2.2.2.2.1, aN.2.2.2.2.2.2.2.2.2))))) else (some (iL.2, aN.2.1, aN.2.2.1, aN.2.2.2.1, aN.2.2.2.2.1, aN.2.2.2.2.2.1, aN.2.2.2.2.2.2.1, aN.2.2.2.2.2.2.2.1, aN.2.2.2.2.2.2.2.2.1, aN.2.2.2.2.2.2.2.2.2))))))))) else (some (3, cL, fT, fU, fV, fW, fX, fY, fZ, gA)))) = some (r1, r2, r3, r4, r5, r6, r7, r8, r9, lX) := h
 clear h
 obtain ⟨kB, dX, H⟩ := Kq H
 try dsimp -simprocs only at H
 have A2 := Ya.mk dX
 clear dX
 by_cases c3 : kB = 0
 rotate_left
 ·rw [if_neg c3] at H
  have bV : (kB == 0) = false := Kv c3
  have dY : (kB != 0) = true := Kw c3
  simp only [Kz, Kaa] at H
  obtain ⟨rfl, rfl, rfl, rfl, rfl, rfl, rfl, rfl, rfl, rfl⟩ := H
  obtain ⟨eK, aJr⟩ := bY.out
  have aOh := Ysb eK
  have aOi := Ydc eK
  have aOj := Yhc eK
  have aOk := Yec eK
  have aOl := Yzb eK
  have aOm := Yac eK
  have aOn := Yvb eK
  have aOo := Ybc eK
  have aOp := Yub eK
  obtain ⟨aOq, aOr, aOs, aOt, aOu, aOv, aOw, aOx⟩ := Ke eK
  have aOy := Ye eK 8
  clear eK aJr
  go_enter Tryz.func46, Tryz.ntmps46
  go_wp2_with (first | ((with_reducible refine Yh (f := 71) rfl ?_); refine Yy (some 15) rfl rfl Tryz.func71 Zi rfl #[.string cL, .string (⟨#[47, 92]⟩ : Y)] rfl Zb ?_; (with_reducible refine (strings_IndexAny.calls cL (⟨#[47, 92]⟩ : Y) kB _ ?z1 A2.out).mono ?_); (case z1 => exact Kj); rintro e w62 ⟨rfl, hb⟩; refine ⟨_, rfl, ?_⟩; replace HK := Ya.mk (KeepBut.trans Zg (KeepBut.of_below hb g none) (.inl rfl)); replace HB := Ya.mk (Ys Ze hb); replace bY := Ya.mk (IsS75.below Zd hb); (try clear hb)))
  go_ret
  exact ⟨Zk, Zd, Ze, Zg⟩
 rw [if_pos c3] at H
 have bV : (kB == 0) = true := Kx c3
 have dY : (kB != 0) = false := Ku c3
 clear c3
 obtain ⟨kC, xQ, H⟩ := Kq H
 try dsimp -simprocs only at H
 have A4 := Ya.mk xQ
 clear xQ
 obtain ⟨⟨fK, lH, jM, lI, lJ, lK, lL, lM, lN, lO⟩, A50, H⟩ := Kq H
 try dsimp -simprocs only at H
 have A5 := Ya.mk A50
 clear A50
 obtain ⟨mG, sC, H⟩ := Kq H
 try dsimp -simprocs only at H
 have A6 := Ya.mk sC
 clear sC
 by_cases c7 : mG ≥ 0
 ·rw [if_pos c7] at H
  have cM : decide (0 ≤ mG) = true := Kn c7
  clear c7
  simp only [Kz, Kaa] at H
  obtain ⟨rfl, rfl, rfl, rfl, rfl, rfl, rfl, rfl, rfl, rfl⟩ := H
  obtain ⟨jE, aWT⟩ := bY.out
  have aWU := Ysb jE
  have aWV := Ydc jE
  have aWW := Yhc jE
  have aWX := Yec jE
  have aWY := Yzb jE
  have aWZ := Yac jE
  have aXa := Yvb jE
  have aXb := Ybc jE
  have aXc := Yub jE
  obtain ⟨aXd, aXe, aXf, aXg, aXh, aXi, aXj, aXk⟩ := Ke jE
  have aXl := Ye jE 8
  clear jE aWT
  go_enter Tryz.func46, Tryz.ntmps46
  go_wp2_with (first | ((with_reducible refine Yh (f := 71) rfl ?_); refine Yy (some 15) rfl rfl Tryz.func71 Zi rfl #[.string cL, .string (⟨#[47, 92]⟩ : Y)] rfl Zb ?_; (with_reducible refine (strings_IndexAny.calls cL (⟨#[47, 92]⟩ : Y) kB _ ?z1 A2.out).mono ?_); (case z1 => exact Kj); rintro e w9 ⟨rfl, hb⟩; refine ⟨_, rfl, ?_⟩; replace HK := Ya.mk (KeepBut.trans Zg (KeepBut.of_below hb g none) (.inl rfl)); replace HB := Ya.mk (Ys Ze hb); replace bY := Ya.mk (IsS75.below Zd hb); (try clear hb); obtain ⟨eL, aJs⟩ := bY.out; have aOz := Ysb eL; have aOA := Ydc eL; have aOB := Yhc eL; have aOC := Yec eL; have aOD := Yzb eL; have aOE := Yac eL; have aOF := Yvb eL; have aOG := Ybc eL; have aOH := Yub eL; obtain ⟨aOI, aOJ, aOK, aOL, aOM, aON, aOO, aOP⟩ := Ke eL; have aOQ := Ye eL 8; clear eL aJs) | ((with_reducible refine Yh (f := 72) rfl ?_); refine Yy (some 23) rfl rfl Tryz.func72 Zi rfl #[.string cL, .string (⟨#[47, 92]⟩ : Y)] rfl Zb ?_; (with_reducible refine (Yfc.calls cL (⟨#[47, 92]⟩ : Y) kC _ ?z1 A4.out).mono ?_); (case z1 => exact Kj); rintro e mV ⟨rfl, hb⟩; refine ⟨_, rfl, ?_⟩; replace HK := Ya.mk (KeepBut.trans Zg (KeepBut.of_below hb g none) (.inl rfl)); replace HB := Ya.mk (Ys Ze hb); replace bY := Ya.mk (IsS75.below Zd hb); (try clear hb); obtain ⟨eM, aJt⟩ := bY.out; have aCu := Ysb eM; have aCv := Ydc eM; have aCw := Yhc eM; have aCx := Yec eM; have aCy := Yzb eM; have aCz := Yac eM; have aCA := Yvb eM; have aCB := Ybc eM; have aCC := Yub eM; obtain ⟨aCD, aCE, aCF, aCG, aCH, aCI, aCJ, aCK⟩ := Ke eM; have aCL := Ye eM 8; clear eM aJt) | ((with_reducible refine Yh (f := 73) rfl ?_); refine Yy (some 30) rfl rfl Tryz.func73 Zi rfl #[.pointer (some ⟨g, 0, none⟩), .string (⟨#[47, 92, 63, 35]⟩ : Y)] rfl Zb ?_; (with_reducible refine (Yrb.calls g kC fT fU fV fW fX fY fZ gA (⟨#[47, 92, 63, 35]⟩ : Y) fK lH jM lI lJ lK lL lM lN lO w0 _ ?z1 ?z2 ?z3 A5.out).mono ?_); (case z1 => exact HE.out); (case z2 => repeat (first | (with_reducible first | exact bY.out | apply IsS75.alloc | apply IsS75.drewN | apply IsS75.drew | apply IsS75.set_0 | apply IsS75.set_1 | apply IsS75.set_2 | apply IsS75.set_3 | apply IsS75.set_4 | apply IsS75.set_5 | apply IsS75.set_6 | apply IsS75.set_7 | apply IsS75.set_8) | exact bY.out)); (case z3 => repeat (first | (with_reducible first | exact HB.out | apply Yd | apply Yb | apply Yc | refine Yg ?_ (IsS75.ge bY.out)) | exact HB.out)); rintro e mW ⟨rfl, hi, hb, hk⟩; refine ⟨_, rfl, ?_⟩; replace HK := Ya.mk (KeepBut.trans Zg hk (.inl rfl)); replace HB := Ya.mk (hb); replace bY := Ya.mk (hi); (try clear hb); (try clear hk); (try clear hi)) | ((with_reducible refine Yh (f := 25) rfl ?_); refine Yy (some 32) rfl rfl Tryz.func25 Zi rfl #[.string fK, .int .u8 64] rfl Zb ?_; (with_reducible refine (strings_IndexByte.calls fK 64 mG _ ?z1 A6.out).mono ?_); (case z1 => exact Kj); rintro e w' ⟨rfl, ⟨nd, rfl⟩⟩; refine ⟨_, rfl, ?_⟩))
  go_ret
  exact ⟨Zk, Zd, Ze, Zg⟩
 rw [if_neg c7] at H
 have cM : decide (0 ≤ mG) = false := Ko c7
 clear c7
 obtain ⟨⟨kR, kD, aBo⟩, aJu, H⟩ := Kq H
 try dsimp -simprocs only at H
 have eF := Ya.mk aJu
 clear aJu
 obtain ⟨⟨aBp, oV⟩, aBm, H⟩ := Kq H
 try dsimp -simprocs only at H
 have dW := Ya.mk aBm
 clear aBm
 by_cases dF : oV = 0
 rotate_left
 ·rw [if_neg dF] at H
  have gD : (oV == 0) = false := Kv dF
  have lP : (oV != 0) = true := Kw dF
  simp only [Kz, Kaa] at H
  obtain ⟨rfl, rfl, rfl, rfl, rfl, rfl, rfl, rfl, rfl, rfl⟩ := H
  obtain ⟨eN, aJv⟩ := bY.out
  have aOR := Ysb eN
  have aOS := Ydc eN
  have aOT := Yhc eN
  have aOU := Yec eN
  have aOV := Yzb eN
  have aOW := Yac eN
  have aOX := Yvb eN
  have aOY := Ybc eN
  have aOZ := Yub eN
  obtain ⟨aPa, aPb, aPc, aPd, aPe, aPf, aPg, aPh⟩ := Ke eN
  have aPi := Ye eN 8
  clear eN aJv
  go_enter Tryz.func46, Tryz.ntmps46
  go_wp2_with (first | ((with_reducible refine Yh (f := 71) rfl ?_); refine Yy (some 15) rfl rfl Tryz.func71 Zi rfl #[.string cL, .string (⟨#[47, 92]⟩ : Y)] rfl Zb ?_; (with_reducible refine (strings_IndexAny.calls cL (⟨#[47, 92]⟩ : Y) kB _ ?z1 A2.out).mono ?_); (case z1 => exact Kj); rintro e w55 ⟨rfl, hb⟩; refine ⟨_, rfl, ?_⟩; replace HK := Ya.mk (KeepBut.trans Zg (KeepBut.of_below hb g none) (.inl rfl)); replace HB := Ya.mk (Ys Ze hb); replace bY := Ya.mk (IsS75.below Zd hb); (try clear hb); obtain ⟨eO, aJw⟩ := bY.out; have aPj := Ysb eO; have aPk := Ydc eO; have aPl := Yhc eO; have aPm := Yec eO; have aPn := Yzb eO; have aPo := Yac eO; have aPp := Yvb eO; have aPq := Ybc eO; have aPr := Yub eO; obtain ⟨aPs, aPt, aPu, aPv, aPw, aPx, aPy, aPz⟩ := Ke eO; have aPA := Ye eO 8; clear eO aJw) | ((with_reducible refine Yh (f := 72) rfl ?_); refine Yy (some 23) rfl rfl Tryz.func72 Zi rfl #[.string cL, .string (⟨#[47, 92]⟩ : Y)] rfl Zb ?_; (with_reducible refine (Yfc.calls cL (⟨#[47, 92]⟩ : Y) kC _ ?z1 A4.out).mono ?_); (case z1 => exact Kj); rintro e w57 ⟨rfl, hb⟩; refine ⟨_, rfl, ?_⟩; replace HK := Ya.mk (KeepBut.trans Zg (KeepBut.of_below hb g none) (.inl rfl)); replace HB := Ya.mk (Ys Ze hb); replace bY := Ya.mk (IsS75.below Zd hb); (try clear hb); obtain ⟨eP, aJx⟩ := bY.out; have aPB := Ysb eP; have aPC := Ydc eP; have aPD := Yhc eP; have aPE := Yec eP; have aPF := Yzb eP; have aPG := Yac eP; have aPH := Yvb eP; have aPI := Ybc eP; have aPJ := Yub eP; obtain ⟨aPK, aPL, aPM, aPN, aPO, aPP, aPQ, aPR⟩ := Ke eP; have aPS := Ye eP 8; clear eP aJx) | ((with_reducible refine Yh (f := 73) rfl ?_); refine Yy (some 30) rfl rfl Tryz.func73 Zi rfl #[.pointer (some ⟨g, 0, none⟩), .string (⟨#[47, 92, 63, 35]⟩ : Y)] rfl Zb ?_; (with_reducible refine (Yrb.calls g kC fT fU fV fW fX fY fZ gA (⟨#[47, 92, 63, 35]⟩ : Y) fK lH jM lI lJ lK lL lM lN lO w0 _ ?z1 ?z2 ?z3 A5.out).mono ?_); (case z1 => exact HE.out); (case z2 => repeat (first | (with_reducible first | exact bY.out | apply IsS75.alloc | apply IsS75.drewN | apply IsS75.drew | apply IsS75.set_0 | apply IsS75.set_1 | apply IsS75.set_2 | apply IsS75.set_3 | apply IsS75.set_4 | apply IsS75.set_5 | apply IsS75.set_6 | apply IsS75.set_7 | apply IsS75.set_8) | exact bY.out)); (case z3 => repeat (first | (with_reducible first | exact HB.out | apply Yd | apply Yb | apply Yc | refine Yg ?_ (IsS75.ge bY.out)) | exact HB.out)); rintro e w59 ⟨rfl, hi, hb, hk⟩; refine ⟨_, rfl, ?_⟩; replace HK := Ya.mk (KeepBut.trans Zg hk (.inl rfl)); replace HB := Ya.mk (hb); replace bY := Ya.mk (hi); (try clear hb); (try clear hk); (try clear hi)) | ((with_reducible refine Yh (f := 25) rfl ?_); refine Yy (some 32) rfl rfl Tryz.func25 Zi rfl #[.string fK, .int .u8 64] rfl Zb ?_; (with_reducible refine (strings_IndexByte.calls fK 64 mG _ ?z1 A6.out).mono ?_); (case z1 => exact Kj); rintro e w' ⟨rfl, ⟨nd, rfl⟩⟩; refine ⟨_, rfl, ?_⟩) | ((with_reducible refine Yh (f := 24) rfl ?_); refine Yy (some 36) rfl rfl Tryz.func24 Zi rfl #[.string fK, .string (⟨#[58]⟩ : Y)] rfl Zb ?_; (with_reducible refine (strings_Cut.calls fK (⟨#[58]⟩ : Y) kR kD aBo _ ?z1 eF.out).mono ?_); (case z1 => exact Kj); rintro e w' ⟨rfl, ⟨nd, rfl⟩⟩; refine ⟨_, rfl, ?_⟩) | ((with_reducible refine Yh (f := 74) rfl ?_); refine Yy (some 42) rfl rfl Tryz.func74 Zi rfl #[.string kR] rfl Zb ?_; (with_reducible refine (Yzd.calls k kR aBp oV _ ?z1 dW.out).mono ?_); (case z1 => exact Kj); rintro e w60 ⟨rfl, hb⟩; refine ⟨_, rfl, ?_⟩; replace HK := Ya.mk (KeepBut.trans Zg (KeepBut.of_below hb g none) (.inl rfl)); replace HB := Ya.mk (Ys Ze hb); replace bY := Ya.mk (IsS75.below Zd hb); (try clear hb)))
  go_ret
  exact ⟨Zk, Zd, Ze, Zg⟩
 rw [if_pos dF] at H
 have gD : (oV == 0) = true := Kx dF
 have lP : (oV != 0) = false := Ku dF
 clear dF
 by_cases gG : kD.toList = ([] : List UInt8)
 ·rw [if_pos gG] at H
  have kI : (kD.toList == ([] : List UInt8)) = true := Kx gG
  have mP : (kD.toList != ([] : List UInt8)) = false := Ku gG
  clear gG
  simp only [Kz, Kaa] at H
  obtain ⟨rfl, rfl, rfl, rfl, rfl, rfl, rfl, rfl, rfl, rfl⟩ := H
  obtain ⟨eQ, aJy⟩ := bY.out
  have aPT := Ysb eQ
  have aPU := Ydc eQ
  have aPV := Yhc eQ
  have aPW := Yec eQ
  have aPX := Yzb eQ
  have aPY := Yac eQ
  have aPZ := Yvb eQ
  have aQa := Ybc eQ
  have aQb := Yub eQ
  obtain ⟨aQc, aQd, aQe, aQf, aQg, aQh, aQi, aQj⟩ := Ke eQ
  have aQk := Ye eQ 8
  clear eQ aJy
  go_enter Tryz.func46, Tryz.ntmps46
  go_wp2_with (first | ((with_reducible refine Yh (f := 71) rfl ?_); refine Yy (some 15) rfl rfl Tryz.func71 Zi rfl #[.string cL, .string (⟨#[47, 92]⟩ : Y)] rfl Zb ?_; (with_reducible refine (strings_IndexAny.calls cL (⟨#[47, 92]⟩ : Y) kB _ ?z1 A2.out).mono ?_); (case z1 => exact Kj); rintro e w19 ⟨rfl, hb⟩; refine ⟨_, rfl, ?_⟩; replace HK := Ya.mk (KeepBut.trans Zg (KeepBut.of_below hb g none) (.inl rfl)); replace HB := Ya.mk (Ys Ze hb); replace bY := Ya.mk (IsS75.below Zd hb); (try clear hb); obtain ⟨eR, aJz⟩ := bY.out; have aDe := Ysb eR; have aDf := Ydc eR; have aDg := Yhc eR; have aDh := Yec eR; have aDi := Yzb eR; have aDj := Yac eR; have aDk := Yvb eR; have aDl := Ybc eR; have aQl := Yub eR; obtain ⟨aDm, aDn, aDo, aDp, aDq, aDr, aDs, aDt⟩ := Ke eR; have aQm := Ye eR 8; clear eR aJz) | ((with_reducible refine Yh (f := 72) rfl ?_); refine Yy (some 23) rfl rfl Tryz.func72 Zi rfl #[.string cL, .string (⟨#[47, 92]⟩ : Y)] rfl Zb ?_; (with_reducible refine (Yfc.calls cL (⟨#[47, 92]⟩ : Y) kC _ ?z1 A4.out).mono ?_); (case z1 => exact Kj); rintro e w21 ⟨rfl, hb⟩; refine ⟨_, rfl, ?_⟩; replace HK := Ya.mk (KeepBut.trans Zg (KeepBut.of_below hb g none) (.inl rfl)); replace HB := Ya.mk (Ys Ze hb); replace bY := Ya.mk (IsS75.below Zd hb); (try clear hb); obtain ⟨eS, aJA⟩ := bY.out; have aQn := Ysb eS; have aQo := Ydc eS; have aQp := Yhc eS; have aQq := Yec eS; have aQr := Yzb eS; have aQs := Yac eS; have aQt := Yvb eS; have aQu := Ybc eS; have aQv := Yub eS; obtain ⟨aQw, aQx, aQy, aQz, aQA, aQB, aQC, aQD⟩ := Ke eS; have aQE := Ye eS 8; clear eS aJA) | ((with_reducible refine Yh (f := 73) rfl ?_); refine Yy (some 30) rfl rfl Tryz.func73 Zi rfl #[.pointer (some ⟨g, 0, none⟩), .string (⟨#[47, 92, 63, 35]⟩ : Y)] rfl Zb ?_; (with_reducible refine (Yrb.calls g kC fT fU fV fW fX fY fZ gA (⟨#[47, 92, 63, 35]⟩ : Y) fK lH jM lI lJ lK lL lM lN lO w0 _ ?z1 ?z2 ?z3 A5.out).mono ?_); (case z1 => exact HE.out); (case z2 => repeat (first | (with_reducible first | exact bY.out | apply IsS75.alloc | apply IsS75.drewN | apply IsS75.drew | apply IsS75.set_0 | apply IsS75.set_1 | apply IsS75.set_2 | apply IsS75.set_3 | apply IsS75.set_4 | apply IsS75.set_5 | apply IsS75.set_6 | apply IsS75.set_7 | apply IsS75.set_8) | exact bY.out)); (case z3 => repeat (first | (with_reducible first | exact HB.out | apply Yd | apply Yb | apply Yc | refine Yg ?_ (IsS75.ge bY.out)) | exact HB.out)); rintro e oS ⟨rfl, hi, hb, hk⟩; refine ⟨_, rfl, ?_⟩; replace HK := Ya.mk (KeepBut.trans Zg hk (.inl rfl)); replace HB := Ya.mk (hb); replace bY := Ya.mk (hi); (try clear hb); (try clear hk); (try clear hi)) | ((with_reducible refine Yh (f := 25) rfl ?_); refine Yy (some 32) rfl rfl Tryz.func25 Zi rfl #[.string fK, .int .u8 64] rfl Zb ?_; (with_reducible refine (strings_IndexByte.calls fK 64 mG _ ?z1 A6.out).mono ?_); (case z1 => exact Kj); rintro e w' ⟨rfl, ⟨nd, rfl⟩⟩; refine ⟨_, rfl, ?_⟩; (try (rw [Ynf oS]; generalize hq_ : World.drewN oS _ = oS; have aJ : Ya (IsS75 w0 oS g lH jM lI lJ lK lL lM lN lO) := ⟨Zm⟩; have aU : Ya (KeepBut w oS g none) := ⟨Zo⟩; have bE : Ya (Below w0.heap.size w0 oS) := ⟨Zp⟩; clear bY HK HB hq_; have bY := aJ; have HK := aU; have HB := bE; clear aJ aU bE))) | ((with_reducible refine Yh (f := 24) rfl ?_); refine Yy (some 36) rfl rfl Tryz.func24 Zi rfl #[.string fK, .string (⟨#[58]⟩ : Y)] rfl Zb ?_; (with_reducible refine (strings_Cut.calls fK (⟨#[58]⟩ : Y) kR kD aBo _ ?z1 eF.out).mono ?_); (case z1 => exact Kj); rintro e w' ⟨rfl, ⟨nd, rfl⟩⟩; refine ⟨_, rfl, ?_⟩; (try (rw [Ynf oS]; generalize hq_ : World.drewN oS _ = oS; have aJ : Ya (IsS75 w0 oS g lH jM lI lJ lK lL lM lN lO) := ⟨Zm⟩; have aU : Ya (KeepBut w oS g none) := ⟨Zo⟩; have bE : Ya (Below w0.heap.size w0 oS) := ⟨Zp⟩; clear bY HK HB hq_; have bY := aJ; have HK := aU; have HB := bE; clear aJ aU bE))) | ((with_reducible refine Yh (f := 74) rfl ?_); refine Yy (some 42) rfl rfl Tryz.func74 Zi rfl #[.string kR] rfl Zb ?_; (with_reducible refine (Yzd.calls k kR aBp oV _ ?z1 dW.out).mono ?_); (case z1 => exact Kj); rintro e w24 ⟨rfl, hb⟩; refine ⟨_, rfl, ?_⟩; replace HK := Ya.mk (KeepBut.trans Zg (KeepBut.of_below hb g none) (.inl rfl)); replace HB := Ya.mk (Ys Ze hb); replace bY := Ya.mk (IsS75.below Zd hb); (try clear hb); obtain ⟨eT, aJB⟩ := bY.out; have aDu := Ysb eT; have aDv := Ydc eT; have aDw := Yhc eT; have aDx := Yec eT; have aDy := Yzb eT; have aDz := Yac eT; have aDA := Yvb eT; have aDB := Ybc eT; have aQF := Yub eT; obtain ⟨aDC, aDD, aDE, aDF, aDG, aDH, aDI, aDJ⟩ := Ke eT; have aQG := Ye eT 8; clear eT aJB))
  go_ret
  exact ⟨Zk, Zd, Ze, Zg⟩
 rw [if_neg gG] at H
 have kI : (kD.toList == ([] : List UInt8)) = false := Kv gG
 have mP : (kD.toList != ([] : List UInt8)) = true := Kw gG
 obtain ⟨⟨sO, sP⟩, aJC, H⟩ := Kq H
 try dsimp -simprocs only at H
 have A26 := Ya.mk aJC
 clear aJC
 by_cases c27 : sP = 0
 rotate_left
 ·rw [if_neg c27] at H
  have aJD : (sP == 0) = false := Kv c27
  have aJE : (sP != 0) = true := Kw c27
  simp only [Kz, Kaa] at H
  obtain ⟨rfl, rfl, rfl, rfl, rfl, rfl, rfl, rfl, rfl, rfl⟩ := H
  obtain ⟨eU, aJF⟩ := bY.out
  have aQH := Ysb eU
  have aQI := Ydc eU
  have aQJ := Yhc eU
  have aQK := Yec eU
  have aQL := Yzb eU
  have aQM := Yac eU
  have aQN := Yvb eU
  have aQO := Ybc eU
  have aQP := Yub eU
  obtain ⟨aQQ, aQR, aQS, aQT, aQU, aQV, aQW, aQX⟩ := Ke eU
  have aQY := Ye eU 8
  clear eU aJF
  go_enter Tryz.func46, Tryz.ntmps46
  go_wp2_with (first | ((with_reducible refine Yh (f := 71) rfl ?_); refine Yy (some 15) rfl rfl Tryz.func71 Zi rfl #[.string cL, .string (⟨#[47, 92]⟩ : Y)] rfl Zb ?_; (with_reducible refine (strings_IndexAny.calls cL (⟨#[47, 92]⟩ : Y) kB _ ?z1 A2.out).mono ?_); (case z1 => exact Kj); rintro e w47 ⟨rfl, hb⟩; refine ⟨_, rfl, ?_⟩; replace HK := Ya.mk (KeepBut.trans Zg (KeepBut.of_below hb g none) (.inl rfl)); replace HB := Ya.mk (Ys Ze hb); replace bY := Ya.mk (IsS75.below Zd hb); (try clear hb); obtain ⟨eV, aJG⟩ := bY.out; have aQZ := Ysb eV; have aRa := Ydc eV; have aRb := Yhc eV; have aRc := Yec eV; have aRd := Yzb eV; have aRe := Yac eV; have aRf := Yvb eV; have aRg := Ybc eV; have aRh := Yub eV; obtain ⟨aRi, aRj, aRk, aRl, aRm, aRn, aRo, aRp⟩ := Ke eV; have aRq := Ye eV 8; clear eV aJG) | ((with_reducible refine Yh (f := 72) rfl ?_); refine Yy (some 23) rfl rfl Tryz.func72 Zi rfl #[.string cL, .string (⟨#[47, 92]⟩ : Y)] rfl Zb ?_; (with_reducible refine (Yfc.calls cL (⟨#[47, 92]⟩ : Y) kC _ ?z1 A4.out).mono ?_); (case z1 => exact Kj); rintro e w49 ⟨rfl, hb⟩; refine ⟨_, rfl, ?_⟩; replace HK := Ya.mk (KeepBut.trans Zg (KeepBut.of_below hb g none) (.inl rfl)); replace HB := Ya.mk (Ys Ze hb); replace bY := Ya.mk (IsS75.below Zd hb); (try clear hb); obtain ⟨eW, aJH⟩ := bY.out; have aRr := Ysb eW; have aRs := Ydc eW; have aRt := Yhc eW; have aRu := Yec eW; have aRv := Yzb eW; have aRw := Yac eW; have aRx := Yvb eW; have aRy := Ybc eW; have aRz := Yub eW; obtain ⟨aRA, aRB, aRC, aRD, aRE, aRF, aRG, aRH⟩ := Ke eW; have aRI := Ye eW 8; clear eW aJH) | ((with_reducible refine Yh (f := 73) rfl ?_); refine Yy (some 30) rfl rfl Tryz.func73 Zi rfl #[.pointer (some ⟨g, 0, none⟩), .string (⟨#[47, 92, 63, 35]⟩ : Y)] rfl Zb ?_; (with_reducible refine (Yrb.calls g kC fT fU fV fW fX fY fZ gA (⟨#[47, 92, 63, 35]⟩ : Y) fK lH jM lI lJ lK lL lM lN lO w0 _ ?z1 ?z2 ?z3 A5.out).mono ?_); (case z1 => exact HE.out); (case z2 => repeat (first | (with_reducible first | exact bY.out | apply IsS75.alloc | apply IsS75.drewN | apply IsS75.drew | apply IsS75.set_0 | apply IsS75.set_1 | apply IsS75.set_2 | apply IsS75.set_3 | apply IsS75.set_4 | apply IsS75.set_5 | apply IsS75.set_6 | apply IsS75.set_7 | apply IsS75.set_8) | exact bY.out)); (case z3 => repeat (first | (with_reducible first | exact HB.out | apply Yd | apply Yb | apply Yc | refine Yg ?_ (IsS75.ge bY.out)) | exact HB.out)); rintro e zZ ⟨rfl, hi, hb, hk⟩; refine ⟨_, rfl, ?_⟩; replace HK := Ya.mk (KeepBut.trans Zg hk (.inl rfl)); replace HB := Ya.mk (hb); replace bY := Ya.mk (hi); (try clear hb); (try clear hk); (try clear hi)) | ((with_reducible refine Yh (f := 25) rfl ?_); refine Yy (some 32) rfl rfl Tryz.func25 Zi rfl #[.string fK, .int .u8 64] rfl Zb ?_; (with_reducible refine (strings_IndexByte.calls fK 64 mG _ ?z1 A6.out).mono ?_); (case z1 => exact Kj); rintro e w' ⟨rfl, ⟨nd, rfl⟩⟩; refine ⟨_, rfl, ?_⟩; (try (rw [Ynf zZ]; generalize hq_ : World.drewN zZ _ = zZ; have aJ : Ya (IsS75 w0 zZ g lH jM lI lJ lK lL lM lN lO) := ⟨Zm⟩; have aU : Ya (KeepBut w zZ g none) := ⟨Zo⟩; have bE : Ya (Below w0.heap.size w0 zZ) := ⟨Zp⟩; clear bY HK HB hq_; have bY := aJ; have HK := aU; have HB := bE; clear aJ aU bE))) | ((with_reducible refine Yh (f := 24) rfl ?_); refine Yy (some 36) rfl rfl Tryz.func24 Zi rfl #[.string fK, .string (⟨#[58]⟩ : Y)] rfl Zb ?_; (with_reducible refine (strings_Cut.calls fK (⟨#[58]⟩ : Y) kR kD aBo _ ?z1 eF.out).mono ?_); (case z1 => exact Kj); rintro e w' ⟨rfl, ⟨nd, rfl⟩⟩; refine ⟨_, rfl, ?_⟩; (try (rw [Ynf zZ]; generalize hq_ : World.drewN zZ _ = zZ; have aJ : Ya (IsS75 w0 zZ g lH jM lI lJ lK lL lM lN lO) := ⟨Zm⟩; have aU : Ya (KeepBut w zZ g none) := ⟨Zo⟩; have bE : Ya (Below w0.heap.size w0 zZ) := ⟨Zp⟩; clear bY HK HB hq_; have bY := aJ; have HK := aU; have HB := bE; clear aJ aU bE))) | ((with_reducible refine Yh (f := 74) rfl ?_); refine Yy (some 42) rfl rfl Tryz.func74 Zi rfl #[.string kR] rfl Zb ?_; (with_reducible refine (Yzd.calls k kR aBp oV _ ?z1 dW.out).mono ?_); (case z1 => exact Kj); rintro e w52 ⟨rfl, hb⟩; refine ⟨_, rfl, ?_⟩; replace HK := Ya.mk (KeepBut.trans Zg (KeepBut.of_below hb g none) (.inl rfl)); replace HB := Ya.mk (Ys Ze hb); replace bY := Ya.mk (IsS75.below Zd hb); (try clear hb); obtain ⟨eX, aJI⟩ := bY.out; have aRJ := Ysb eX; have aRK := Ydc eX; have aRL := Yhc eX; have aRM := Yec eX; have aRN := Yzb eX; have aRO := Yac eX; have aRP := Yvb eX; have aRQ := Ybc eX; have aRR := Yub eX; obtain ⟨aRS, aRT, aRU, aRV, aRW, aRX, aRY, aRZ⟩ := Ke eX; have aSa := Ye eX 8; clear eX aJI) | ((with_reducible refine Yh (f := 75) rfl ?_); refine Yy (some 57) rfl rfl Tryz.func75 Zi rfl #[.string kD, .int .i64 65535] rfl Zb ?_; (with_reducible refine (Yaa.calls k kD 65535 sO sP _ ?z1 A26.out).mono ?_); (case z1 => exact Kj); rintro e w' ⟨rfl, ⟨nd, rfl⟩⟩; refine ⟨_, rfl, ?_⟩))
  go_ret
  exact ⟨Zk, Zd, Ze, Zg⟩
 rw [if_pos c27] at H
 have aJD : (sP == 0) = true := Kx c27
 have aJE : (sP != 0) = false := Ku c27
 clear c27
 obtain ⟨oF, sQ, H⟩ := Kq H
 try dsimp -simprocs only at H
 have A28 := Ya.mk sQ
 clear sQ
 by_cases oG : sO = oF
 rotate_left
 ·rw [if_neg oG] at H
  have aBq : (sO == oF) = false := Kv oG
  have aJJ : (sO != oF) = true := Kw oG
  simp only [Kz, Kaa] at H
  obtain ⟨rfl, rfl, rfl, rfl, rfl, rfl, rfl, rfl, rfl, rfl⟩ := H
  obtain ⟨eY, aJK⟩ := bY.out
  have aSb := Ysb eY
  have aSc := Ydc eY
  have aSd := Yhc eY
  have aSe := Yec eY
  have aSf := Yzb eY
  have aSg := Yac eY
  have aSh := Yvb eY
  have aSi := Ybc eY
  have aSj := Yub eY
  obtain ⟨aSk, aSl, aSm, aSn, aSo, aSp, aSq, aSr⟩ := Ke eY
  have aSs := Ye eY 8
  clear eY aJK
  go_enter Tryz.func46, Tryz.ntmps46
  go_wp2_with (first | ((with_reducible refine Yh (f := 71) rfl ?_); refine Yy (some 15) rfl rfl Tryz.func71 Zi rfl #[.string cL, .string (⟨#[47, 92]⟩ : Y)] rfl Zb ?_; (with_reducible refine (strings_IndexAny.calls cL (⟨#[47, 92]⟩ : Y) kB _ ?z1 A2.out).mono ?_); (case z1 => exact Kj); rintro e w39 ⟨rfl, hb⟩; refine ⟨_, rfl, ?_⟩; replace HK := Ya.mk (KeepBut.trans Zg (KeepBut.of_below hb g none) (.inl rfl)); replace HB := Ya.mk (Ys Ze hb); replace bY := Ya.mk (IsS75.below Zd hb); (try clear hb); obtain ⟨eZ, aJL⟩ := bY.out; have aSt := Ysb eZ; have aSu := Ydc eZ; have aSv := Yhc eZ; have aSw := Yec eZ; have aSx := Yzb eZ; have aSy := Yac eZ; have aSz := Yvb eZ; have aSA := Ybc eZ; have aSB := Yub eZ; obtain ⟨aSC, aSD, aSE, aSF, aSG, aSH, aSI, aSJ⟩ := Ke eZ; have aSK := Ye eZ 8; clear eZ aJL) | ((with_reducible refine Yh (f := 72) rfl ?_); refine Yy (some 23) rfl rfl Tryz.func72 Zi rfl #[.string cL, .string (⟨#[47, 92]⟩ : Y)] rfl Zb ?_; (with_reducible refine (Yfc.calls cL (⟨#[47, 92]⟩ : Y) kC _ ?z1 A4.out).mono ?_); (case z1 => exact Kj); rintro e w41 ⟨rfl, hb⟩; refine ⟨_, rfl, ?_⟩; replace HK := Ya.mk (KeepBut.trans Zg (KeepBut.of_below hb g none) (.inl rfl)); replace HB := Ya.mk (Ys Ze hb); replace bY := Ya.mk (IsS75.below Zd hb); (try clear hb); obtain ⟨fA, aJM⟩ := bY.out; have aSL := Ysb fA; have aSM := Ydc fA; have aSN := Yhc fA; have aSO := Yec fA; have aSP := Yzb fA; have aSQ := Yac fA; have aSR := Yvb fA; have aSS := Ybc fA; have aST := Yub fA; obtain ⟨aSU, aSV, aSW, aSX, aSY, aSZ, aTa, aTb⟩ := Ke fA; have aTc := Ye fA 8; clear fA aJM) | ((with_reducible refine Yh (f := 73) rfl ?_); refine Yy (some 30) rfl rfl Tryz.func73 Zi rfl #[.pointer (some ⟨g, 0, none⟩), .string (⟨#[47, 92, 63, 35]⟩ : Y)] rfl Zb ?_; (with_reducible refine (Yrb.calls g kC fT fU fV fW fX fY fZ gA (⟨#[47, 92, 63, 35]⟩ : Y) fK lH jM lI lJ lK lL lM lN lO w0 _ ?z1 ?z2 ?z3 A5.out).mono ?_); (case z1 => exact HE.out); (case z2 => repeat (first | (with_reducible first | exact bY.out | apply IsS75.alloc | apply IsS75.drewN | apply IsS75.drew | apply IsS75.set_0 | apply IsS75.set_1 | apply IsS75.set_2 | apply IsS75.set_3 | apply IsS75.set_4 | apply IsS75.set_5 | apply IsS75.set_6 | apply IsS75.set_7 | apply IsS75.set_8) | exact bY.out)); (case z3 => repeat (first | (with_reducible first | exact HB.out | apply Yd | apply Yb | apply Yc | refine Yg ?_ (IsS75.ge bY.out)) | exact HB.out)); rintro e w43 ⟨rfl, hi, hb, hk⟩; refine ⟨_, rfl, ?_⟩; replace HK := Ya.mk (KeepBut.trans Zg hk (.inl rfl)); replace HB := Ya.mk (hb); replace bY := Ya.mk (hi); (try clear hb); (try clear hk); (try clear hi)) | ((with_reducible refine Yh (f := 25) rfl ?_); refine Yy (some 32) rfl rfl Tryz.func25 Zi rfl #[.string fK, .int .u8 64] rfl Zb ?_; (with_reducible refine (strings_IndexByte.calls fK 64 mG _ ?z1 A6.out).mono ?_); (case z1 => exact Kj); rintro e w' ⟨rfl, ⟨nd, rfl⟩⟩; refine ⟨_, rfl, ?_⟩; (try (rw [Ynf w43]; generalize hq_ : World.drewN w43 _ = w43; have aJ : Ya (IsS75 w0 w43 g lH jM lI lJ lK lL lM lN lO) := ⟨Zm⟩; have aU : Ya (KeepBut w w43 g none) := ⟨Zo⟩; have bE : Ya (Below w0.heap.size w0 w43) := ⟨Zp⟩; clear bY HK HB hq_; have bY := aJ; have HK := aU; have HB := bE; clear aJ aU bE))) | ((with_reducible refine Yh (f := 24) rfl ?_); refine Yy (some 36) rfl rfl Tryz.func24 Zi rfl #[.string fK, .string (⟨#[58]⟩ : Y)] rfl Zb ?_; (with_reducible refine (strings_Cut.calls fK (⟨#[58]⟩ : Y) kR kD aBo _ ?z1 eF.out).mono ?_); (case z1 => exact Kj); rintro e w' ⟨rfl, ⟨nd, rfl⟩⟩; refine ⟨_, rfl, ?_⟩; (try (rw [Ynf w43]; generalize hq_ : World.drewN w43 _ = w43; have aJ : Ya (IsS75 w0 w43 g lH jM lI lJ lK lL lM lN lO) := ⟨Zm⟩; have aU : Ya (KeepBut w w43 g none) := ⟨Zo⟩; have bE : Ya (Below w0.heap.size w0 w43) := ⟨Zp⟩; clear bY HK HB hq_; have bY := aJ; have HK := aU; have HB := bE; clear aJ aU bE))) | ((with_reducible refine Yh (f := 74) rfl ?_); refine Yy (some 42) rfl rfl Tryz.func74 Zi rfl #[.string kR] rfl Zb ?_; (with_reducible refine (Yzd.calls k kR aBp oV _ ?z1 dW.out).mono ?_); (case z1 => exact Kj); rintro e w44 ⟨rfl, hb⟩; refine ⟨_, rfl, ?_⟩; replace HK := Ya.mk (KeepBut.trans Zg (KeepBut.of_below hb g none) (.inl rfl)); replace HB := Ya.mk (Ys Ze hb); replace bY := Ya.mk (IsS75.below Zd hb); (try clear hb); obtain ⟨fB, aJN⟩ := bY.out; have aTd := Ysb fB; have aTe := Ydc fB; have aTf := Yhc fB; have aTg := Yec fB; have aTh := Yzb fB; have aTi := Yac fB; have aTj := Yvb fB; have aTk := Ybc fB; have aTl := Yub fB; obtain ⟨aTm, aTn, aTo, aTp, aTq, aTr, aTs, aTt⟩ := Ke fB; have aTu := Ye fB 8; clear fB aJN) | ((with_reducible refine Yh (f := 75) rfl ?_); refine Yy (some 57) rfl rfl Tryz.func75 Zi rfl #[.string kD, .int .i64 65535] rfl Zb ?_; (with_reducible refine (Yaa.calls k kD 65535 sO sP _ ?z1 A26.out).mono ?_); (case z1 => exact Kj); rintro e w' ⟨rfl, ⟨nd, rfl⟩⟩; refine ⟨_, rfl, ?_⟩) | ((with_reducible refine Yh (f := 76) rfl ?_); refine Yy (some 68) rfl rfl Tryz.func76 Zi rfl #[.string jM] rfl Zb ?_; (with_reducible refine (Ymf.calls jM oF _ ?z1 A28.out).mono ?_); (case z1 => exact Kj); rintro e w' ⟨rfl, ⟨nd, rfl⟩⟩; refine ⟨_, rfl, ?_⟩))
  go_ret
  exact ⟨Zk, Zd, Ze, Zg⟩
 rw [if_pos oG] at H
 have aBq : (sO == oF) = true := Kx oG
 have aJJ : (sO != oF) = false := Ku oG
 clear oG
 simp only [Kz, Kaa] at H
 obtain ⟨rfl, rfl, rfl, rfl, rfl, rfl, rfl, rfl, rfl, rfl⟩ := H
 obtain ⟨fC, aJO⟩ := bY.out
 have aTv := Ysb fC
 have aTw := Ydc fC
 have aTx := Yhc fC
 have aTy := Yec fC
 have aTz := Yzb fC
 have aTA := Yac fC
 have aTB := Yvb fC
 have aTC := Ybc fC
 have aTD := Yub fC
 obtain ⟨aTE, aTF, aTG, aTH, aTI, aTJ, aTK, aTL⟩ := Ke fC
 have aTM := Ye fC 8
 clear fC aJO
 go_enter Tryz.func46, Tryz.ntmps46
 go_wp2_with (first | ((with_reducible refine Yh (f := 71) rfl ?_); refine Yy (some 15) rfl rfl Tryz.func71 Zi rfl #[.string cL, .string (⟨#[47, 92]⟩ : Y)] rfl Zb ?_; (with_reducible refine (strings_IndexAny.calls cL (⟨#[47, 92]⟩ : Y) kB _ ?z1 A2.out).mono ?_); (case z1 => exact Kj); rintro e w31 ⟨rfl, hb⟩; refine ⟨_, rfl, ?_⟩; replace HK := Ya.mk (KeepBut.trans Zg (KeepBut.of_below hb g none) (.inl rfl)); replace HB := Ya.mk (Ys Ze hb); replace bY := Ya.mk (IsS75.below Zd hb); (try clear hb); obtain ⟨fD, aJP⟩ := bY.out; have aTN := Ysb fD; have aTO := Ydc fD; have aTP := Yhc fD; have aTQ := Yec fD; have aTR := Yzb fD; have aTS := Yac fD; have aTT := Yvb fD; have aTU := Ybc fD; have aTV := Yub fD; obtain ⟨aTW, aTX, aTY, aTZ, aUa, aUb, aUc, aUd⟩ := Ke fD; have aUe := Ye fD 8; clear fD aJP) | ((with_reducible refine Yh (f := 72) rfl ?_); refine Yy (some 23) rfl rfl Tryz.func72 Zi rfl #[.string cL, .string (⟨#[47, 92]⟩ : Y)] rfl Zb ?_; (with_reducible refine (Yfc.calls cL (⟨#[47, 92]⟩ : Y) kC _ ?z1 A4.out).mono ?_); (case z1 => exact Kj); rintro e w33 ⟨rfl, hb⟩; refine ⟨_, rfl, ?_⟩; replace HK := Ya.mk (KeepBut.trans Zg (KeepBut.of_below hb g none) (.inl rfl)); replace HB := Ya.mk (Ys Ze hb); replace bY := Ya.mk (IsS75.below Zd hb); (try clear hb); obtain ⟨fE, aJQ⟩ := bY.out; have aUf := Ysb fE; have aUg := Ydc fE; have aUh := Yhc fE; have aUi := Yec fE; have aUj := Yzb fE; have aUk := Yac fE; have aUl := Yvb fE; have aUm := Ybc fE; have aUn := Yub fE; obtain ⟨aUo, aUp, aUq, aUr, aUs, aUt, aUu, aUv⟩ := Ke fE; have aUw := Ye fE 8; clear fE aJQ) | ((with_reducible refine Yh (f := 73) rfl ?_); refine Yy (some 30) rfl rfl Tryz.func73 Zi rfl #[.pointer (some ⟨g, 0, none⟩), .string (⟨#[47, 92, 63, 35]⟩ : Y)] rfl Zb ?_; (with_reducible refine (Yrb.calls g kC fT fU fV fW fX fY fZ gA (⟨#[47, 92, 63, 35]⟩ : Y) fK lH jM lI lJ lK lL lM lN lO w0 _ ?z1 ?z2 ?z3 A5.out).mono ?_); (case z1 => exact HE.out); (case z2 => repeat (first | (with_reducible first | exact bY.out | apply IsS75.alloc | apply IsS75.drewN | apply IsS75.drew | apply IsS75.set_0 | apply IsS75.set_1 | apply IsS75.set_2 | apply IsS75.set_3 | apply IsS75.set_4 | apply IsS75.set_5 | apply IsS75.set_6 | apply IsS75.set_7 | apply IsS75.set_8) | exact bY.out)); (case z3 => repeat (first | (with_reducible first | exact HB.out | apply Yd | apply Yb | apply Yc | refine Yg ?_ (IsS75.ge bY.out)) | exact HB.out)); rintro e zJ ⟨rfl, hi, hb, hk⟩; refine ⟨_, rfl, ?_⟩; replace HK := Ya.mk (KeepBut.trans Zg hk (.inl rfl)); replace HB := Ya.mk (hb); replace bY := Ya.mk (hi); (try clear hb); (try clear hk); (try clear hi)) | ((with_reducible refine Yh (f := 25) rfl ?_); refine Yy (some 32) rfl rfl Tryz.func25 Zi rfl #[.string fK, .int .u8 64] rfl Zb ?_; (with_reducible refine (strings_IndexByte.calls fK 64 mG _ ?z1 A6.out).mono ?_); (case z1 => exact Kj); rintro e w' ⟨rfl, ⟨nd, rfl⟩⟩; refine ⟨_, rfl, ?_⟩; (try (rw [Ynf zJ]; generalize hq_ : World.drewN zJ _ = zJ; have aJ : Ya (IsS75 w0 zJ g lH jM lI lJ lK lL lM lN lO) := ⟨Zm⟩; have aU : Ya (KeepBut w zJ g none) := ⟨Zo⟩; have bE : Ya (Below w0.heap.size w0 zJ) := ⟨Zp⟩; clear bY HK HB hq_; have bY := aJ; have HK := aU; have HB := bE; clear aJ aU bE))) | ((with_reducible refine Yh (f := 24) rfl ?_); refine Yy (some 36) rfl rfl Tryz.func24 Zi rfl #[.string fK, .string (⟨#[58]⟩ : Y)] rfl Zb ?_; (with_reducible refine (strings_Cut.calls fK (⟨#[58]⟩ : Y) kR kD aBo _ ?z1 eF.out).mono ?_); (case z1 => exact Kj); rintro e w' ⟨rfl, ⟨nd, rfl⟩⟩; refine ⟨_, rfl, ?_⟩; (try (rw [Ynf zJ]; generalize hq_ : World.drewN zJ _ = zJ; have aJ : Ya (IsS75 w0 zJ g lH jM lI lJ lK lL lM lN lO) := ⟨Zm⟩; have aU : Ya (KeepBut w zJ g none) := ⟨Zo⟩; have bE : Ya (Below w0.heap.size w0 zJ) := ⟨Zp⟩; clear bY HK HB hq_; have bY := aJ; have HK := aU; have HB := bE; clear aJ aU bE))) | ((with_reducible refine Yh (f := 74) rfl ?_); refine Yy (some 42) rfl rfl Tryz.func74 Zi rfl #[.string kR] rfl Zb ?_; (with_reducible refine (Yzd.calls k kR aBp oV _ ?z1 dW.out).mono ?_); (case z1 => exact Kj); rintro e w36 ⟨rfl, hb⟩; refine ⟨_, rfl, ?_⟩; replace HK := Ya.mk (KeepBut.trans Zg (KeepBut.of_below hb g none) (.inl rfl)); replace HB := Ya.mk (Ys Ze hb); replace bY := Ya.mk (IsS75.below Zd hb); (try clear hb); obtain ⟨fF, aJR⟩ := bY.out; have aUx := Ysb fF; have aUy := Ydc fF; have aUz := Yhc fF; have aUA := Yec fF; have aUB := Yzb fF; have aUC := Yac fF; have aUD := Yvb fF; have aUE := Ybc fF; have aUF := Yub fF; obtain ⟨aUG, aUH, aUI, aUJ, aUK, aUL, aUM, aUN⟩ := Ke fF; have aUO := Ye fF 8; clear fF aJR) | ((with_reducible refine Yh (f := 75) rfl ?_); refine Yy (some 57) rfl rfl Tryz.func75 Zi rfl #[.string kD, .int .i64 65535] rfl Zb ?_; (with_reducible refine (Yaa.calls k kD 65535 sO sP _ ?z1 A26.out).mono ?_); (case z1 => exact Kj); rintro e w' ⟨rfl, ⟨nd, rfl⟩⟩; refine ⟨_, rfl, ?_⟩) | ((with_reducible refine Yh (f := 76) rfl ?_); refine Yy (some 68) rfl rfl Tryz.func76 Zi rfl #[.string jM] rfl Zb ?_; (with_reducible refine (Ymf.calls jM oF _ ?z1 A28.out).mono ?_); (case z1 => exact Kj); rintro e w' ⟨rfl, ⟨nd, rfl⟩⟩; refine ⟨_, rfl, ?_⟩))
 go_ret
 exact ⟨Zk, Zd, Ze, Zg⟩
def Yji.f (a0 : Y) : Option (Int) := (Ycc.f a0).bind fun mH => ((strings_ReplaceAll.f mH (⟨#[37, 50, 101]⟩ : Y) (⟨#[46]⟩ : Y)).bind fun jF => (if jF.toList = ([46] : List UInt8) then (some 1) else (if jF.toList = ([46, 46] : List UInt8) then (some 2) else (some 0))))
theorem Yji.calls (a0 : Y) (r : Int) (w : World) (hE : EnvOk w) (h : Yji.f a0 = some r) :
  Calls Tryz.prog 107 #[.string a0] w fun e w' => e = .returned (.int .i64 r) ∧ Below w.heap.size w w' := by
 have HE := Ya.mk hE
 clear hE
 have HB := Ya.mk (Below.refl w.heap.size w)
 have H : ((Ycc.f a0).bind fun mH => ((strings_ReplaceAll.f mH (⟨#[37, 50, 101]⟩ : Y) (⟨#[46]⟩ : Y)).bind fun jF => (if jF.toList = ([46] : List UInt8) then (some 1) else (if jF.toList = ([46, 46] : List UInt8) then (some 2) else (some 0))))) = some r := h
 clear h
 obtain ⟨mH, dX, H⟩ := Kq H
 try dsimp -simprocs only at H
 have A2 := Ya.mk dX
 clear dX
 obtain ⟨jF, pF, H⟩ := Kq H
 try dsimp -simprocs only at H
 have A3 := Ya.mk pF
 clear pF
 by_cases c4 : jF.toList = ([46] : List UInt8)
 ·rw [if_pos c4] at H
  have bM : (jF.toList == ([46] : List UInt8)) = true := Kx c4
  have jZ : (jF.toList != ([46] : List UInt8)) = false := Ku c4
  clear c4
  obtain rfl := Kr H
  go_enter Tryz.func107, Tryz.ntmps107
  go_wp2_with (first | ((with_reducible refine Yh (f := 70) rfl ?_); refine Yy (some 4) rfl rfl Tryz.func70 Zi rfl #[.string a0] rfl Zb ?_; (with_reducible refine (Ycc.calls a0 mH _ ?z1 A2.out).mono ?_); (case z1 => exact Kh); rintro e w5 ⟨rfl, hb⟩; refine ⟨_, rfl, ?_⟩; replace HB := Ya.mk (Ys Za hb); (try clear hb)) | ((with_reducible refine Yh (f := 67) rfl ?_); refine Yy (some 5) rfl rfl Tryz.func67 Zi rfl #[.string mH, .string (⟨#[37, 50, 101]⟩ : Y), .string (⟨#[46]⟩ : Y)] rfl Zb ?_; (with_reducible refine (strings_ReplaceAll.calls mH (⟨#[37, 50, 101]⟩ : Y) (⟨#[46]⟩ : Y) jF _ ?z1 A3.out).mono ?_); (case z1 => exact Kh); rintro e w6 ⟨rfl, hb⟩; refine ⟨_, rfl, ?_⟩; replace HB := Ya.mk (Ys Za hb); (try clear hb)))
  go_ret
  exact ⟨Zk, Za⟩
 rw [if_neg c4] at H
 have bM : (jF.toList == ([46] : List UInt8)) = false := Kv c4
 have jZ : (jF.toList != ([46] : List UInt8)) = true := Kw c4
 by_cases c7 : jF.toList = ([46, 46] : List UInt8)
 rotate_left
 ·rw [if_neg c7] at H
  have cM : (jF.toList == ([46, 46] : List UInt8)) = false := Kv c7
  have gZ : (jF.toList != ([46, 46] : List UInt8)) = true := Kw c7
  obtain rfl := Kr H
  go_enter Tryz.func107, Tryz.ntmps107
  go_wp2_with (first | ((with_reducible refine Yh (f := 70) rfl ?_); refine Yy (some 4) rfl rfl Tryz.func70 Zi rfl #[.string a0] rfl Zb ?_; (with_reducible refine (Ycc.calls a0 mH _ ?z1 A2.out).mono ?_); (case z1 => exact Kh); rintro e qZ ⟨rfl, hb⟩; refine ⟨_, rfl, ?_⟩; replace HB := Ya.mk (Ys Za hb); (try clear hb)) | ((with_reducible refine Yh (f := 67) rfl ?_); refine Yy (some 5) rfl rfl Tryz.func67 Zi rfl #[.string mH, .string (⟨#[37, 50, 101]⟩ : Y), .string (⟨#[46]⟩ : Y)] rfl Zb ?_; (with_reducible refine (strings_ReplaceAll.calls mH (⟨#[37, 50, 101]⟩ : Y) (⟨#[46]⟩ : Y) jF _ ?z1 A3.out).mono ?_); (case z1 => exact Kh); rintro e mV ⟨rfl, hb⟩; refine ⟨_, rfl, ?_⟩; replace HB := Ya.mk (Ys Za hb); (try clear hb)))
  go_ret
  exact ⟨Zk, Za⟩
 rw [if_pos c7] at H
 have cM : (jF.toList == ([46, 46] : List UInt8)) = true := Kx c7
 have gZ : (jF.toList != ([46, 46] : List UInt8)) = false := Ku c7
 clear c7
 obtain rfl := Kr H
 go_enter Tryz.func107, Tryz.ntmps107
 go_wp2_with (first | ((with_reducible refine Yh (f := 70) rfl ?_); refine Yy (some 4) rfl rfl Tryz.func70 Zi rfl #[.string a0] rfl Zb ?_; (with_reducible refine (Ycc.calls a0 mH _ ?z1 A2.out).mono ?_); (case z1 => exact Kh); rintro e w8 ⟨rfl, hb⟩; refine ⟨_, rfl, ?_⟩; replace HB := Ya.mk (Ys Za hb); (try clear hb)) | ((with_reducible refine Yh (f := 67) rfl ?_); refine Yy (some 5) rfl rfl Tryz.func67 Zi rfl #[.string mH, .string (⟨#[37, 50, 101]⟩ : Y), .string (⟨#[46]⟩ : Y)] rfl Zb ?_; (with_reducible refine (strings_ReplaceAll.calls mH (⟨#[37, 50, 101]⟩ : Y) (⟨#[46]⟩ : Y) jF _ ?z1 A3.out).mono ?_); (case z1 => exact Kh); rintro e w9 ⟨rfl, hb⟩; refine ⟨_, rfl, ?_⟩; replace HB := Ya.mk (Ys Za hb); (try clear hb)))
 go_ret
 exact ⟨Zk, Za⟩
end Go.Proofs.YtihaeeldgimdiaaGreatDoor.X
