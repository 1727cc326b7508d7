import Derived.Test.YtnmglnglbdpjjaaGreatDoorUfX4
import Derived.Test.YtnmglnglbdpjjaaGreatDoorUfH1a
set_option linter.all false
namespace Go.Proofs.YtnmglnglbdpjjaaGreatDoor.X
open Go.RowKit Go.Yw.PrintWords Go.Yw.PrintLast Go.Yw.PrintMore
attribute [local go_sem] Yfe Ybe Yre Yue Yld Ykd Yee Yde
set_option maxHeartbeats 8000000
set_option maxRecDepth 100000
mutual
def Yu.j0 : Nat → Y → Y → Bool → Y → Y → Y → Int → Y → Y → Y → Bool → Bool → Option (Int × Y × Y × Y × Int × Y × Y × Y × Bool × Bool)
 | 0, _, _, _, _, _, _, _, _, _, _, _, _ => none
 | k + 1, x3, x4, x29, oL, oM, jQ, jR, jS, jT, jU, jV, jW => if x29 = true then (some (3, oL, oM, jQ, jR, jS, jT, jU, jV, jW)) else (Yu.l0 k x3 x4 (x3.size : Int) 0 oL oM jQ jR jS jT jU jV jW)
def Yu.l0 : Nat → Y → Y → Int → Int → Y → Y → Y → Int → Y → Y → Y → Bool → Bool → Option (Int × Y × Y × Y × Int × Y × Y × Y × Bool × Bool)
 | 0, _, _, _, _, _, _, _, _, _, _, _, _, _ => none
 | k + 1, x3, x4, x31, x32, oL, oM, jQ, jR, jS, jT, jU, jV, jW => if x32 < x31 then (if 0 ≤ x32 then (if x32 < (x3.size : Int) then ((Ywa.f (bt x3 x32)).bind fun aFG => (if aFG = true then (Yu.l0 k x3 x4 x31 (wrap64 (x32 + 1)) oL oM jQ jR jS jT jU jV jW) else ((Yua.f (bt x3 x32)).bind fun aFH => (if aFH = true then (Yu.l0 k x3 x4 x31 (wrap64 (x32 + 1)) oL oM jQ jR jS jT jU jV jW) else ((strings_IndexByte.f (⟨#[43, 45, 46]⟩ : Y) (bt x3 x32)).bind fun vD => (if vD < 0 then (some (3, oL, oM, jQ, jR, jS, jT, jU, jV, jW)) else (Yu.l0 k x3 x4 x31 (wrap64 (x32 + 1)) oL oM jQ jR jS jT jU jV jW))))))) else (none)) else (none)) else ((Yib.f x3).bind fun iQ => (if iQ.toList = ([104, 116, 116, 112] : List UInt8) then (some (0, x4, iQ, jQ, jR, jS, jT, jU, jV, jW)) else (if iQ.toList = ([104, 116, 116, 112, 115] : List UInt8) then (some (0, x4, iQ, jQ, jR, jS, jT, jU, jV, jW)) else (some (16, x4, iQ, jQ, jR, jS, jT, jU, jV, jW)))))
end
def Yu.f (k : Nat) (cK gA gB : Y) (gC : Int) (gD gE gF : Y) (gG gH : Bool) : Option (Int × Y × Y × Y × Int × Y × Y × Y × Bool × Bool) := (strings_Cut.f cK (⟨#[58]⟩ : Y)).bind fun eH => (if eH.2.2 = true then (if eH.1.toList = ([] : List UInt8) then (Yu.j0 k eH.1 eH.2.1 true cK gA gB gC gD gE gF gG gH) else (if 0 < (eH.1.size : Int) then ((Ywa.f (bt eH.1 0)).bind fun zR => (Yu.j0 k eH.1 eH.2.1 (!zR) cK gA gB gC gD gE gF gG gH)) else (none))) else (Yu.j0 k eH.1 eH.2.1 true cK gA gB gC gD gE gF gG gH))
theorem Yu.calls (k g : Nat) (cK gA gB : Y) (gC : Int) (gD gE gF : Y) (gG gH : Bool) (r1 : Int) (r2 r3 r4 : Y) (r5 : Int) (r6 r7 r8 : Y) (r9 uX : Bool) (w0 w : World) (hE : EnvOk w0) (hI : IsS53 w0 w g cK gA gB gC gD gE gF gG gH) (hB : Below w0.heap.size w0 w) (h : Yu.f k cK gA gB gC gD gE gF gG gH = some (r1, r2, r3, r4, r5, r6, r7, r8, r9, uX)) :
  Calls Tryz.prog 43 #[.pointer (some ⟨g, 0, none⟩)] w fun e w' => e = .returned (.int .i64 r1) ∧ IsS53 w0 w' g r2 r3 r4 r5 r6 r7 r8 r9 uX ∧ Below w0.heap.size w0 w' ∧ KeepBut w w' g none := by
 have bZ := Ya.mk hI
 have HK := Ya.mk (KeepBut.refl w g none)
 have HL := Ya.mk hB.size
 clear hI
 have HE := Ya.mk hE
 clear hE
 have HW0 := Ya.mk hB.size
 have HB := Ya.mk hB
 clear hB
 have H : ((strings_Cut.f cK (⟨#[58]⟩ : Y)).bind fun eH => (if eH.2.2 = true then (if eH.1.toList = ([] : List UInt8) then (Yu.j0 k eH.1 eH.2.1 true cK gA gB gC gD gE gF gG gH) else (if 0 < (eH.1.size : Int) then ((Ywa.f (bt eH.1 0)).bind fun zR => (Yu.j0 k eH.1 eH.2.1 (!zR) cK gA gB gC gD gE gF gG gH)) else (none))) else (Yu.j0 k eH.1 eH.2.1 true cK gA gB gC gD gE gF gG gH))) = some (r1, r2, r3, r4, r5, r6, r7, r8, r9, uX) := h
 clear h
 obtain ⟨⟨cL, aFI, aIa⟩, dW, H⟩ := Ku H
 try dsimp -simprocs only at H
 have A2 := Ya.mk dW
 clear dW
 have qN := Ya.mk H
 clear H
 obtain ⟨iR, aVo⟩ := bZ.out
 have aBb := Yfc iR
 have aBc := Ymc iR
 have aBd := Ync iR
 have aBe := Yoc iR
 have aBf := Ykc iR
 have aBg := Yjc iR
 have aBh := Ygc iR
 have aBi := Ylc iR
 have aBj := Yhc iR
 obtain ⟨aBk, aBl, aBm, aBn, aBo, aBp, aBq, aBr⟩ := Ke iR
 have aBs := Ye iR 8
 clear iR aVo
 go_enter Tryz.func43, Tryz.ntmps43
 go_upto_region 2 with (first | ((with_reducible refine Yh (f := 76) rfl ?_); refine Yca (some 14) rfl rfl Tryz.func76 Zi rfl #[.string cK, .string (⟨#[58]⟩ : Y)] rfl Zb ?_; (with_reducible refine (strings_Cut.calls cK (⟨#[58]⟩ : Y) cL aFI aIa _ ?z1 A2.out).mono ?_); (case z1 => exact Kk); rintro e w' ⟨rfl, ⟨nd, rfl⟩⟩; refine ⟨_, rfl, ?_⟩))
 (try simp only [Act.put, Kca])
 go_cut [29] (fun v29 wc => ∃ (kq : Nat) (wI : Bool), v29 = .bool wI ∧ Ya (Yu.j0 kq cL aFI wI cK gA gB gC gD gE gF gG gH = some (r1, r2, r3, r4, r5, r6, r7, r8, r9, uX)) ∧ Ya (kq ≤ k) ∧ Ya (IsS53 w0 wc g cK gA gB gC gD gE gF gG gH) ∧ Ya (KeepBut w wc g none) ∧ Ya (Below w0.heap.size w0 wc))
 case first =>
  have H := qN.out
  clear qN
  by_cases c5 : aIa = true
  rotate_left
  ·replace c5 := Kx c5
   subst c5
   rw [if_neg (show ¬ (false = true) by decide)] at H
   have H' := Ya.mk H
   clear H
   go_wp2
   go_meet
   case rel => exact ⟨_, (true), Zf, H', ⟨Zla⟩, ⟨Zd⟩, ⟨Zg⟩, ⟨Ze⟩⟩
  subst c5
  rw [if_pos rfl] at H
  by_cases c6 : cL.toList = ([] : List UInt8)
  ·rw [if_pos c6] at H
   have dN : (cL.toList == ([] : List UInt8)) = true := Kba c6
   have jB : (cL.toList != ([] : List UInt8)) = false := Ky c6
   clear c6
   (first | rw [dN] | (simp only [Yaa, Yda]; rw [dN]) | skip)
   have H' := Ya.mk H
   clear H
   go_wp2
   go_meet
   case rel => exact ⟨_, (true), Zf, H', ⟨Zla⟩, ⟨Zd⟩, ⟨Zg⟩, ⟨Ze⟩⟩
  rw [if_neg c6] at H
  have dN : (cL.toList == ([] : List UInt8)) = false := Kz c6
  have jB : (cL.toList != ([] : List UInt8)) = true := Kaa c6
  (first | rw [dN] | (simp only [Yaa, Yda]; rw [dN]) | skip)
  by_cases c7 : 0 < (cL.size : Int)
  rotate_left
  ·rw [if_neg c7] at H
   exact absurd H Zv
  rw [if_pos c7] at H
  have cW : decide (0 < (cL.size : Int)) = true := Kr c7
  have iD : decide (0 < cL.size) = true := Kr Zk
  clear c7
  obtain ⟨zR, A90, H⟩ := Ku H
  try dsimp -simprocs only at H
  have A9 := Ya.mk A90
  clear A90
  have H' := Ya.mk H
  clear H
  have p8 : 0 ≤ (0 : Int) := Zk
  have q8 : 0 < cL.size := (by have : (0 : Int) < (cL.size : Int) := Kq Zc; omega)
  have hx8 : ∀ h : 0 < cL.size, ((cL[0]'h).toNat : Int) = bt cL 0 := Ybb cL 0
  clear p8
  have qi8 : (0 < (cL.size : Int)) = True := Kt (Kq Zc)
  replace q8 := Kt q8
  go_wp2_with (first | (go_at_call 77; (with_reducible refine (Ywa.calls (bt cL 0) zR _ ?z1 A9.out).mono ?_); (case z1 => exact Kk); rintro e w' ⟨rfl, ⟨nd, rfl⟩⟩))
  go_meet
  case rel => exact ⟨_, (!zR), Zf, H', ⟨Zla⟩, ⟨Zd⟩, ⟨Zg⟩, ⟨Ze⟩⟩
 case rest =>
  clear qN
  try clear aBb
  try clear aBc
  try clear aBd
  try clear aBe
  try clear aBf
  try clear aBg
  try clear aBh
  try clear aBi
  try clear aBj
  try clear aBk
  try clear aBl
  try clear aBm
  try clear aBn
  try clear aBo
  try clear aBp
  try clear aBq
  try clear aBr
  try clear aBs
  obtain ⟨kq, wI, rfl, HA, pL, bZ, HK, HB⟩ := hcut
  cases kq with
  | zero => exact absurd HA.out (by simp [Yu.j0])
  | succ nG =>
   have H := HA.out
   clear HA
   simp only [Yu.j0] at H
   by_cases dP : wI = true
   ·subst dP
    rw [if_pos rfl] at H
    simp only [Kda, Kea] at H
    obtain ⟨rfl, rfl, rfl, rfl, rfl, rfl, rfl, rfl, rfl, rfl⟩ := H
    go_wp2
    go_ret
    exact ⟨Zl, Zd, Ze, Zg⟩
   replace dP := Kx dP
   subst dP
   rw [if_neg (show ¬ (false = true) by decide)] at H
   have H' := Ya.mk H
   clear H
   go_wp2
   go_loopg [32] nG (fun kq v32 w' => ∃ (cE : Int), v32 = .int .i64 cE ∧ Ya (Yu.l0 kq cL aFI (cL.size : Int) cE cK gA gB gC gD gE gF gG gH = some (r1, r2, r3, r4, r5, r6, r7, r8, r9, uX)) ∧ Ya (kq ≤ nG) ∧ Ya (IsS53 w0 w' g cK gA gB gC gD gE gF gG gH) ∧ Ya (KeepBut w w' g none) ∧ Ya (Below w0.heap.size w0 w'))
   case atStart => exact ⟨(0), Zf, H', ⟨Kw _⟩, ⟨Zd⟩, ⟨Zg⟩, ⟨Ze⟩⟩
   case round =>
    clear H'
    try clear c1
    try clear p2
    try clear c4
    try clear c5
    try clear c6
    try clear dN
    try clear jB
    try clear c7
    try clear cW
    try clear iD
    try clear p8
    try clear q8
    try clear hx8
    try clear qi8
    try clear dP
    try clear aBb
    try clear aBc
    try clear aBd
    try clear aBe
    try clear aBf
    try clear aBg
    try clear aBh
    try clear aBi
    try clear aBj
    try clear aBk
    try clear aBl
    try clear aBm
    try clear aBn
    try clear aBo
    try clear aBp
    try clear aBq
    try clear aBr
    try clear aBs
    try clear p2
    try clear p8
    try clear q8
    obtain ⟨cE, rfl, HA, jX, bZ, HK, HB⟩ := hrel
    cases gk with
    | zero => exact absurd HA.out (by simp [Yu.l0])
    | succ k2 =>
     have H := HA.out
     clear HA
     simp only [Yu.l0] at H
     by_cases c11 : cE < (cL.size : Int)
     rotate_left
     ·rw [if_neg c11] at H
      have gT : decide (cE < (cL.size : Int)) = false := Ks c11
      clear c11
      obtain ⟨iQ, aBt, H⟩ := Ku H
      try dsimp -simprocs only at H
      have A21 := Ya.mk aBt
      clear aBt
      by_cases iF : iQ.toList = ([104, 116, 116, 112] : List UInt8)
      ·rw [if_pos iF] at H
       have lP : (iQ.toList == ([104, 116, 116, 112] : List UInt8)) = true := Kba iF
       have oN : (iQ.toList != ([104, 116, 116, 112] : List UInt8)) = false := Ky iF
       clear iF
       simp only [Kda, Kea] at H
       obtain ⟨rfl, rfl, rfl, rfl, rfl, rfl, rfl, rfl, rfl, rfl⟩ := H
       go_wp2_with (first | ((with_reducible refine Yh (f := 52) rfl ?_); refine Yca (some 55) rfl rfl Tryz.func52 Zi rfl #[.string cL] rfl Zb ?_; (with_reducible refine (Yib.calls cL iQ _ ?z1 A21.out).mono ?_); (case z1 => exact Kk); rintro e oY ⟨rfl, hb⟩; refine ⟨_, rfl, ?_⟩; replace HK := Ya.mk (KeepBut.trans Zg (KeepBut.of_below hb g none) (.inl rfl)); replace HB := Ya.mk (Yt Ze hb); replace bZ := Ya.mk (IsS53.below Zd hb); (try clear hb); obtain ⟨eU, aIc⟩ := bZ.out; have aCZ := Yfc eU; have aDa := Ymc eU; have aDb := Ync eU; have aDc := Yoc eU; have aDd := Ykc eU; have aDe := Yjc eU; have aDf := Ygc eU; have aDg := Ylc eU; have aMk := Yhc eU; obtain ⟨aDh, aDi, aDj, aDk, aDl, aDm, aDn, aDo⟩ := Ke eU; have aMl := Ye eU 8; clear eU aIc))
       go_ret
       exact ⟨Zl, Zd, Ze, Zg⟩
      rw [if_neg iF] at H
      have lP : (iQ.toList == ([104, 116, 116, 112] : List UInt8)) = false := Kz iF
      have oN : (iQ.toList != ([104, 116, 116, 112] : List UInt8)) = true := Kaa iF
      by_cases pV : iQ.toList = ([104, 116, 116, 112, 115] : List UInt8)
      rotate_left
      ·rw [if_neg pV] at H
       have tF : (iQ.toList == ([104, 116, 116, 112, 115] : List UInt8)) = false := Kz pV
       have wJ : (iQ.toList != ([104, 116, 116, 112, 115] : List UInt8)) = true := Kaa pV
       simp only [Kda, Kea] at H
       obtain ⟨rfl, rfl, rfl, rfl, rfl, rfl, rfl, rfl, rfl, rfl⟩ := H
       go_wp2_with (first | ((with_reducible refine Yh (f := 52) rfl ?_); refine Yca (some 55) rfl rfl Tryz.func52 Zi rfl #[.string cL] rfl Zb ?_; (with_reducible refine (Yib.calls cL iQ _ ?z1 A21.out).mono ?_); (case z1 => exact Kk); rintro e w28 ⟨rfl, hb⟩; refine ⟨_, rfl, ?_⟩; replace HK := Ya.mk (KeepBut.trans Zg (KeepBut.of_below hb g none) (.inl rfl)); replace HB := Ya.mk (Yt Ze hb); replace bZ := Ya.mk (IsS53.below Zd hb); (try clear hb); obtain ⟨eV, aId⟩ := bZ.out; have aMm := Yfc eV; have aMn := Ymc eV; have aMo := Ync eV; have aMp := Yoc eV; have aMq := Ykc eV; have aMr := Yjc eV; have aMs := Ygc eV; have aMt := Ylc eV; have aMu := Yhc eV; obtain ⟨aMv, aMw, aMx, aMy, aMz, aMA, aMB, aMC⟩ := Ke eV; have aMD := Ye eV 8; clear eV aId))
       go_ret
       exact ⟨Zl, Zd, Ze, Zg⟩
      rw [if_pos pV] at H
      have tF : (iQ.toList == ([104, 116, 116, 112, 115] : List UInt8)) = true := Kba pV
      have wJ : (iQ.toList != ([104, 116, 116, 112, 115] : List UInt8)) = false := Ky pV
      clear pV
      simp only [Kda, Kea] at H
      obtain ⟨rfl, rfl, rfl, rfl, rfl, rfl, rfl, rfl, rfl, rfl⟩ := H
      go_wp2_with (first | ((with_reducible refine Yh (f := 52) rfl ?_); refine Yca (some 55) rfl rfl Tryz.func52 Zi rfl #[.string cL] rfl Zb ?_; (with_reducible refine (Yib.calls cL iQ _ ?z1 A21.out).mono ?_); (case z1 => exact Kk); rintro e w26 ⟨rfl, hb⟩; refine ⟨_, rfl, ?_⟩; replace HK := Ya.mk (KeepBut.trans Zg (KeepBut.of_below hb g none) (.inl rfl)); replace HB := Ya.mk (Yt Ze hb); replace bZ := Ya.mk (IsS53.below Zd hb); (try clear hb); obtain ⟨eW, aIe⟩ := bZ.out; have wK := Yfc eW; have wL := Ymc eW; have wM := Ync eW; have wN := Yoc eW; have wO := Ykc eW; have wP := Yjc eW; have wQ := Ygc eW; have wR := Ylc eW; have aME := Yhc eW; obtain ⟨wS, wT, wU, wV, wW, wX, wY, wZ⟩ := Ke eW; have aMF := Ye eW 8; clear eW aIe))
      go_ret
      exact ⟨Zl, Zd, Ze, Zg⟩
     rw [if_pos c11] at H
     have gT : decide (cE < (cL.size : Int)) = true := Kr c11
     clear c11
     by_cases dD : 0 ≤ cE
     rotate_left
     ·rw [if_neg dD] at H
      exact absurd H Zv
     rw [if_pos dD] at H
     have dS : decide (0 ≤ cE) = true := Kr dD
     clear dD
     by_cases eM : cE < (cL.size : Int)
     rotate_left
     ·rw [if_neg eM] at H
      exact absurd H Zv
     rw [if_pos eM] at H
     have hG : decide (cE < (cL.size : Int)) = true := Kr eM
     clear eM
     obtain ⟨aFG, tG, H⟩ := Ku H
     try dsimp -simprocs only at H
     have A15 := Ya.mk tG
     clear tG
     by_cases eO : aFG = true
     ·subst eO
      rw [if_pos rfl] at H
      have H' := Ya.mk H
      clear H
      have iL : (0 ≤ (cE : Int)) = True := Kp
      have iM : cE < (cL.size : Int) := Kq Zc
      have kZ := Ybb cL cE
      replace iM := Kt iM
      go_wp2_with (first | ((with_reducible refine Yh (f := 77) rfl ?_); refine Yca (some 39) rfl rfl Tryz.func77 Zi rfl #[.int .u8 (bt cL cE)] rfl Zb ?_; (with_reducible refine (Ywa.calls (bt cL cE) true _ ?z1 A15.out).mono ?_); (case z1 => exact Kk); rintro e w' ⟨rfl, ⟨nd, rfl⟩⟩; refine ⟨_, rfl, ?_⟩))
      go_roundg k2
      case measure => have := pL.out; have := jX.out; omega
      case rel => exact ⟨(wrap64 (cE + 1)), Zf, H', ⟨Zva⟩, ⟨Zd⟩, ⟨Zg⟩, ⟨Ze⟩⟩
     replace eO := Kx eO
     subst eO
     rw [if_neg (show ¬ (false = true) by decide)] at H
     obtain ⟨aFH, oO, H⟩ := Ku H
     try dsimp -simprocs only at H
     have A17 := Ya.mk oO
     clear oO
     by_cases eP : aFH = true
     ·subst eP
      rw [if_pos rfl] at H
      have H' := Ya.mk H
      clear H
      have iL : (0 ≤ (cE : Int)) = True := Kp
      have iM : cE < (cL.size : Int) := Kq Zc
      have kZ := Ybb cL cE
      replace iM := Kt iM
      go_wp2_with (first | ((with_reducible refine Yh (f := 77) rfl ?_); refine Yca (some 39) rfl rfl Tryz.func77 Zi rfl #[.int .u8 (bt cL cE)] rfl Zb ?_; (with_reducible refine (Ywa.calls (bt cL cE) false _ ?z1 A15.out).mono ?_); (case z1 => exact Kk); rintro e w' ⟨rfl, ⟨nd, rfl⟩⟩; refine ⟨_, rfl, ?_⟩) | (go_at_call 78; (with_reducible refine (Yua.calls (bt cL cE) true _ ?z1 A17.out).mono ?_); (case z1 => exact Kk); rintro e w' ⟨rfl, ⟨nd, rfl⟩⟩))
      go_roundg k2
      case measure => have := pL.out; have := jX.out; omega
      case rel => exact ⟨(wrap64 (cE + 1)), Zf, H', ⟨Zva⟩, ⟨Zd⟩, ⟨Zg⟩, ⟨Ze⟩⟩
     replace eP := Kx eP
     subst eP
     rw [if_neg (show ¬ (false = true) by decide)] at H
     obtain ⟨vD, aIf, H⟩ := Ku H
     try dsimp -simprocs only at H
     have A19 := Ya.mk aIf
     clear aIf
     by_cases gX : vD < 0
     ·rw [if_pos gX] at H
      have kE : decide (vD < 0) = true := Kr gX
      clear gX
      simp only [Kda, Kea] at H
      obtain ⟨rfl, rfl, rfl, rfl, rfl, rfl, rfl, rfl, rfl, rfl⟩ := H
      have iL : (0 ≤ (cE : Int)) = True := Kp
      have iM : cE < (cL.size : Int) := Kq Zc
      have kZ := Ybb cL cE
      replace iM := Kt iM
      go_wp2_with (first | ((with_reducible refine Yh (f := 77) rfl ?_); refine Yca (some 39) rfl rfl Tryz.func77 Zi rfl #[.int .u8 (bt cL cE)] rfl Zb ?_; (with_reducible refine (Ywa.calls (bt cL cE) false _ ?z1 A15.out).mono ?_); (case z1 => exact Kk); rintro e w' ⟨rfl, ⟨nd, rfl⟩⟩; refine ⟨_, rfl, ?_⟩) | (go_at_call 78; (with_reducible refine (Yua.calls (bt cL cE) false _ ?z1 A17.out).mono ?_); (case z1 => exact Kk); rintro e w' ⟨rfl, ⟨nd, rfl⟩⟩) | (go_at_call 79; (with_reducible refine (strings_IndexByte.calls (⟨#[43, 45, 46]⟩ : Y) (bt cL cE) vD _ ?z1 A19.out).mono ?_); (case z1 => exact Kk); rintro e w' ⟨rfl, ⟨nd, rfl⟩⟩))
      go_ret
      exact ⟨Zl, Zd, Ze, Zg⟩
     rw [if_neg gX] at H
     have kE : decide (vD < 0) = false := Ks gX
     clear gX
     have H' := Ya.mk H
     clear H
     have iL : (0 ≤ (cE : Int)) = True := Kp
     have iM : cE < (cL.size : Int) := Kq Zc
     have kZ := Ybb cL cE
     replace iM := Kt iM
     go_wp2_with (first | ((with_reducible refine Yh (f := 77) rfl ?_); refine Yca (some 39) rfl rfl Tryz.func77 Zi rfl #[.int .u8 (bt cL cE)] rfl Zb ?_; (with_reducible refine (Ywa.calls (bt cL cE) false _ ?z1 A15.out).mono ?_); (case z1 => exact Kk); rintro e w' ⟨rfl, ⟨nd, rfl⟩⟩; refine ⟨_, rfl, ?_⟩) | (go_at_call 78; (with_reducible refine (Yua.calls (bt cL cE) false _ ?z1 A17.out).mono ?_); (case z1 => exact Kk); rintro e w' ⟨rfl, ⟨nd, rfl⟩⟩) | (go_at_call 79; (with_reducible refine (strings_IndexByte.calls (⟨#[43, 45, 46]⟩ : Y) (bt cL cE) vD _ ?z1 A19.out).mono ?_); (case z1 => exact Kk); rintro e w' ⟨rfl, ⟨nd, rfl⟩⟩))
     go_roundg k2
     case measure => have := pL.out; have := jX.out; omega
     case rel => exact ⟨(wrap64 (cE + 1)), Zf, H', ⟨Zva⟩, ⟨Zd⟩, ⟨Zg⟩, ⟨Ze⟩⟩
def Ywe.f (k : Nat) (a0 : Y) : Option (Y × Int) := (Yce.f a0).bind fun lA => ((Yib.f lA).bind fun iG => (if iG.toList = ([] : List UInt8) then (some ((⟨#[]⟩ : Y), 4)) else ((Yob.f k iG).bind fun aBu => (if aBu = true then (some (iG, 0)) else (some ((⟨#[]⟩ : Y), 17))))))
theorem Ywe.calls (k : Nat) (a0 r1 : Y) (r2 : Int) (w : World) (hE : EnvOk w) (h : Ywe.f k a0 = some (r1, r2)) :
  Calls Tryz.prog 19 #[.string a0] w fun e w' => e = .returned (.tuple #[.string r1, .int .i64 r2]) ∧ Below w.heap.size w w' := by
 have HE := Ya.mk hE
 clear hE
 have HB := Ya.mk (Below.refl w.heap.size w)
 have H : ((Yce.f a0).bind fun lA => ((Yib.f lA).bind fun iG => (if iG.toList = ([] : List UInt8) then (some ((⟨#[]⟩ : Y), 4)) else ((Yob.f k iG).bind fun aBu => (if aBu = true then (some (iG, 0)) else (some ((⟨#[]⟩ : Y), 17))))))) = some (r1, r2) := h
 clear h
 obtain ⟨lA, dW, H⟩ := Ku H
 try dsimp -simprocs only at H
 have A2 := Ya.mk dW
 clear dW
 obtain ⟨iG, jC, H⟩ := Ku H
 try dsimp -simprocs only at H
 have A3 := Ya.mk jC
 clear jC
 by_cases c4 : iG.toList = ([] : List UInt8)
 ·rw [if_pos c4] at H
  have bX : (iG.toList == ([] : List UInt8)) = true := Kba c4
  have jJ : (iG.toList != ([] : List UInt8)) = false := Ky c4
  clear c4
  simp only [Kda, Kea] at H
  obtain ⟨rfl, rfl⟩ := H
  go_enter Tryz.func19, Tryz.ntmps19
  go_wp2_with (first | ((with_reducible refine Yh (f := 53) rfl ?_); refine Yca (some 5) rfl rfl Tryz.func53 Zi rfl #[.string a0] rfl Zb ?_; (with_reducible refine (Yce.calls a0 lA _ ?z1 A2.out).mono ?_); (case z1 => exact Kh); rintro e w5 ⟨rfl, hb⟩; refine ⟨_, rfl, ?_⟩; replace HB := Ya.mk (Yt Za hb); (try clear hb)) | ((with_reducible refine Yh (f := 52) rfl ?_); refine Yca (some 6) rfl rfl Tryz.func52 Zi rfl #[.string lA] rfl Zb ?_; (with_reducible refine (Yib.calls lA iG _ ?z1 A3.out).mono ?_); (case z1 => exact Kh); rintro e w6 ⟨rfl, hb⟩; refine ⟨_, rfl, ?_⟩; replace HB := Ya.mk (Yt Za hb); (try clear hb)))
  go_ret2
  exact ⟨Zl, Za⟩
 rw [if_neg c4] at H
 have bX : (iG.toList == ([] : List UInt8)) = false := Kz c4
 have jJ : (iG.toList != ([] : List UInt8)) = true := Kaa c4
 obtain ⟨aBu, oA, H⟩ := Ku H
 try dsimp -simprocs only at H
 have A7 := Ya.mk oA
 clear oA
 by_cases c8 : aBu = true
 ·subst c8
  rw [if_pos rfl] at H
  simp only [Kda, Kea] at H
  obtain ⟨rfl, rfl⟩ := H
  go_enter Tryz.func19, Tryz.ntmps19
  go_wp2_with (first | ((with_reducible refine Yh (f := 53) rfl ?_); refine Yca (some 5) rfl rfl Tryz.func53 Zi rfl #[.string a0] rfl Zb ?_; (with_reducible refine (Yce.calls a0 lA _ ?z1 A2.out).mono ?_); (case z1 => exact Kh); rintro e w9 ⟨rfl, hb⟩; refine ⟨_, rfl, ?_⟩; replace HB := Ya.mk (Yt Za hb); (try clear hb)) | ((with_reducible refine Yh (f := 52) rfl ?_); refine Yca (some 6) rfl rfl Tryz.func52 Zi rfl #[.string lA] rfl Zb ?_; (with_reducible refine (Yib.calls lA iG _ ?z1 A3.out).mono ?_); (case z1 => exact Kh); rintro e pN ⟨rfl, hb⟩; refine ⟨_, rfl, ?_⟩; replace HB := Ya.mk (Yt Za hb); (try clear hb)) | ((with_reducible refine Yh (f := 54) rfl ?_); refine Yca (some 12) rfl rfl Tryz.func54 Zi rfl #[.string iG] rfl Zb ?_; (with_reducible refine (Yob.calls k iG true _ ?z1 A7.out).mono ?_); (case z1 => exact Kh); rintro e w11 ⟨rfl, hb⟩; refine ⟨_, rfl, ?_⟩; replace HB := Ya.mk (Yt Za hb); (try clear hb)))
  go_ret2
  exact ⟨Zl, Za⟩
 replace c8 := Kx c8
 subst c8
 rw [if_neg (show ¬ (false = true) by decide)] at H
 simp only [Kda, Kea] at H
 obtain ⟨rfl, rfl⟩ := H
 go_enter Tryz.func19, Tryz.ntmps19
 go_wp2_with (first | ((with_reducible refine Yh (f := 53) rfl ?_); refine Yca (some 5) rfl rfl Tryz.func53 Zi rfl #[.string a0] rfl Zb ?_; (with_reducible refine (Yce.calls a0 lA _ ?z1 A2.out).mono ?_); (case z1 => exact Kh); rintro e uS ⟨rfl, hb⟩; refine ⟨_, rfl, ?_⟩; replace HB := Ya.mk (Yt Za hb); (try clear hb)) | ((with_reducible refine Yh (f := 52) rfl ?_); refine Yca (some 6) rfl rfl Tryz.func52 Zi rfl #[.string lA] rfl Zb ?_; (with_reducible refine (Yib.calls lA iG _ ?z1 A3.out).mono ?_); (case z1 => exact Kh); rintro e nH ⟨rfl, hb⟩; refine ⟨_, rfl, ?_⟩; replace HB := Ya.mk (Yt Za hb); (try clear hb)) | ((with_reducible refine Yh (f := 54) rfl ?_); refine Yca (some 12) rfl rfl Tryz.func54 Zi rfl #[.string iG] rfl Zb ?_; (with_reducible refine (Yob.calls k iG false _ ?z1 A7.out).mono ?_); (case z1 => exact Kh); rintro e w14 ⟨rfl, hb⟩; refine ⟨_, rfl, ?_⟩; replace HB := Ya.mk (Yt Za hb); (try clear hb)))
 go_ret2
 exact ⟨Zl, Za⟩
def Yjf.f (k : Nat) (cK gA gB : Y) (gC : Int) (gD gE gF : Y) (gG gH : Bool) : Option (Int × Y × Y × Y × Int × Y × Y × Y × Bool × Bool) := (strings_IndexAny.f cK (⟨#[47, 92]⟩ : Y)).bind fun jL => (if jL = 0 then ((Ypc.f cK (⟨#[47, 92]⟩ : Y)).bind fun jM => ((Yec.f jM gA gB gC gD gE gF gG gH (⟨#[47, 92, 63, 35]⟩ : Y)).bind fun aZ => ((strings_IndexByte.f aZ.1 64).bind fun lB => (if lB ≥ 0 then (some (3, aZ.2.1, aZ.2.2.1, aZ.2.2.2.1, aZ.2.2.2.2.1, aZ.2.2.2.2.2.1, aZ.2.2.2.2.2.2.1, aZ.2.2.2.2.2.2.2.1, aZ.2.2.2.2.2.2.2.2.1, aZ.2.2.2.2.2.2.2.2.2)) else ((strings_Cut.f aZ.1 (⟨#[58]⟩ : Y)).bind fun oP => ((Ywe.f k oP.1).bind fun iH => (if iH.2 = 0 then (if oP.2.1.toList = ([] : List UInt8) then (some (0, aZ.2.1, aZ.2.2.1, iH.1, aZ.2.2.2.2.1, aZ.2.2.2.2.2.1, aZ.2.2.2.2.2.2.1, aZ.2.2.2.2.2.2.2.1, aZ.2.2.2.2.2.2.2.2.1, aZ.2.2.2.2.2.2.2.2.2)) else ((Yja.f k oP.2.1 65535).bind fun oQ => (if oQ.2 = 0 then ((Yjg.f aZ.2.2.1).bind fun oR => (if oQ.1 = oR then (some (0, aZ.2.1, aZ.2.2.1, iH.1, aZ.2.2.2.2.1, aZ.2.2.2.2.2.1, aZ.2.2.2.2.2.2.1, aZ.2.2.2.2.2.2.2.1, aZ.2.2.2.2.2.2.2.2.1, aZ.2.2.2.2.2.2.2.2.2)) else (some (0, aZ.2.1, aZ.2.2.1, iH.1, oQ.1, aZ.2.2.2.2.2.1, aZ.2.2.2.2.2.2.1, aZ.2.2.2.2.2.2.2.1, aZ.2.2.2.2.2.2.2.2.1, aZ.2.2.2.2.2.2.2.2.2)))) else (some (3, aZ.2.1, aZ.2.2.1, iH.1, aZ.2.2.2.2.1, aZ.2.2.2.2.2.1, aZ.2.2.2.2.2.2.1, aZ.2.2.2.2.2.2.2.1, aZ.2.2.2.2.2.2.2.2.1, aZ.2.2.2.2.2.2.2.2.2))))) else (some (iH.2, aZ.2.1, aZ.2.2.1, aZ.2.2.2.1, aZ.2.2.2.2.1, aZ.2.2.2.2.2.1, aZ.2.2.2.2.2.2.1, aZ.2.2.2.2.2.2.2.1, aZ.2.2.2.2.2.2.2.2.1, aZ.2.2.2.2.2.2.2.2.2))))))))) else (some (3, cK, gA, gB, gC, gD, gE, gF, gG, gH)))
theorem Yjf.calls (k g : Nat) (cK gA gB : Y) (gC : Int) (gD gE gF : Y) (gG gH : Bool) (r1 : Int) (r2 r3 r4 : Y) (r5 : Int) (r6 r7 r8 : Y) (r9 uX : Bool) (w0 w : World) (hE : EnvOk w0) (hI : IsS53 w0 w g cK gA gB gC gD gE gF gG gH) (hB : Below w0.heap.size w0 w) (h : Yjf.f k cK gA gB gC gD gE gF gG gH = some (r1, r2, r3, r4, r5, r6, r7, r8, r9, uX)) :
  Calls Tryz.prog 44 #[.pointer (some ⟨g, 0, none⟩)] w fun e w' => e = .returned (.int .i64 r1) ∧ IsS53 w0 w' g r2 r3 r4 r5 r6 r7 r8 r9 uX ∧ Below w0.heap.size w0 w' ∧ KeepBut w w' g none := by
 have bZ := Ya.mk hI
 have HK := Ya.mk (KeepBut.refl w g none)
 have HL := Ya.mk hB.size
 clear hI
 have HE := Ya.mk hE
 clear hE
 have HW0 := Ya.mk hB.size
 have HB := Ya.mk hB
 clear hB
 have H : ((strings_IndexAny.f cK (⟨#[47, 92]⟩ : Y)).bind fun jL => (if jL = 0 then ((Ypc.f cK (⟨#[47, 92]⟩ : Y)).bind fun jM => ((Yec.f jM gA gB gC gD gE gF gG gH (⟨#[47, 92, 63, 35]⟩ : Y)).bind fun aZ => ((strings_IndexByte.f aZ.1 64).bind fun lB => (if lB ≥ 0 then (some (3, aZ.2.1, aZ.2.2.1, aZ.2.2.2.1, aZ.2.2.2.2.1, aZ.2.2.2.2.2.1, aZ.2.2.2.2.2.2.1, aZ.2.2.2.2.2.2.2.1, aZ.2.2.2.2.2.2.2.2.1, aZ.2.2.2.2.2.2.2.2.2)) else ((strings_Cut.f aZ.1 (⟨#[58]⟩ : Y)).bind fun oP => ((Ywe.f k oP.1).bind fun iH => (if iH.2 = 0 then (if oP.2.1.toList = ([] : List UInt8) then (some (0, aZ.2.1, aZ.2.2.1, iH.1, aZ.2.2.2.2.1, aZ.2.2.2.2.2.1, aZ.2.2.2.2.2.2.1, aZ.2.2.2.2.2.2.2.1, aZ.2.2.2.2.2.2.2.2.1, aZ.2.2.2.2.2.2.2.2.2)) else ((Yja.f k oP.2.1 65535).bind fun oQ => (if oQ.2 = 0 then ((Yjg.f aZ.2.2.1).bind fun oR => (if oQ.1 = oR then (some (0, aZ.2.1, aZ.2.2.1, iH.1, aZ.2.2.2.2.1, aZ.2.2.2.2.2.1, aZ.2.2.2.2.2.2.1, aZ.2.2.2.2.2.2.2.1, aZ.2.2.2.2.2.2.2.2.1, aZ.2.2.2.2.2.2.2.2.2)) else (some (0, aZ.2.1, aZ.2.2.1, iH.1, oQ.1, aZ.2.2.2.2.2.1, aZ.2.2.2.2.2.2.1, aZ.2.2.2.2.2.2.2.1, aZ.2.2.2.2.2.2.2.2.1, aZ.2.2.2.2.2.2.2.2.2)))) else (some (3, aZ.2.1, aZ.2.2.1, iH.1, aZ.2.2.2.2.1, aZ.2.2.2.2.2.1, aZ.2.2.2.2.2.2.1, aZ.2.2.2.2.2.2.2.1, aZ.2.2.2.2.2.2.2.2.1, aZ.2.2.2.2.2.2.2.2.2))))) else (some (iH.2, aZ.2.1, aZ.2.2.1, aZ.2.2.2.1, aZ.2.2.2.2.1, aZ.2.2.2.2.2.1, aZ.2.2.2.2.2.2.1, aZ.2.2.2.2.2.2.2.1, aZ.2.2.2.2.2.2.2.2.1, aZ.2.2.2.2.2.2.2.2.2))))))))) else (some (3, cK, gA, gB, gC, gD, gE, gF, gG, gH)))) = some (r1, r2, r3, r4, r5, r6, r7, r8, r9, uX) := h
 clear h
 obtain ⟨jL, dW, H⟩ := Ku H
 try dsimp -simprocs only at H
 have A2 := Ya.mk dW
 clear dW
 by_cases c3 : jL = 0
 rotate_left
 ·rw [if_neg c3] at H
  have cC : (jL == 0) = false := Kz c3
  have fX : (jL != 0) = true := Kaa c3
  simp only [Kda, Kea] at H
  obtain ⟨rfl, rfl, rfl, rfl, rfl, rfl, rfl, rfl, rfl, rfl⟩ := H
  obtain ⟨eX, aIg⟩ := bZ.out
  have aMG := Yfc eX
  have aMH := Ymc eX
  have aMI := Ync eX
  have aMJ := Yoc eX
  have aMK := Ykc eX
  have aML := Yjc eX
  have aMM := Ygc eX
  have aMN := Ylc eX
  have aMO := Yhc eX
  obtain ⟨aMP, aMQ, aMR, aMS, aMT, aMU, aMV, aMW⟩ := Ke eX
  have aMX := Ye eX 8
  clear eX aIg
  go_enter Tryz.func44, Tryz.ntmps44
  go_wp2_with (first | ((with_reducible refine Yh (f := 80) rfl ?_); refine Yca (some 15) rfl rfl Tryz.func80 Zi rfl #[.string cK, .string (⟨#[47, 92]⟩ : Y)] rfl Zb ?_; (with_reducible refine (strings_IndexAny.calls cK (⟨#[47, 92]⟩ : Y) jL _ ?z1 A2.out).mono ?_); (case z1 => exact Kk); rintro e w62 ⟨rfl, hb⟩; refine ⟨_, rfl, ?_⟩; replace HK := Ya.mk (KeepBut.trans Zg (KeepBut.of_below hb g none) (.inl rfl)); replace HB := Ya.mk (Yt Ze hb); replace bZ := Ya.mk (IsS53.below Zd hb); (try clear hb)))
  go_ret
  exact ⟨Zl, Zd, Ze, Zg⟩
 rw [if_pos c3] at H
 have cC : (jL == 0) = true := Kba c3
 have fX : (jL != 0) = false := Ky c3
 clear c3
 obtain ⟨jM, sY, H⟩ := Ku H
 try dsimp -simprocs only at H
 have A4 := Ya.mk sY
 clear sY
 obtain ⟨⟨fY, kG, iY, kH, kK, kM, kN, kO, kP, kQ⟩, tH, H⟩ := Ku H
 try dsimp -simprocs only at H
 have A5 := Ya.mk tH
 clear tH
 obtain ⟨lB, pQ, H⟩ := Ku H
 try dsimp -simprocs only at H
 have A6 := Ya.mk pQ
 clear pQ
 by_cases c7 : lB ≥ 0
 ·rw [if_pos c7] at H
  have cW : decide (0 ≤ lB) = true := Kr c7
  clear c7
  simp only [Kda, Kea] at H
  obtain ⟨rfl, rfl, rfl, rfl, rfl, rfl, rfl, rfl, rfl, rfl⟩ := H
  obtain ⟨iS, aVp⟩ := bZ.out
  have aVq := Yfc iS
  have aVr := Ymc iS
  have aVs := Ync iS
  have aVt := Yoc iS
  have aVu := Ykc iS
  have aVv := Yjc iS
  have aVw := Ygc iS
  have aVx := Ylc iS
  have aVy := Yhc iS
  obtain ⟨aVz, aVA, aVB, aVC, aVD, aVE, aVF, aVG⟩ := Ke iS
  have aVH := Ye iS 8
  clear iS aVp
  go_enter Tryz.func44, Tryz.ntmps44
  go_wp2_with (first | ((with_reducible refine Yh (f := 80) rfl ?_); refine Yca (some 15) rfl rfl Tryz.func80 Zi rfl #[.string cK, .string (⟨#[47, 92]⟩ : Y)] rfl Zb ?_; (with_reducible refine (strings_IndexAny.calls cK (⟨#[47, 92]⟩ : Y) jL _ ?z1 A2.out).mono ?_); (case z1 => exact Kk); rintro e w9 ⟨rfl, hb⟩; refine ⟨_, rfl, ?_⟩; replace HK := Ya.mk (KeepBut.trans Zg (KeepBut.of_below hb g none) (.inl rfl)); replace HB := Ya.mk (Yt Ze hb); replace bZ := Ya.mk (IsS53.below Zd hb); (try clear hb); obtain ⟨eY, aIh⟩ := bZ.out; have aMY := Yfc eY; have aMZ := Ymc eY; have aNa := Ync eY; have aNb := Yoc eY; have aNc := Ykc eY; have aNd := Yjc eY; have aNe := Ygc eY; have aNf := Ylc eY; have aNg := Yhc eY; obtain ⟨aNh, aNi, aNj, aNk, aNl, aNm, aNn, aNo⟩ := Ke eY; have aNp := Ye eY 8; clear eY aIh) | ((with_reducible refine Yh (f := 81) rfl ?_); refine Yca (some 23) rfl rfl Tryz.func81 Zi rfl #[.string cK, .string (⟨#[47, 92]⟩ : Y)] rfl Zb ?_; (with_reducible refine (Ypc.calls cK (⟨#[47, 92]⟩ : Y) jM _ ?z1 A4.out).mono ?_); (case z1 => exact Kk); rintro e w11 ⟨rfl, hb⟩; refine ⟨_, rfl, ?_⟩; replace HK := Ya.mk (KeepBut.trans Zg (KeepBut.of_below hb g none) (.inl rfl)); replace HB := Ya.mk (Yt Ze hb); replace bZ := Ya.mk (IsS53.below Zd hb); (try clear hb); obtain ⟨eZ, aIi⟩ := bZ.out; have xA := Yfc eZ; have xB := Ymc eZ; have xC := Ync eZ; have xD := Yoc eZ; have xE := Ykc eZ; have xF := Yjc eZ; have xG := Ygc eZ; have xH := Ylc eZ; have aNq := Yhc eZ; obtain ⟨xI, xJ, xK, xL, xM, xN, xO, xP⟩ := Ke eZ; have aNr := Ye eZ 8; clear eZ aIi) | ((with_reducible refine Yh (f := 82) rfl ?_); refine Yca (some 30) rfl rfl Tryz.func82 Zi rfl #[.pointer (some ⟨g, 0, none⟩), .string (⟨#[47, 92, 63, 35]⟩ : Y)] rfl Zb ?_; (with_reducible refine (Yec.calls g jM gA gB gC gD gE gF gG gH (⟨#[47, 92, 63, 35]⟩ : Y) fY kG iY kH kK kM kN kO kP kQ w0 _ ?z1 ?z2 ?z3 A5.out).mono ?_); (case z1 => exact HE.out); (case z2 => repeat (first | (with_reducible first | exact bZ.out | apply IsS53.alloc | apply IsS53.drewN | apply IsS53.drew | apply IsS53.set_0 | apply IsS53.set_1 | apply IsS53.set_2 | apply IsS53.set_3 | apply IsS53.set_4 | apply IsS53.set_5 | apply IsS53.set_6 | apply IsS53.set_7 | apply IsS53.set_8) | exact bZ.out)); (case z3 => repeat (first | (with_reducible first | exact HB.out | apply Yd | apply Yb | apply Yc | refine Yg ?_ (IsS53.ge bZ.out)) | exact HB.out)); rintro e nH ⟨rfl, hi, hb, hk⟩; refine ⟨_, rfl, ?_⟩; replace HK := Ya.mk (KeepBut.trans Zg hk (.inl rfl)); replace HB := Ya.mk (hb); replace bZ := Ya.mk (hi); (try clear hb); (try clear hk); (try clear hi)) | ((with_reducible refine Yh (f := 79) rfl ?_); refine Yca (some 32) rfl rfl Tryz.func79 Zi rfl #[.string fY, .int .u8 64] rfl Zb ?_; (with_reducible refine (strings_IndexByte.calls fY 64 lB _ ?z1 A6.out).mono ?_); (case z1 => exact Kk); rintro e w' ⟨rfl, ⟨nd, rfl⟩⟩; refine ⟨_, rfl, ?_⟩))
  go_ret
  exact ⟨Zl, Zd, Ze, Zg⟩
 rw [if_neg c7] at H
 have cW : decide (0 ≤ lB) = false := Ks c7
 clear c7
 obtain ⟨⟨kA, jN, aBv⟩, aBw, H⟩ := Ku H
 try dsimp -simprocs only at H
 have A14 := Ya.mk aBw
 clear aBw
 obtain ⟨⟨aBx, pB⟩, tG, H⟩ := Ku H
 try dsimp -simprocs only at H
 have A15 := Ya.mk tG
 clear tG
 by_cases eO : pB = 0
 rotate_left
 ·rw [if_neg eO] at H
  have hF : (pB == 0) = false := Kz eO
  have kF : (pB != 0) = true := Kaa eO
  simp only [Kda, Kea] at H
  obtain ⟨rfl, rfl, rfl, rfl, rfl, rfl, rfl, rfl, rfl, rfl⟩ := H
  obtain ⟨fA, aIj⟩ := bZ.out
  have aNs := Yfc fA
  have aNt := Ymc fA
  have aNu := Ync fA
  have aNv := Yoc fA
  have aNw := Ykc fA
  have aNx := Yjc fA
  have aNy := Ygc fA
  have aNz := Ylc fA
  have aNA := Yhc fA
  obtain ⟨aNB, aNC, aND, aNE, aNF, aNG, aNH, aNI⟩ := Ke fA
  have aNJ := Ye fA 8
  clear fA aIj
  go_enter Tryz.func44, Tryz.ntmps44
  go_wp2_with (first | ((with_reducible refine Yh (f := 80) rfl ?_); refine Yca (some 15) rfl rfl Tryz.func80 Zi rfl #[.string cK, .string (⟨#[47, 92]⟩ : Y)] rfl Zb ?_; (with_reducible refine (strings_IndexAny.calls cK (⟨#[47, 92]⟩ : Y) jL _ ?z1 A2.out).mono ?_); (case z1 => exact Kk); rintro e w55 ⟨rfl, hb⟩; refine ⟨_, rfl, ?_⟩; replace HK := Ya.mk (KeepBut.trans Zg (KeepBut.of_below hb g none) (.inl rfl)); replace HB := Ya.mk (Yt Ze hb); replace bZ := Ya.mk (IsS53.below Zd hb); (try clear hb); obtain ⟨fB, aIk⟩ := bZ.out; have aNK := Yfc fB; have aNL := Ymc fB; have aNM := Ync fB; have aNN := Yoc fB; have aNO := Ykc fB; have aNP := Yjc fB; have aNQ := Ygc fB; have aNR := Ylc fB; have aNS := Yhc fB; obtain ⟨aNT, aNU, aNV, aNW, aNX, aNY, aNZ, aOa⟩ := Ke fB; have aOb := Ye fB 8; clear fB aIk) | ((with_reducible refine Yh (f := 81) rfl ?_); refine Yca (some 23) rfl rfl Tryz.func81 Zi rfl #[.string cK, .string (⟨#[47, 92]⟩ : Y)] rfl Zb ?_; (with_reducible refine (Ypc.calls cK (⟨#[47, 92]⟩ : Y) jM _ ?z1 A4.out).mono ?_); (case z1 => exact Kk); rintro e w57 ⟨rfl, hb⟩; refine ⟨_, rfl, ?_⟩; replace HK := Ya.mk (KeepBut.trans Zg (KeepBut.of_below hb g none) (.inl rfl)); replace HB := Ya.mk (Yt Ze hb); replace bZ := Ya.mk (IsS53.below Zd hb); (try clear hb); obtain ⟨fC, aIl⟩ := bZ.out; have aOc := Yfc fC; have aOd := Ymc fC; have aOe := Ync fC; have aOf := Yoc fC; have aOg := Ykc fC; have aOh := Yjc fC; have aOi := Ygc fC; have aOj := Ylc fC; have aOk := Yhc fC; obtain ⟨aOl, aOm, aOn, aOo, aOp, aOq, aOr, aOs⟩ := Ke fC; have aOt := Ye fC 8; clear fC aIl) | ((with_reducible refine Yh (f := 82) rfl ?_); refine Yca (some 30) rfl rfl Tryz.func82 Zi rfl #[.pointer (some ⟨g, 0, none⟩), .string (⟨#[47, 92, 63, 35]⟩ : Y)] rfl Zb ?_; (with_reducible refine (Yec.calls g jM gA gB gC gD gE gF gG gH (⟨#[47, 92, 63, 35]⟩ : Y) fY kG iY kH kK kM kN kO kP kQ w0 _ ?z1 ?z2 ?z3 A5.out).mono ?_); (case z1 => exact HE.out); (case z2 => repeat (first | (with_reducible first | exact bZ.out | apply IsS53.alloc | apply IsS53.drewN | apply IsS53.drew | apply IsS53.set_0 | apply IsS53.set_1 | apply IsS53.set_2 | apply IsS53.set_3 | apply IsS53.set_4 | apply IsS53.set_5 | apply IsS53.set_6 | apply IsS53.set_7 | apply IsS53.set_8) | exact bZ.out)); (case z3 => repeat (first | (with_reducible first | exact HB.out | apply Yd | apply Yb | apply Yc | refine Yg ?_ (IsS53.ge bZ.out)) | exact HB.out)); rintro e w59 ⟨rfl, hi, hb, hk⟩; refine ⟨_, rfl, ?_⟩; replace HK := Ya.mk (KeepBut.trans Zg hk (.inl rfl)); replace HB := Ya.mk (hb); replace bZ := Ya.mk (hi); (try clear hb); (try clear hk); (try clear hi)) | ((with_reducible refine Yh (f := 79) rfl ?_); refine Yca (some 32) rfl rfl Tryz.func79 Zi rfl #[.string fY, .int .u8 64] rfl Zb ?_; (with_reducible refine (strings_IndexByte.calls fY 64 lB _ ?z1 A6.out).mono ?_); (case z1 => exact Kk); rintro e w' ⟨rfl, ⟨nd, rfl⟩⟩; refine ⟨_, rfl, ?_⟩) | ((with_reducible refine Yh (f := 76) rfl ?_); refine Yca (some 36) rfl rfl Tryz.func76 Zi rfl #[.string fY, .string (⟨#[58]⟩ : Y)] rfl Zb ?_; (with_reducible refine (strings_Cut.calls fY (⟨#[58]⟩ : Y) kA jN aBv _ ?z1 A14.out).mono ?_); (case z1 => exact Kk); rintro e w' ⟨rfl, ⟨nd, rfl⟩⟩; refine ⟨_, rfl, ?_⟩) | ((with_reducible refine Yh (f := 19) rfl ?_); refine Yca (some 42) rfl rfl Tryz.func19 Zi rfl #[.string kA] rfl Zb ?_; (with_reducible refine (Ywe.calls k kA aBx pB _ ?z1 A15.out).mono ?_); (case z1 => exact Kk); rintro e w60 ⟨rfl, hb⟩; refine ⟨_, rfl, ?_⟩; replace HK := Ya.mk (KeepBut.trans Zg (KeepBut.of_below hb g none) (.inl rfl)); replace HB := Ya.mk (Yt Ze hb); replace bZ := Ya.mk (IsS53.below Zd hb); (try clear hb)))
  go_ret
  exact ⟨Zl, Zd, Ze, Zg⟩
 rw [if_pos eO] at H
 have hF : (pB == 0) = true := Kba eO
 have kF : (pB != 0) = false := Ky eO
 clear eO
 by_cases eG : jN.toList = ([] : List UInt8)
 ·rw [if_pos eG] at H
  have jO : (jN.toList == ([] : List UInt8)) = true := Kba eG
  have lN : (jN.toList != ([] : List UInt8)) = false := Ky eG
  clear eG
  simp only [Kda, Kea] at H
  obtain ⟨rfl, rfl, rfl, rfl, rfl, rfl, rfl, rfl, rfl, rfl⟩ := H
  obtain ⟨fD, aIm⟩ := bZ.out
  have aOu := Yfc fD
  have aOv := Ymc fD
  have aOw := Ync fD
  have aOx := Yoc fD
  have aOy := Ykc fD
  have aOz := Yjc fD
  have aOA := Ygc fD
  have aOB := Ylc fD
  have aOC := Yhc fD
  obtain ⟨aOD, aOE, aOF, aOG, aOH, aOI, aOJ, aOK⟩ := Ke fD
  have aOL := Ye fD 8
  clear fD aIm
  go_enter Tryz.func44, Tryz.ntmps44
  go_wp2_with (first | ((with_reducible refine Yh (f := 80) rfl ?_); refine Yca (some 15) rfl rfl Tryz.func80 Zi rfl #[.string cK, .string (⟨#[47, 92]⟩ : Y)] rfl Zb ?_; (with_reducible refine (strings_IndexAny.calls cK (⟨#[47, 92]⟩ : Y) jL _ ?z1 A2.out).mono ?_); (case z1 => exact Kk); rintro e w19 ⟨rfl, hb⟩; refine ⟨_, rfl, ?_⟩; replace HK := Ya.mk (KeepBut.trans Zg (KeepBut.of_below hb g none) (.inl rfl)); replace HB := Ya.mk (Yt Ze hb); replace bZ := Ya.mk (IsS53.below Zd hb); (try clear hb); obtain ⟨fE, aIn⟩ := bZ.out; have aDu := Yfc fE; have aDv := Ymc fE; have aDw := Ync fE; have aDx := Yoc fE; have aDy := Ykc fE; have aDz := Yjc fE; have aDA := Ygc fE; have aDB := Ylc fE; have aOM := Yhc fE; obtain ⟨aDC, aDD, aDE, aDF, aDG, aDH, aDI, aDJ⟩ := Ke fE; have aON := Ye fE 8; clear fE aIn) | ((with_reducible refine Yh (f := 81) rfl ?_); refine Yca (some 23) rfl rfl Tryz.func81 Zi rfl #[.string cK, .string (⟨#[47, 92]⟩ : Y)] rfl Zb ?_; (with_reducible refine (Ypc.calls cK (⟨#[47, 92]⟩ : Y) jM _ ?z1 A4.out).mono ?_); (case z1 => exact Kk); rintro e w21 ⟨rfl, hb⟩; refine ⟨_, rfl, ?_⟩; replace HK := Ya.mk (KeepBut.trans Zg (KeepBut.of_below hb g none) (.inl rfl)); replace HB := Ya.mk (Yt Ze hb); replace bZ := Ya.mk (IsS53.below Zd hb); (try clear hb); obtain ⟨fF, aIo⟩ := bZ.out; have aOO := Yfc fF; have aOP := Ymc fF; have aOQ := Ync fF; have aOR := Yoc fF; have aOS := Ykc fF; have aOT := Yjc fF; have aOU := Ygc fF; have aOV := Ylc fF; have aOW := Yhc fF; obtain ⟨aOX, aOY, aOZ, aPa, aPb, aPc, aPd, aPe⟩ := Ke fF; have aPf := Ye fF 8; clear fF aIo) | ((with_reducible refine Yh (f := 82) rfl ?_); refine Yca (some 30) rfl rfl Tryz.func82 Zi rfl #[.pointer (some ⟨g, 0, none⟩), .string (⟨#[47, 92, 63, 35]⟩ : Y)] rfl Zb ?_; (with_reducible refine (Yec.calls g jM gA gB gC gD gE gF gG gH (⟨#[47, 92, 63, 35]⟩ : Y) fY kG iY kH kK kM kN kO kP kQ w0 _ ?z1 ?z2 ?z3 A5.out).mono ?_); (case z1 => exact HE.out); (case z2 => repeat (first | (with_reducible first | exact bZ.out | apply IsS53.alloc | apply IsS53.drewN | apply IsS53.drew | apply IsS53.set_0 | apply IsS53.set_1 | apply IsS53.set_2 | apply IsS53.set_3 | apply IsS53.set_4 | apply IsS53.set_5 | apply IsS53.set_6 | apply IsS53.set_7 | apply IsS53.set_8) | exact bZ.out)); (case z3 => repeat (first | (with_reducible first | exact HB.out | apply Yd | apply Yb | apply Yc | refine Yg ?_ (IsS53.ge bZ.out)) | exact HB.out)); rintro e oY ⟨rfl, hi, hb, hk⟩; refine ⟨_, rfl, ?_⟩; replace HK := Ya.mk (KeepBut.trans Zg hk (.inl rfl)); replace HB := Ya.mk (hb); replace bZ := Ya.mk (hi); (try clear hb); (try clear hk); (try clear hi)) | ((with_reducible refine Yh (f := 79) rfl ?_); refine Yca (some 32) rfl rfl Tryz.func79 Zi rfl #[.string fY, .int .u8 64] rfl Zb ?_; (with_reducible refine (strings_IndexByte.calls fY 64 lB _ ?z1 A6.out).mono ?_); (case z1 => exact Kk); rintro e w' ⟨rfl, ⟨nd, rfl⟩⟩; refine ⟨_, rfl, ?_⟩; (try (rw [Yfg oY]; generalize hq_ : World.drewN oY _ = oY; have aH : Ya (IsS53 w0 oY g kG iY kH kK kM kN kO kP kQ) := ⟨Zn⟩; have aR : Ya (KeepBut w oY g none) := ⟨Zt⟩; have bK : Ya (Below w0.heap.size w0 oY) := ⟨Zu⟩; clear bZ HK HB hq_; have bZ := aH; have HK := aR; have HB := bK; clear aH aR bK))) | ((with_reducible refine Yh (f := 76) rfl ?_); refine Yca (some 36) rfl rfl Tryz.func76 Zi rfl #[.string fY, .string (⟨#[58]⟩ : Y)] rfl Zb ?_; (with_reducible refine (strings_Cut.calls fY (⟨#[58]⟩ : Y) kA jN aBv _ ?z1 A14.out).mono ?_); (case z1 => exact Kk); rintro e w' ⟨rfl, ⟨nd, rfl⟩⟩; refine ⟨_, rfl, ?_⟩; (try (rw [Yfg oY]; generalize hq_ : World.drewN oY _ = oY; have aH : Ya (IsS53 w0 oY g kG iY kH kK kM kN kO kP kQ) := ⟨Zn⟩; have aR : Ya (KeepBut w oY g none) := ⟨Zt⟩; have bK : Ya (Below w0.heap.size w0 oY) := ⟨Zu⟩; clear bZ HK HB hq_; have bZ := aH; have HK := aR; have HB := bK; clear aH aR bK))) | ((with_reducible refine Yh (f := 19) rfl ?_); refine Yca (some 42) rfl rfl Tryz.func19 Zi rfl #[.string kA] rfl Zb ?_; (with_reducible refine (Ywe.calls k kA aBx pB _ ?z1 A15.out).mono ?_); (case z1 => exact Kk); rintro e w24 ⟨rfl, hb⟩; refine ⟨_, rfl, ?_⟩; replace HK := Ya.mk (KeepBut.trans Zg (KeepBut.of_below hb g none) (.inl rfl)); replace HB := Ya.mk (Yt Ze hb); replace bZ := Ya.mk (IsS53.below Zd hb); (try clear hb); obtain ⟨fG, aIp⟩ := bZ.out; have qR := Yfc fG; have qS := Ymc fG; have qT := Ync fG; have qU := Yoc fG; have qV := Ykc fG; have qW := Yjc fG; have qX := Ygc fG; have qY := Ylc fG; have aPg := Yhc fG; obtain ⟨qZ, rA, rB, rC, rD, rE, rF, rG⟩ := Ke fG; have aPh := Ye fG 8; clear fG aIp))
  go_ret
  exact ⟨Zl, Zd, Ze, Zg⟩
 rw [if_neg eG] at H
 have jO : (jN.toList == ([] : List UInt8)) = false := Kz eG
 have lN : (jN.toList != ([] : List UInt8)) = true := Kaa eG
 obtain ⟨⟨tI, tJ⟩, aIq, H⟩ := Ku H
 try dsimp -simprocs only at H
 have A26 := Ya.mk aIq
 clear aIq
 by_cases c27 : tJ = 0
 rotate_left
 ·rw [if_neg c27] at H
  have aIr : (tJ == 0) = false := Kz c27
  have aIs : (tJ != 0) = true := Kaa c27
  simp only [Kda, Kea] at H
  obtain ⟨rfl, rfl, rfl, rfl, rfl, rfl, rfl, rfl, rfl, rfl⟩ := H
  obtain ⟨fH, aIt⟩ := bZ.out
  have aPi := Yfc fH
  have aPj := Ymc fH
  have aPk := Ync fH
  have aPl := Yoc fH
  have aPm := Ykc fH
  have aPn := Yjc fH
  have aPo := Ygc fH
  have aPp := Ylc fH
  have aPq := Yhc fH
  obtain ⟨aPr, aPs, aPt, aPu, aPv, aPw, aPx, aPy⟩ := Ke fH
  have aPz := Ye fH 8
  clear fH aIt
  go_enter Tryz.func44, Tryz.ntmps44
  go_wp2_with (first | ((with_reducible refine Yh (f := 80) rfl ?_); refine Yca (some 15) rfl rfl Tryz.func80 Zi rfl #[.string cK, .string (⟨#[47, 92]⟩ : Y)] rfl Zb ?_; (with_reducible refine (strings_IndexAny.calls cK (⟨#[47, 92]⟩ : Y) jL _ ?z1 A2.out).mono ?_); (case z1 => exact Kk); rintro e w47 ⟨rfl, hb⟩; refine ⟨_, rfl, ?_⟩; replace HK := Ya.mk (KeepBut.trans Zg (KeepBut.of_below hb g none) (.inl rfl)); replace HB := Ya.mk (Yt Ze hb); replace bZ := Ya.mk (IsS53.below Zd hb); (try clear hb); obtain ⟨fI, aIu⟩ := bZ.out; have aPA := Yfc fI; have aPB := Ymc fI; have aPC := Ync fI; have aPD := Yoc fI; have aPE := Ykc fI; have aPF := Yjc fI; have aPG := Ygc fI; have aPH := Ylc fI; have aPI := Yhc fI; obtain ⟨aPJ, aPK, aPL, aPM, aPN, aPO, aPP, aPQ⟩ := Ke fI; have aPR := Ye fI 8; clear fI aIu) | ((with_reducible refine Yh (f := 81) rfl ?_); refine Yca (some 23) rfl rfl Tryz.func81 Zi rfl #[.string cK, .string (⟨#[47, 92]⟩ : Y)] rfl Zb ?_; (with_reducible refine (Ypc.calls cK (⟨#[47, 92]⟩ : Y) jM _ ?z1 A4.out).mono ?_); (case z1 => exact Kk); rintro e w49 ⟨rfl, hb⟩; refine ⟨_, rfl, ?_⟩; replace HK := Ya.mk (KeepBut.trans Zg (KeepBut.of_below hb g none) (.inl rfl)); replace HB := Ya.mk (Yt Ze hb); replace bZ := Ya.mk (IsS53.below Zd hb); (try clear hb); obtain ⟨fJ, aIv⟩ := bZ.out; have aPS := Yfc fJ; have aPT := Ymc fJ; have aPU := Ync fJ; have aPV := Yoc fJ; have aPW := Ykc fJ; have aPX := Yjc fJ; have aPY := Ygc fJ; have aPZ := Ylc fJ; have aQa := Yhc fJ; obtain ⟨aQb, aQc, aQd, aQe, aQf, aQg, aQh, aQi⟩ := Ke fJ; have aQj := Ye fJ 8; clear fJ aIv) | ((with_reducible refine Yh (f := 82) rfl ?_); refine Yca (some 30) rfl rfl Tryz.func82 Zi rfl #[.pointer (some ⟨g, 0, none⟩), .string (⟨#[47, 92, 63, 35]⟩ : Y)] rfl Zb ?_; (with_reducible refine (Yec.calls g jM gA gB gC gD gE gF gG gH (⟨#[47, 92, 63, 35]⟩ : Y) fY kG iY kH kK kM kN kO kP kQ w0 _ ?z1 ?z2 ?z3 A5.out).mono ?_); (case z1 => exact HE.out); (case z2 => repeat (first | (with_reducible first | exact bZ.out | apply IsS53.alloc | apply IsS53.drewN | apply IsS53.drew | apply IsS53.set_0 | apply IsS53.set_1 | apply IsS53.set_2 | apply IsS53.set_3 | apply IsS53.set_4 | apply IsS53.set_5 | apply IsS53.set_6 | apply IsS53.set_7 | apply IsS53.set_8) | exact bZ.out)); (case z3 => repeat (first | (with_reducible first | exact HB.out | apply Yd | apply Yb | apply Yc | refine Yg ?_ (IsS53.ge bZ.out)) | exact HB.out)); rintro e zS ⟨rfl, hi, hb, hk⟩; refine ⟨_, rfl, ?_⟩; replace HK := Ya.mk (KeepBut.trans Zg hk (.inl rfl)); replace HB := Ya.mk (hb); replace bZ := Ya.mk (hi); (try clear hb); (try clear hk); (try clear hi)) | ((with_reducible refine Yh (f := 79) rfl ?_); refine Yca (some 32) rfl rfl Tryz.func79 Zi rfl #[.string fY, .int .u8 64] rfl Zb ?_; (with_reducible refine (strings_IndexByte.calls fY 64 lB _ ?z1 A6.out).mono ?_); (case z1 => exact Kk); rintro e w' ⟨rfl, ⟨nd, rfl⟩⟩; refine ⟨_, rfl, ?_⟩; (try (rw [Yfg zS]; generalize hq_ : World.drewN zS _ = zS; have aH : Ya (IsS53 w0 zS g kG iY kH kK kM kN kO kP kQ) := ⟨Zn⟩; have aR : Ya (KeepBut w zS g none) := ⟨Zt⟩; have bK : Ya (Below w0.heap.size w0 zS) := ⟨Zu⟩; clear bZ HK HB hq_; have bZ := aH; have HK := aR; have HB := bK; clear aH aR bK))) | ((with_reducible refine Yh (f := 76) rfl ?_); refine Yca (some 36) rfl rfl Tryz.func76 Zi rfl #[.string fY, .string (⟨#[58]⟩ : Y)] rfl Zb ?_; (with_reducible refine (strings_Cut.calls fY (⟨#[58]⟩ : Y) kA jN aBv _ ?z1 A14.out).mono ?_); (case z1 => exact Kk); rintro e w' ⟨rfl, ⟨nd, rfl⟩⟩; refine ⟨_, rfl, ?_⟩; (try (rw [Yfg zS]; generalize hq_ : World.drewN zS _ = zS; have aH : Ya (IsS53 w0 zS g kG iY kH kK kM kN kO kP kQ) := ⟨Zn⟩; have aR : Ya (KeepBut w zS g none) := ⟨Zt⟩; have bK : Ya (Below w0.heap.size w0 zS) := ⟨Zu⟩; clear bZ HK HB hq_; have bZ := aH; have HK := aR; have HB := bK; clear aH aR bK))) | ((with_reducible refine Yh (f := 19) rfl ?_); refine Yca (some 42) rfl rfl Tryz.func19 Zi rfl #[.string kA] rfl Zb ?_; (with_reducible refine (Ywe.calls k kA aBx pB _ ?z1 A15.out).mono ?_); (case z1 => exact Kk); rintro e w52 ⟨rfl, hb⟩; refine ⟨_, rfl, ?_⟩; replace HK := Ya.mk (KeepBut.trans Zg (KeepBut.of_below hb g none) (.inl rfl)); replace HB := Ya.mk (Yt Ze hb); replace bZ := Ya.mk (IsS53.below Zd hb); (try clear hb); obtain ⟨fK, aIw⟩ := bZ.out; have aQk := Yfc fK; have aQl := Ymc fK; have aQm := Ync fK; have aQn := Yoc fK; have aQo := Ykc fK; have aQp := Yjc fK; have aQq := Ygc fK; have aQr := Ylc fK; have aQs := Yhc fK; obtain ⟨aQt, aQu, aQv, aQw, aQx, aQy, aQz, aQA⟩ := Ke fK; have aQB := Ye fK 8; clear fK aIw) | ((with_reducible refine Yh (f := 83) rfl ?_); refine Yca (some 57) rfl rfl Tryz.func83 Zi rfl #[.string jN, .int .i64 65535] rfl Zb ?_; (with_reducible refine (Yja.calls k jN 65535 tI tJ _ ?z1 A26.out).mono ?_); (case z1 => exact Kk); rintro e w' ⟨rfl, ⟨nd, rfl⟩⟩; refine ⟨_, rfl, ?_⟩))
  go_ret
  exact ⟨Zl, Zd, Ze, Zg⟩
 rw [if_pos c27] at H
 have aIr : (tJ == 0) = true := Kba c27
 have aIs : (tJ != 0) = false := Ky c27
 clear c27
 obtain ⟨oR, tK, H⟩ := Ku H
 try dsimp -simprocs only at H
 have A28 := Ya.mk tK
 clear tK
 by_cases oS : tI = oR
 rotate_left
 ·rw [if_neg oS] at H
  have aBy : (tI == oR) = false := Kz oS
  have aIx : (tI != oR) = true := Kaa oS
  simp only [Kda, Kea] at H
  obtain ⟨rfl, rfl, rfl, rfl, rfl, rfl, rfl, rfl, rfl, rfl⟩ := H
  obtain ⟨fL, aIy⟩ := bZ.out
  have xQ := Yfc fL
  have xR := Ymc fL
  have xS := Ync fL
  have xT := Yoc fL
  have xU := Ykc fL
  have xV := Yjc fL
  have xW := Ygc fL
  have xX := Ylc fL
  have aQC := Yhc fL
  obtain ⟨xY, xZ, yA, yB, yC, yD, yE, yF⟩ := Ke fL
  have aQD := Ye fL 8
  clear fL aIy
  go_enter Tryz.func44, Tryz.ntmps44
  go_wp2_with (first | ((with_reducible refine Yh (f := 80) rfl ?_); refine Yca (some 15) rfl rfl Tryz.func80 Zi rfl #[.string cK, .string (⟨#[47, 92]⟩ : Y)] rfl Zb ?_; (with_reducible refine (strings_IndexAny.calls cK (⟨#[47, 92]⟩ : Y) jL _ ?z1 A2.out).mono ?_); (case z1 => exact Kk); rintro e w39 ⟨rfl, hb⟩; refine ⟨_, rfl, ?_⟩; replace HK := Ya.mk (KeepBut.trans Zg (KeepBut.of_below hb g none) (.inl rfl)); replace HB := Ya.mk (Yt Ze hb); replace bZ := Ya.mk (IsS53.below Zd hb); (try clear hb); obtain ⟨fM, aIz⟩ := bZ.out; have aQE := Yfc fM; have aQF := Ymc fM; have aQG := Ync fM; have aQH := Yoc fM; have aQI := Ykc fM; have aQJ := Yjc fM; have aQK := Ygc fM; have aQL := Ylc fM; have aQM := Yhc fM; obtain ⟨aQN, aQO, aQP, aQQ, aQR, aQS, aQT, aQU⟩ := Ke fM; have aQV := Ye fM 8; clear fM aIz) | ((with_reducible refine Yh (f := 81) rfl ?_); refine Yca (some 23) rfl rfl Tryz.func81 Zi rfl #[.string cK, .string (⟨#[47, 92]⟩ : Y)] rfl Zb ?_; (with_reducible refine (Ypc.calls cK (⟨#[47, 92]⟩ : Y) jM _ ?z1 A4.out).mono ?_); (case z1 => exact Kk); rintro e w41 ⟨rfl, hb⟩; refine ⟨_, rfl, ?_⟩; replace HK := Ya.mk (KeepBut.trans Zg (KeepBut.of_below hb g none) (.inl rfl)); replace HB := Ya.mk (Yt Ze hb); replace bZ := Ya.mk (IsS53.below Zd hb); (try clear hb); obtain ⟨fN, aIA⟩ := bZ.out; have aQW := Yfc fN; have aQX := Ymc fN; have aQY := Ync fN; have aQZ := Yoc fN; have aRa := Ykc fN; have aRb := Yjc fN; have aRc := Ygc fN; have aRd := Ylc fN; have aRe := Yhc fN; obtain ⟨aRf, aRg, aRh, aRi, aRj, aRk, aRl, aRm⟩ := Ke fN; have aRn := Ye fN 8; clear fN aIA) | ((with_reducible refine Yh (f := 82) rfl ?_); refine Yca (some 30) rfl rfl Tryz.func82 Zi rfl #[.pointer (some ⟨g, 0, none⟩), .string (⟨#[47, 92, 63, 35]⟩ : Y)] rfl Zb ?_; (with_reducible refine (Yec.calls g jM gA gB gC gD gE gF gG gH (⟨#[47, 92, 63, 35]⟩ : Y) fY kG iY kH kK kM kN kO kP kQ w0 _ ?z1 ?z2 ?z3 A5.out).mono ?_); (case z1 => exact HE.out); (case z2 => repeat (first | (with_reducible first | exact bZ.out | apply IsS53.alloc | apply IsS53.drewN | apply IsS53.drew | apply IsS53.set_0 | apply IsS53.set_1 | apply IsS53.set_2 | apply IsS53.set_3 | apply IsS53.set_4 | apply IsS53.set_5 | apply IsS53.set_6 | apply IsS53.set_7 | apply IsS53.set_8) | exact bZ.out)); (case z3 => repeat (first | (with_reducible first | exact HB.out | apply Yd | apply Yb | apply Yc | refine Yg ?_ (IsS53.ge bZ.out)) | exact HB.out)); rintro e w43 ⟨rfl, hi, hb, hk⟩; refine ⟨_, rfl, ?_⟩; replace HK := Ya.mk (KeepBut.trans Zg hk (.inl rfl)); replace HB := Ya.mk (hb); replace bZ := Ya.mk (hi); (try clear hb); (try clear hk); (try clear hi)) | ((with_reducible refine Yh (f := 79) rfl ?_); refine Yca (some 32) rfl rfl Tryz.func79 Zi rfl #[.string fY, .int .u8 64] rfl Zb ?_; (with_reducible refine (strings_IndexByte.calls fY 64 lB _ ?z1 A6.out).mono ?_); (case z1 => exact Kk); rintro e w' ⟨rfl, ⟨nd, rfl⟩⟩; refine ⟨_, rfl, ?_⟩; (try (rw [Yfg w43]; generalize hq_ : World.drewN w43 _ = w43; have aH : Ya (IsS53 w0 w43 g kG iY kH kK kM kN kO kP kQ) := ⟨Zn⟩; have aR : Ya (KeepBut w w43 g none) := ⟨Zt⟩; have bK : Ya (Below w0.heap.size w0 w43) := ⟨Zu⟩; clear bZ HK HB hq_; have bZ := aH; have HK := aR; have HB := bK; clear aH aR bK))) | ((with_reducible refine Yh (f := 76) rfl ?_); refine Yca (some 36) rfl rfl Tryz.func76 Zi rfl #[.string fY, .string (⟨#[58]⟩ : Y)] rfl Zb ?_; (with_reducible refine (strings_Cut.calls fY (⟨#[58]⟩ : Y) kA jN aBv _ ?z1 A14.out).mono ?_); (case z1 => exact Kk); rintro e w' ⟨rfl, ⟨nd, rfl⟩⟩; refine ⟨_, rfl, ?_⟩; (try (rw [Yfg w43]; generalize hq_ : World.drewN w43 _ = w43; have aH : Ya (IsS53 w0 w43 g kG iY kH kK kM kN kO kP kQ) := ⟨Zn⟩; have aR : Ya (KeepBut w w43 g none) := ⟨Zt⟩; have bK : Ya (Below w0.heap.size w0 w43) := ⟨Zu⟩; clear bZ HK HB hq_; have bZ := aH; have HK := aR; have HB := bK; clear aH aR bK))) | ((with_reducible refine Yh (f := 19) rfl ?_); refine Yca (some 42) rfl rfl Tryz.func19 Zi rfl #[.string kA] rfl Zb ?_; (with_reducible refine (Ywe.calls k kA aBx pB _ ?z1 A15.out).mono ?_); (case z1 => exact Kk); rintro e w44 ⟨rfl, hb⟩; refine ⟨_, rfl, ?_⟩; replace HK := Ya.mk (KeepBut.trans Zg (KeepBut.of_below hb g none) (.inl rfl)); replace HB := Ya.mk (Yt Ze hb); replace bZ := Ya.mk (IsS53.below Zd hb); (try clear hb); obtain ⟨fO, aIB⟩ := bZ.out; have aRo := Yfc fO; have aRp := Ymc fO; have aRq := Ync fO; have aRr := Yoc fO; have aRs := Ykc fO; have aRt := Yjc fO; have aRu := Ygc fO; have aRv := Ylc fO; have aRw := Yhc fO; obtain ⟨aRx, aRy, aRz, aRA, aRB, aRC, aRD, aRE⟩ := Ke fO; have aRF := Ye fO 8; clear fO aIB) | ((with_reducible refine Yh (f := 83) rfl ?_); refine Yca (some 57) rfl rfl Tryz.func83 Zi rfl #[.string jN, .int .i64 65535] rfl Zb ?_; (with_reducible refine (Yja.calls k jN 65535 tI tJ _ ?z1 A26.out).mono ?_); (case z1 => exact Kk); rintro e w' ⟨rfl, ⟨nd, rfl⟩⟩; refine ⟨_, rfl, ?_⟩) | ((with_reducible refine Yh (f := 84) rfl ?_); refine Yca (some 68) rfl rfl Tryz.func84 Zi rfl #[.string iY] rfl Zb ?_; (with_reducible refine (Yjg.calls iY oR _ ?z1 A28.out).mono ?_); (case z1 => exact Kk); rintro e w' ⟨rfl, ⟨nd, rfl⟩⟩; refine ⟨_, rfl, ?_⟩))
  go_ret
  exact ⟨Zl, Zd, Ze, Zg⟩
 rw [if_pos oS] at H
 have aBy : (tI == oR) = true := Kba oS
 have aIx : (tI != oR) = false := Ky oS
 clear oS
 simp only [Kda, Kea] at H
 obtain ⟨rfl, rfl, rfl, rfl, rfl, rfl, rfl, rfl, rfl, rfl⟩ := H
 obtain ⟨fP, aIC⟩ := bZ.out
 have aRG := Yfc fP
 have aRH := Ymc fP
 have aRI := Ync fP
 have aRJ := Yoc fP
 have aRK := Ykc fP
 have aRL := Yjc fP
 have aRM := Ygc fP
 have aRN := Ylc fP
 have aRO := Yhc fP
 obtain ⟨aRP, aRQ, aRR, aRS, aRT, aRU, aRV, aRW⟩ := Ke fP
 have aRX := Ye fP 8
 clear fP aIC
 go_enter Tryz.func44, Tryz.ntmps44
 go_wp2_with (first | ((with_reducible refine Yh (f := 80) rfl ?_); refine Yca (some 15) rfl rfl Tryz.func80 Zi rfl #[.string cK, .string (⟨#[47, 92]⟩ : Y)] rfl Zb ?_; (with_reducible refine (strings_IndexAny.calls cK (⟨#[47, 92]⟩ : Y) jL _ ?z1 A2.out).mono ?_); (case z1 => exact Kk); rintro e w31 ⟨rfl, hb⟩; refine ⟨_, rfl, ?_⟩; replace HK := Ya.mk (KeepBut.trans Zg (KeepBut.of_below hb g none) (.inl rfl)); replace HB := Ya.mk (Yt Ze hb); replace bZ := Ya.mk (IsS53.below Zd hb); (try clear hb); obtain ⟨fQ, aID⟩ := bZ.out; have aRY := Yfc fQ; have aRZ := Ymc fQ; have aSa := Ync fQ; have aSb := Yoc fQ; have aSc := Ykc fQ; have aSd := Yjc fQ; have aSe := Ygc fQ; have aSf := Ylc fQ; have aSg := Yhc fQ; obtain ⟨aSh, aSi, aSj, aSk, aSl, aSm, aSn, aSo⟩ := Ke fQ; have aSp := Ye fQ 8; clear fQ aID) | ((with_reducible refine Yh (f := 81) rfl ?_); refine Yca (some 23) rfl rfl Tryz.func81 Zi rfl #[.string cK, .string (⟨#[47, 92]⟩ : Y)] rfl Zb ?_; (with_reducible refine (Ypc.calls cK (⟨#[47, 92]⟩ : Y) jM _ ?z1 A4.out).mono ?_); (case z1 => exact Kk); rintro e w33 ⟨rfl, hb⟩; refine ⟨_, rfl, ?_⟩; replace HK := Ya.mk (KeepBut.trans Zg (KeepBut.of_below hb g none) (.inl rfl)); replace HB := Ya.mk (Yt Ze hb); replace bZ := Ya.mk (IsS53.below Zd hb); (try clear hb); obtain ⟨fR, aIE⟩ := bZ.out; have yG := Yfc fR; have yH := Ymc fR; have yI := Ync fR; have yJ := Yoc fR; have yK := Ykc fR; have yL := Yjc fR; have yM := Ygc fR; have yN := Ylc fR; have aSq := Yhc fR; obtain ⟨yO, yP, yQ, yR, yS, yT, yU, yV⟩ := Ke fR; have aSr := Ye fR 8; clear fR aIE) | ((with_reducible refine Yh (f := 82) rfl ?_); refine Yca (some 30) rfl rfl Tryz.func82 Zi rfl #[.pointer (some ⟨g, 0, none⟩), .string (⟨#[47, 92, 63, 35]⟩ : Y)] rfl Zb ?_; (with_reducible refine (Yec.calls g jM gA gB gC gD gE gF gG gH (⟨#[47, 92, 63, 35]⟩ : Y) fY kG iY kH kK kM kN kO kP kQ w0 _ ?z1 ?z2 ?z3 A5.out).mono ?_); (case z1 => exact HE.out); (case z2 => repeat (first | (with_reducible first | exact bZ.out | apply IsS53.alloc | apply IsS53.drewN | apply IsS53.drew | apply IsS53.set_0 | apply IsS53.set_1 | apply IsS53.set_2 | apply IsS53.set_3 | apply IsS53.set_4 | apply IsS53.set_5 | apply IsS53.set_6 | apply IsS53.set_7 | apply IsS53.set_8) | exact bZ.out)); (case z3 => repeat (first | (with_reducible first | exact HB.out | apply Yd | apply Yb | apply Yc | refine Yg ?_ (IsS53.ge bZ.out)) | exact HB.out)); rintro e yW ⟨rfl, hi, hb, hk⟩; refine ⟨_, rfl, ?_⟩; replace HK := Ya.mk (KeepBut.trans Zg hk (.inl rfl)); replace HB := Ya.mk (hb); replace bZ := Ya.mk (hi); (try clear hb); (try clear hk); (try clear hi)) | ((with_reducible refine Yh (f := 79) rfl ?_); refine Yca (some 32) rfl rfl Tryz.func79 Zi rfl #[.string fY, .int .u8 64] rfl Zb ?_; (with_reducible refine (strings_IndexByte.calls fY 64 lB _ ?z1 A6.out).mono ?_); (case z1 => exact Kk); rintro e w' ⟨rfl, ⟨nd, rfl⟩⟩; refine ⟨_, rfl, ?_⟩; (try (rw [Yfg yW]; generalize hq_ : World.drewN yW _ = yW; have aH : Ya (IsS53 w0 yW g kG iY kH kK kM kN kO kP kQ) := ⟨Zn⟩; have aR : Ya (KeepBut w yW g none) := ⟨Zt⟩; have bK : Ya (Below w0.heap.size w0 yW) := ⟨Zu⟩; clear bZ HK HB hq_; have bZ := aH; have HK := aR; have HB := bK; clear aH aR bK))) | ((with_reducible refine Yh (f := 76) rfl ?_); refine Yca (some 36) rfl rfl Tryz.func76 Zi rfl #[.string fY, .string (⟨#[58]⟩ : Y)] rfl Zb ?_; (with_reducible refine (strings_Cut.calls fY (⟨#[58]⟩ : Y) kA jN aBv _ ?z1 A14.out).mono ?_); (case z1 => exact Kk); rintro e w' ⟨rfl, ⟨nd, rfl⟩⟩; refine ⟨_, rfl, ?_⟩; (try (rw [Yfg yW]; generalize hq_ : World.drewN yW _ = yW; have aH : Ya (IsS53 w0 yW g kG iY kH kK kM kN kO kP kQ) := ⟨Zn⟩; have aR : Ya (KeepBut w yW g none) := ⟨Zt⟩; have bK : Ya (Below w0.heap.size w0 yW) := ⟨Zu⟩; clear bZ HK HB hq_; have bZ := aH; have HK := aR; have HB := bK; clear aH aR bK))) | ((with_reducible refine Yh (f := 19) rfl ?_); refine Yca (some 42) rfl rfl Tryz.func19 Zi rfl #[.string kA] rfl Zb ?_; (with_reducible refine (Ywe.calls k kA aBx pB _ ?z1 A15.out).mono ?_); (case z1 => exact Kk); rintro e w36 ⟨rfl, hb⟩; refine ⟨_, rfl, ?_⟩; replace HK := Ya.mk (KeepBut.trans Zg (KeepBut.of_below hb g none) (.inl rfl)); replace HB := Ya.mk (Yt Ze hb); replace bZ := Ya.mk (IsS53.below Zd hb); (try clear hb); obtain ⟨fS, aIF⟩ := bZ.out; have aSs := Yfc fS; have aSt := Ymc fS; have aSu := Ync fS; have aSv := Yoc fS; have aSw := Ykc fS; have aSx := Yjc fS; have aSy := Ygc fS; have aSz := Ylc fS; have aSA := Yhc fS; obtain ⟨aSB, aSC, aSD, aSE, aSF, aSG, aSH, aSI⟩ := Ke fS; have aSJ := Ye fS 8; clear fS aIF) | ((with_reducible refine Yh (f := 83) rfl ?_); refine Yca (some 57) rfl rfl Tryz.func83 Zi rfl #[.string jN, .int .i64 65535] rfl Zb ?_; (with_reducible refine (Yja.calls k jN 65535 tI tJ _ ?z1 A26.out).mono ?_); (case z1 => exact Kk); rintro e w' ⟨rfl, ⟨nd, rfl⟩⟩; refine ⟨_, rfl, ?_⟩) | ((with_reducible refine Yh (f := 84) rfl ?_); refine Yca (some 68) rfl rfl Tryz.func84 Zi rfl #[.string iY] rfl Zb ?_; (with_reducible refine (Yjg.calls iY oR _ ?z1 A28.out).mono ?_); (case z1 => exact Kk); rintro e w' ⟨rfl, ⟨nd, rfl⟩⟩; refine ⟨_, rfl, ?_⟩))
 go_ret
 exact ⟨Zl, Zd, Ze, Zg⟩
def Yjj.f (a0 : Y) : Option (Int) := (Yib.f a0).bind fun lC => ((strings_ReplaceAll.f lC (⟨#[37, 50, 101]⟩ : Y) (⟨#[46]⟩ : Y)).bind fun iT => (if iT.toList = ([46] : List UInt8) then (some 1) else (if iT.toList = ([46, 46] : List UInt8) then (some 2) else (some 0))))
theorem Yjj.calls (a0 : Y) (r : Int) (w : World) (hE : EnvOk w) (h : Yjj.f a0 = some r) :
  Calls Tryz.prog 62 #[.string a0] w fun e w' => e = .returned (.int .i64 r) ∧ Below w.heap.size w w' := by
 have HE := Ya.mk hE
 clear hE
 have HB := Ya.mk (Below.refl w.heap.size w)
 have H : ((Yib.f a0).bind fun lC => ((strings_ReplaceAll.f lC (⟨#[37, 50, 101]⟩ : Y) (⟨#[46]⟩ : Y)).bind fun iT => (if iT.toList = ([46] : List UInt8) then (some 1) else (if iT.toList = ([46, 46] : List UInt8) then (some 2) else (some 0))))) = some r := h
 clear h
 obtain ⟨lC, dW, H⟩ := Ku H
 try dsimp -simprocs only at H
 have A2 := Ya.mk dW
 clear dW
 obtain ⟨iT, jC, H⟩ := Ku H
 try dsimp -simprocs only at H
 have A3 := Ya.mk jC
 clear jC
 by_cases c4 : iT.toList = ([46] : List UInt8)
 ·rw [if_pos c4] at H
  have bX : (iT.toList == ([46] : List UInt8)) = true := Kba c4
  have jJ : (iT.toList != ([46] : List UInt8)) = false := Ky c4
  clear c4
  obtain rfl := Kv H
  go_enter Tryz.func62, Tryz.ntmps62
  go_wp2_with (first | ((with_reducible refine Yh (f := 52) rfl ?_); refine Yca (some 4) rfl rfl Tryz.func52 Zi rfl #[.string a0] rfl Zb ?_; (with_reducible refine (Yib.calls a0 lC _ ?z1 A2.out).mono ?_); (case z1 => exact Kh); rintro e w5 ⟨rfl, hb⟩; refine ⟨_, rfl, ?_⟩; replace HB := Ya.mk (Yt Za hb); (try clear hb)) | ((with_reducible refine Yh (f := 59) rfl ?_); refine Yca (some 5) rfl rfl Tryz.func59 Zi rfl #[.string lC, .string (⟨#[37, 50, 101]⟩ : Y), .string (⟨#[46]⟩ : Y)] rfl Zb ?_; (with_reducible refine (strings_ReplaceAll.calls lC (⟨#[37, 50, 101]⟩ : Y) (⟨#[46]⟩ : Y) iT _ ?z1 A3.out).mono ?_); (case z1 => exact Kh); rintro e w6 ⟨rfl, hb⟩; refine ⟨_, rfl, ?_⟩; replace HB := Ya.mk (Yt Za hb); (try clear hb)))
  go_ret
  exact ⟨Zl, Za⟩
 rw [if_neg c4] at H
 have bX : (iT.toList == ([46] : List UInt8)) = false := Kz c4
 have jJ : (iT.toList != ([46] : List UInt8)) = true := Kaa c4
 by_cases c7 : iT.toList = ([46, 46] : List UInt8)
 rotate_left
 ·rw [if_neg c7] at H
  have cW : (iT.toList == ([46, 46] : List UInt8)) = false := Kz c7
  have iD : (iT.toList != ([46, 46] : List UInt8)) = true := Kaa c7
  obtain rfl := Kv H
  go_enter Tryz.func62, Tryz.ntmps62
  go_wp2_with (first | ((with_reducible refine Yh (f := 52) rfl ?_); refine Yca (some 4) rfl rfl Tryz.func52 Zi rfl #[.string a0] rfl Zb ?_; (with_reducible refine (Yib.calls a0 lC _ ?z1 A2.out).mono ?_); (case z1 => exact Kh); rintro e pN ⟨rfl, hb⟩; refine ⟨_, rfl, ?_⟩; replace HB := Ya.mk (Yt Za hb); (try clear hb)) | ((with_reducible refine Yh (f := 59) rfl ?_); refine Yca (some 5) rfl rfl Tryz.func59 Zi rfl #[.string lC, .string (⟨#[37, 50, 101]⟩ : Y), .string (⟨#[46]⟩ : Y)] rfl Zb ?_; (with_reducible refine (strings_ReplaceAll.calls lC (⟨#[37, 50, 101]⟩ : Y) (⟨#[46]⟩ : Y) iT _ ?z1 A3.out).mono ?_); (case z1 => exact Kh); rintro e w11 ⟨rfl, hb⟩; refine ⟨_, rfl, ?_⟩; replace HB := Ya.mk (Yt Za hb); (try clear hb)))
  go_ret
  exact ⟨Zl, Za⟩
 rw [if_pos c7] at H
 have cW : (iT.toList == ([46, 46] : List UInt8)) = true := Kba c7
 have iD : (iT.toList != ([46, 46] : List UInt8)) = false := Ky c7
 clear c7
 obtain rfl := Kv H
 go_enter Tryz.func62, Tryz.ntmps62
 go_wp2_with (first | ((with_reducible refine Yh (f := 52) rfl ?_); refine Yca (some 4) rfl rfl Tryz.func52 Zi rfl #[.string a0] rfl Zb ?_; (with_reducible refine (Yib.calls a0 lC _ ?z1 A2.out).mono ?_); (case z1 => exact Kh); rintro e w8 ⟨rfl, hb⟩; refine ⟨_, rfl, ?_⟩; replace HB := Ya.mk (Yt Za hb); (try clear hb)) | ((with_reducible refine Yh (f := 59) rfl ?_); refine Yca (some 5) rfl rfl Tryz.func59 Zi rfl #[.string lC, .string (⟨#[37, 50, 101]⟩ : Y), .string (⟨#[46]⟩ : Y)] rfl Zb ?_; (with_reducible refine (strings_ReplaceAll.calls lC (⟨#[37, 50, 101]⟩ : Y) (⟨#[46]⟩ : Y) iT _ ?z1 A3.out).mono ?_); (case z1 => exact Kh); rintro e w9 ⟨rfl, hb⟩; refine ⟨_, rfl, ?_⟩; replace HB := Ya.mk (Yt Za hb); (try clear hb)))
 go_ret
 exact ⟨Zl, Za⟩
def Ylg.f (a0 a1 : Y) : Option (Bool) := if (a0.size : Int) = (a1.size : Int) then ((Yib.f a0).bind fun aBz => ((Yib.f a1).bind fun aBA => (some (aBz.toList == aBA.toList)))) else (some false)
theorem Ylg.calls (a0 a1 : Y) (r : Bool) (w : World) (hE : EnvOk w) (h : Ylg.f a0 a1 = some r) :
  Calls Tryz.prog 73 #[.string a0, .string a1] w fun e w' => e = .returned (.bool r) ∧ Below w.heap.size w w' := by
 have HE := Ya.mk hE
 clear hE
 have HB := Ya.mk (Below.refl w.heap.size w)
 have H : (if (a0.size : Int) = (a1.size : Int) then ((Yib.f a0).bind fun aBz => ((Yib.f a1).bind fun aBA => (some (aBz.toList == aBA.toList)))) else (some false)) = some r := h
 clear h
 by_cases c3 : (a0.size : Int) = (a1.size : Int)
 rotate_left
 ·rw [if_neg c3] at H
  have cC : ((a0.size : Int) == (a1.size : Int)) = false := Kz c3
  have fX : ((a0.size : Int) != (a1.size : Int)) = true := Kaa c3
  have aAI : (a0.size == a1.size) = false := by first | simpa using c3 | (simp at c3 ⊢; omega)
  obtain rfl := Kv H
  go_enter Tryz.func73, Tryz.ntmps73
  go_wp2
  go_ret
  exact ⟨Zl, Za⟩
 rw [if_pos c3] at H
 have cC : ((a0.size : Int) == (a1.size : Int)) = true := Kba c3
 have fX : ((a0.size : Int) != (a1.size : Int)) = false := Ky c3
 have aAI : (a0.size == a1.size) = true := by first | simpa using c3 | (simp at c3 ⊢; omega)
 clear c3
 obtain ⟨aBz, sY, H⟩ := Ku H
 try dsimp -simprocs only at H
 have A4 := Ya.mk sY
 clear sY
 obtain ⟨aBA, tH, H⟩ := Ku H
 try dsimp -simprocs only at H
 have A5 := Ya.mk tH
 clear tH
 obtain rfl := Kv H
 go_enter Tryz.func73, Tryz.ntmps73
 go_wp2_with (first | (go_at_call 52; (with_reducible refine (Yib.calls a0 aBz _ ?z1 A4.out).mono ?_); (case z1 => exact Kh); rintro e w6 ⟨rfl, hb⟩; replace HB := Ya.mk (Yt Za hb); (try clear hb)) | (go_at_call 52; (with_reducible refine (Yib.calls a1 aBA _ ?z1 A5.out).mono ?_); (case z1 => exact Kh); rintro e w7 ⟨rfl, hb⟩; replace HB := Ya.mk (Yt Za hb); (try clear hb)))
 go_ret
 exact ⟨Zl, Za⟩
end Go.Proofs.YtnmglnglbdpjjaaGreatDoor.X
