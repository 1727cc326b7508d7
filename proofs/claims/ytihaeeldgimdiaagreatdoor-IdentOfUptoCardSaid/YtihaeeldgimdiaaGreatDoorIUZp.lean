import Derived.Test.YtihaeeldgimdiaaGreatDoorIUZr
set_option linter.all false
namespace Go.Proofs.YtihaeeldgimdiaaGreatDoor.X
open Go.RowKit Go.Lib Go.Shelf Go.Yw.PrintWords Go.Yw.PrintLast Go.Yw.PrintMore
attribute [local go_sem] Yxd Yvd Yze Yye Ymd Yld Yyd Ywd
def headS : List UInt8 → List UInt8
 | [] => []
 | b :: t => if Ypc b = true then t else b :: t
theorem Ypj (l : List UInt8) : Yfe l = splitB 47 (Yed (headS l)) := by
 unfold Yfe
 cases l with
 | nil => rfl
 | cons b t =>
  show (if (decide (1 < (splitB 47 (Yfh b :: Yed t)).length) && ((splitB 47 (Yfh b :: Yed t)).headD []).isEmpty) = true then (splitB 47 (Yfh b :: Yed t)).tail else splitB 47 (Yfh b :: Yed t)) = splitB 47 (Yed (if Ypc b = true then t else b :: t))
  rw [splitB]
  by_cases hp : Ypc b = true
  ·have hb : Yfh b = 47 := by
    unfold Ypc at hp; unfold Yfh
    rw [Bool.or_eq_true, beq_iff_eq, beq_iff_eq] at hp
    rcases hp with rfl | rfl <;> decide
   have hl : 0 < (splitB 47 (Yed t)).length := List.length_pos_iff.2 (Yfg _ _)
   rw [if_pos hb, if_pos hp, if_pos]
   ·rfl
   ·simp only [List.length_cons, List.headD_cons, List.isEmpty_nil, Bool.and_true, decide_eq_true_eq]; omega
  ·have hb : ¬ Yfh b = 47 := by
    unfold Ypc at hp; unfold Yfh
    rw [Bool.or_eq_true, beq_iff_eq, beq_iff_eq] at hp
    intro e
    split at e
    ·next h => exact hp (.inr h)
    ·exact hp (.inl e)
   rw [if_neg hb, if_neg hp, if_neg]
   ·show _ = splitB 47 (Yfh b :: Yed t)
    rw [splitB, if_neg hb]
   ·cases hsx : splitB 47 (Yed t) with
    | nil => exact absurd hsx (Yfg _ _)
    | cons x y => simp [Yyf]
theorem Yuf {W : World} {base : Nat} {v : Value} {xs : List (List UInt8)} (h : OwnS W base v xs) :
  ∃ A cap, v = .slice A xs.length cap ∧ xs.length ≤ cap ∧ cap ≤ 9223372036854775807 ∧ ReadsOf Value.string ByteArray.empty W A xs.length (xs.map ofL) := by
 rcases h.2 with ⟨rfl, h0⟩ | ⟨gg, cc, cur, rfl, hgb, hgh, hgn, hgc, hgs, hgt⟩
 ·have oQ : xs = [] := List.eq_nil_of_length_eq_zero h0
  subst oQ
  exact ⟨none, 0, rfl, Ks _, Zj, rfl, Zq, fun hp => absurd hp Zq⟩
 ·unfold maxLen at hgc
  refine ⟨some ⟨gg, 0, none⟩, cc, rfl, hgn, hgc, List.length_map _, Zj, fun hp => ⟨_, rfl, fun j hj => ?_⟩⟩
  have h3 : (cur.toList.take (xs.length * 1))[j]? = some (.string (ofL xs[j])) := by
   rw [hgt, List.getElem?_map, List.getElem?_eq_getElem hj]; rfl
  rw [List.getElem?_take, if_pos Zj] at h3
  rw [show (Addr.add ⟨gg, 0, none⟩ j) = ⟨gg, j, none⟩ from by unfold Addr.add; split <;> simp_all]
  unfold World.cell?
  rw [hgh]
  rw [List.getD_eq_getElem?_getD, List.getElem?_map, List.getElem?_eq_getElem hj]
  simpa using h3
theorem Ylf {W : World} {base : Nat} {v : Value} {xs : List (List UInt8)} (h : W.ownsRow base 9 1 v (([] : List Y) ++ xs.map ofL).length (encs Value.string (([] : List Y) ++ xs.map ofL))) : OwnS W base v xs := by
 have e : encs Value.string (([] : List Y) ++ xs.map ofL) = xs.map fun x => Value.string (ofL x) := by
  unfold encs; rw [List.nil_append, List.map_map]; rfl
 rw [e, List.nil_append, List.length_map] at h
 exact h
theorem Yir {w w2 : World} {n : Nat} (h : Below (w.drewN n).heap.size (w.drewN n) w2) : Below w.heap.size w w2 := (Yb (Below.refl w.heap.size w) n).trans h
def Yde.f (a0 : Y) : Option Y := if a0.size ≤ 30000000 then some (ofL (Ysj a0.data.toList)) else none
set_option maxHeartbeats 8000000 in
set_option maxRecDepth 100000 in
theorem Yrk (a0 s1 : Y) (w : World) (ps : List (List UInt8)) (hE : EnvOk w) (hps : ps = Yfe a0.data.toList) (hs : a0.size ≤ 30000000) (kp : Nat)
  (hf : Yx.f kp s1 = some (ps.map ofL)) (hne : ps ≠ [])
  (hhead : (∃ t b, a0.data.toList = b :: t ∧ Ypc b = true ∧ s1 = ofL t) ∨ (∃ t b, a0.data.toList = b :: t ∧ Ypc b = false ∧ s1 = a0) ∨ (a0.data.toList = [] ∧ s1 = a0)) :
  Calls Tryz.prog 60 #[.string a0] w fun e w' => e = .returned (.string (ofL (Ysj a0.data.toList))) ∧ Below w.heap.size w w' := by
 have HE := Ya.mk hE
 have HF := Ya.mk hf
 have HSn := Ya.mk hne
 have HRoom := Ya.mk (Yzh a0.data.toList)
 have HPL := Ya.mk (show Ysj a0.data.toList = 47 :: Lib.join (Yuc (Yfe a0.data.toList) []) [47] from rfl)
 obtain ⟨R, hR⟩ : ∃ R, R = Ysj a0.data.toList := ⟨_, rfl⟩
 rw [← hR] at HPL ⊢
 rw [← hps] at HPL HRoom
 rw [← Lib.size_eq] at HRoom
 have HS := Ya.mk hs
 clear hE hf hne hR hps hs
 have key : (∃ r, ((Ywa.f (bt a0 0) = some true ∧ s1 = a0.extract 1 a0.size ∧ r = true) ∨ (Ywa.f (bt a0 0) = some false ∧ s1 = a0 ∧ r = false)) ∧ 0 < a0.size) ∨ (a0.size = 0 ∧ s1 = a0) := by
  rcases hhead with ⟨t, b, h1, h2, h3⟩ | ⟨t, b, h1, h2, h3⟩ | ⟨h1, h2⟩
  ·obtain ⟨k1, k2, k3⟩ := Yyc a0 0 b t h1
   refine .inl ⟨true, .inl ⟨?_, ?_, rfl⟩, k1⟩
   ·have := Yai b; rw [h2] at this; rw [show (0 : Int) = ((0 : Nat) : Int) from rfl, k2]; exact this
   ·rw [Ytc, h1]; exact h3
  ·obtain ⟨k1, k2, k3⟩ := Yyc a0 0 b t h1
   refine .inl ⟨false, .inr ⟨?_, h3, rfl⟩, k1⟩
   have := Yai b; rw [h2] at this; rw [show (0 : Int) = ((0 : Nat) : Int) from rfl, k2]; exact this
  ·exact .inr ⟨by rw [Lib.size_eq, h1]; rfl, h2⟩
 clear hhead
 have main : ∀ (c : Bool) (d : Bool), (c = true → 0 < a0.size) → (c = false → a0.size = 0 ∧ s1 = a0) → (c = true → Ywa.f (bt a0 0) = some d ∧ s1 = (if d = true then a0.extract 1 a0.size else a0)) →
   Calls Tryz.prog 60 #[.string a0] w fun e w' => e = .returned (.string (ofL R)) ∧ Below w.heap.size w w' := by
  intro c d h1 h2 h3
  have kA : ∀ h : 0 < a0.size, ((a0[0]'h).toNat : Int) = bt a0 0 := Ypa a0 0
  have h3cases : (c = true ∧ d = true ∧ 0 < a0.size ∧ Ywa.f (bt a0 0) = some true ∧ s1 = a0.extract 1 a0.size) ∨ (c = true ∧ d = false ∧ 0 < a0.size ∧ Ywa.f (bt a0 0) = some false ∧ s1 = a0) ∨ (c = false ∧ a0.size = 0 ∧ s1 = a0) := by
   cases c with
   | false => exact .inr (.inr ⟨rfl, h2 rfl⟩)
   | true =>
    have := h3 rfl
    cases d with
    | true => exact .inl ⟨rfl, rfl, h1 rfl, this.1, by simpa using this.2⟩
    | false => exact .inr (.inl ⟨rfl, rfl, h1 rfl, this.1, by simpa using this.2⟩)
  clear h1 h2 h3
  have HPT : Ya (∀ w0 : World, EnvOk w0 → Calls Tryz.prog 85 #[.string s1] w0 fun e w' => ∃ v0_ : Value, e = .returned (v0_) ∧ Kd.R Kd.string 9 w' w0.heap.size (fun _ => True) v0_ (ps.map ofL) ∧ Below w0.heap.size w0 w') := ⟨fun w0 hw0 => Yx.calls kp s1 _ w0 hw0 HF.out⟩
  clear HF
  rcases h3cases with ⟨rfl, rfl, hpos, hsl, yM⟩ | ⟨rfl, rfl, hpos, hsl, yM⟩ | ⟨rfl, hz, yM⟩
  all_goals
   rw [yM] at HPT
   clear yM
  rotate_left 2
  ·have bV : decide (0 < (a0.size : Int)) = false := Ko Zj
   have dY : decide (0 < a0.size) = false := Ko Zj
   clear kA hz
   go_enter Tryz.func60, Tryz.ntmps60
   go_wp2_with fail
   refine (HPT.out _ HE.out).mono ?_
   rintro e w2 ⟨v0, rfl, hr2, cJ⟩
   have fJ := Ya.mk cJ
   have tX := Ya.mk (HE.out.below cJ)
   obtain ⟨g, cap, rfl, yL, sR, hgb, hrow⟩ := Yco hr2 HSn.out
   have HROW := Ya.mk hrow
   have aHq : 1 ≤ ps.length := List.length_pos_iff.2 HSn.out
   have hglt : Ya (g < w2.heap.size) := ⟨by
    have h0 : 0 < ps.length := List.length_pos_iff.2 HSn.out
    exact lt_of_cell (hrow 0 h0)⟩
   clear hr2 cJ hrow hgb
   unfold maxLen at sR
   go_wp2
   obtain ⟨m, hm⟩ : ∃ m, m = ps.length := ⟨_, rfl⟩
   rw [← hm] at yL
   simp only [← hm]
   have HMl := Ya.mk hm
   have hmb : m ≤ 1000000000 := by have := Ytj ps; have := HRoom.out; have := HS.out; omega
   clear hm aHq
   go_loopg [4, 5, 6, 7] m (fun g2 v4 v5 _ _ wx => ∃ (k : Nat) (out : List (List UInt8)), k + g2 ≤ m ∧ m ≤ k + g2 ∧ v5 = .int .i64 (k : Int) ∧ out.length ≤ 1000000000 ∧ Ya (OwnS wx w2.heap.size v4 out) ∧ Ya (Below w2.heap.size w2 wx) ∧ Ya (Yuc (ps.drop k) out = Yuc ps []) ∧ Ya (tot out + room (ps.drop k) ≤ 3 * a0.size + 3))
   case atStart => exact ⟨0, [], Zj, Zj, rfl, Zq, ⟨World.ownsRow_nil _ _ _ _⟩, ⟨Below.refl _ _⟩, ⟨rfl⟩, ⟨by simpa [tot] using HRoom.out⟩⟩
   case round =>
    obtain ⟨k, out, mM, zV, rfl, hol, HO, HB, HPO, HTo⟩ := hrel
    obtain ⟨A, cc, rfl, aHr, aYD, hrd⟩ := Yuf HO.out
    have qW := Ya.mk hrd
    clear hrd
    cases gk with
    | zero =>
     obtain rfl : k = m := by omega
     have hlt : decide ((k : Int) < (k : Int)) = false := Ko Zj
     have hfin := HPO.out
     rw [HMl.out, List.drop_eq_nil_of_le (Nat.le_refl _), Yuc] at hfin
     have hjl := Ywm out
     have htl := HTo.out
     have hs9 := HS.out
     have aDK := Yag out
     obtain ⟨kj, hj⟩ := rjoin_f [47] out Zj Zj
     have hj1 : Yya.f kj ⟨#[47]⟩ (out.map ofL) = some (ofL (Lib.join out [47])) := hj kj (Ks _)
     have HJ := Ya.mk hj1
     have HEx := Ya.mk (tX.out.below HB.out)
     have HFin := Ya.mk hfin
     have hjs : (ofL (Lib.join out [47])).size ≤ 1000000000 := by rw [Yfa]; omega
     have HC := Ya.mk (show Kd.C Kd.string wr A (out.map ofL).length (out.map ofL) from Kd.C_of_reads (enc := Value.string) (d := ByteArray.empty) (h1 := fun _ => rfl) (by rw [List.length_map]; exact qW.out))
     have HLm := Ya.mk (show (out.map ofL).length = out.length from List.length_map _)
     clear hj hj1 hfin hjl htl hs9 aDK
     go_wp2_with fail
     have hcall := Yya.calls kj ⟨#[47]⟩ A cc (out.map ofL) _ wr HEx.out HC.out (by rw [HLm.out]; exact aHr) HJ.out
     rw [HLm.out] at hcall
     refine hcall.mono ?_
     clear hcall
     rintro e w5 ⟨rfl, ⟨nd5, rfl⟩⟩
     have cH := Ya.mk (show Below w.heap.size w (wr.drewN nd5) from Yb (fJ.out.trans (HB.out.mono fJ.out.size)) nd5)
     go_wp2
     go_ret
     refine ⟨?_, cH.out⟩
     rw [HPL.out, ← HFin.out]; rfl
    | succ g2 =>
     have hk : k < m := by omega
     have hkp : k < ps.length := by have := HMl.out; omega
     have hlt : decide ((k : Int) < (m : Int)) = true := Kn Zj
     have hcell := (HROW.out.below HB.out) k hkp
     try simp only [Nat.zero_add] at hcell
     have HRD := Ya.mk (Ycm ps k hkp)
     have HDr := Ya.mk (List.drop_eq_getElem_cons hkp)
     obtain ⟨p, hp⟩ : ∃ p, p = ps[k] := ⟨_, rfl⟩
     rw [← hp] at hcell HRD HDr
     have hpl : Ya (p.length ≤ 31000000) := ⟨by have := HTo.out; have := HRD.out; have := HS.out; omega⟩
     obtain ⟨km, uE⟩ := Ydj (ofL p) ⟨#[35, 63, 96, 123, 125]⟩ (by rw [Yfa]; have := hpl.out; omega) Zw
     have hf1 : Yo.f km (ofL p) ⟨#[35, 63, 96, 123, 125]⟩ = some (ofL (Ydd Ymc p)) := uE km (Ks _)
     obtain ⟨kd, hd1⟩ := Yep (ofL (Ydd Ymc p)) Znb
     have zK : Yua.f kd (ofL (Ydd Ymc p)) = some ((Yjg (Ydd Ymc p) : Nat) : Int) := hd1 kd (Ks _)
     have zL := Ya.mk hf1
     have oR := Ya.mk zK
     have HQl := Ya.mk (Ylg Ymc p)
     have HE3 := Ya.mk (tX.out.below HB.out)
     have aBX := Ya.mk (fun last => Yuh last out p)
     obtain ⟨q, hq⟩ : ∃ q, q = Ydd Ymc p := ⟨_, rfl⟩
     obtain ⟨n, hn⟩ : ∃ n, n = Yjg q := ⟨_, rfl⟩
     have hn3 : n = 0 ∨ n = 1 ∨ n = 2 := by
      rw [hn]; unfold Yjg
      split
      ·omega
      ·split <;> omega
     rw [← hq] at zL oR HQl
     rw [← hn] at oR
     have HN := Ya.mk hn
     have HQ := Ya.mk hq
     clear hf1 zK hp hq hn uE hd1
     go_wp2_with fail
     refine (Yo.calls km _ _ _ _ HE3.out zL.out).mono ?_
     rintro e w3 ⟨rfl, gR⟩
     have HE4 := Ya.mk (HE3.out.below gR)
     have cZ := Ya.mk (HB.out.trans (gR.mono HB.out.size))
     have HO3 := Ya.mk (Ydg HO.out gR)
     clear gR
     go_wp2_with fail
     refine (Yua.calls kd _ _ _ HE4.out oR.out).mono ?_
     rintro e w4 ⟨rfl, lY⟩
     have HE5 := Ya.mk (HE4.out.below lY)
     have cU := Ya.mk (cZ.out.trans (lY.mono cZ.out.size))
     have mY := Ya.mk (Ydg HO3.out lY)
     clear lY hcell hlt
     have bX := Ya.mk (show Yuc (ps.drop (k + 1)) (Yad (ps.drop (k + 1)).isEmpty out p) = Yuc ps [] by
      have := HPO.out
      rw [HDr.out, Yuc] at this; exact this)
     have HLast := Ya.mk (show (ps.drop (k + 1)).isEmpty = decide (k + 1 = m) by
      have := HMl.out
      rw [Bool.eq_iff_iff, List.isEmpty_iff, List.drop_eq_nil_iff, decide_eq_true_iff]
      omega)
     have aBt := HTo.out
     have htl := Yag out
     have hHSL := aBX.out (ps.drop (k + 1)).isEmpty
     have hR3 := HRD.out
     have dT := Ya.mk (show tot (Yad (ps.drop (k + 1)).isEmpty out p) + room (ps.drop (k + 1)) ≤ 3 * a0.size + 3 by omega)
     have eB := Ya.mk (show (Yad (ps.drop (k + 1)).isEmpty out p).length ≤ 1000000000 by
      have := Yag (Yad (ps.drop (k + 1)).isEmpty out p); have := dT.out; have := HS.out; omega)
     clear aBt htl hHSL hR3 aBX HTo HPO HRD HDr zL oR
     rcases hn3 with rfl | rfl | rfl
     ·have hst := Yyk (last := (ps.drop (k + 1)).isEmpty) (out := out) (p := p) Zjb
      rw [hst, ← HQ.out] at bX dT eB
      clear hst HO HO3 qW
      obtain ⟨A4, cc4, e4, _, _, gY⟩ := Yuf mY.out
      cases e4
      have jO := Ya.mk gY
      clear gY
      go_wp2_with (at_builtin; first | (refine Yvc (w0 := w2) Value.string ByteArray.empty w2.heap.size rfl _ _ 23 9 (.string ⟨#[]⟩) 16 rfl Tryz.underlying23 Ype rfl Zw (fun _ => rfl) (.slice none 0 0) ([] : List Y) (out.map ofL) _ _ _ rfl rfl (World.ownsRow_nil _ _ _ _) jO.out cU.out cU.out.size Zna ?_; intro v5 w5 cS gK _ _) | (go_must (refine Ycd (w0 := w2) w2.heap.size rfl _ _ 23 9 (.string ⟨#[]⟩) 16 rfl Tryz.underlying23 Ype rfl Zw v5 (out.map fun x => Value.string (ofL x)) (.string (ofL q)) rfl rfl rfl Zgb gK gK.size Zeb ?_); intro v6 w6 dM lT _ _))
      have HO6 := Ya.mk dM
      have jG := Ya.mk lT
      clear dM lT cS gK
      go_wp2
      go_roundg g2
      case measure => omega
      case rel => exact ⟨k + 1, out ++ [q], Zj, Zj, by go_num, eB.out, ⟨by simpa [OwnS] using HO6.out⟩, jG, bX, dT⟩
     ·have hst := Ybl (last := (ps.drop (k + 1)).isEmpty) (out := out) (p := p) Zjb
      rw [hst, HLast.out] at bX dT eB
      clear hst HO HO3 qW
      by_cases hl : k + 1 = m
      ·have jK : ((k : Int) == (m : Int) - 1) = true := beq_iff_eq.2 Zj
       rw [if_pos Zcb] at bX dT eB
       obtain ⟨A4, cc4, e4, _, _, gY⟩ := Yuf mY.out
       cases e4
       have jO := Ya.mk gY
       clear gY
       go_wp2_with (at_builtin; first | (refine Yvc (w0 := w2) Value.string ByteArray.empty w2.heap.size rfl _ _ 23 9 (.string ⟨#[]⟩) 16 rfl Tryz.underlying23 Ype rfl Zw (fun _ => rfl) (.slice none 0 0) ([] : List Y) (out.map ofL) _ _ _ rfl rfl (World.ownsRow_nil _ _ _ _) jO.out cU.out cU.out.size Zna ?_; intro v5 w5 cS gK _ _) | (go_must (refine Ycd (w0 := w2) w2.heap.size rfl _ _ 23 9 (.string ⟨#[]⟩) 16 rfl Tryz.underlying23 Ype rfl Zw v5 (out.map fun x => Value.string (ofL x)) (.string ⟨#[]⟩) rfl rfl rfl Zgb gK gK.size Zeb ?_); intro v6 w6 dM lT _ _))
       have HO6 := Ya.mk dM
       have jG := Ya.mk lT
       clear dM lT cS gK
       go_wp2
       go_roundg g2
       case measure => omega
       case rel => exact ⟨k + 1, out ++ [[]], Zj, Zj, by go_num, eB.out, ⟨Zlb⟩, jG, bX, dT⟩
      ·have jK : ((k : Int) == (m : Int) - 1) = false := beq_eq_false_iff_ne.2 Zj
       rw [if_neg Zcb] at bX dT eB
       go_wp2
       go_roundg g2
       case measure => omega
       case rel => exact ⟨k + 1, out, Zj, Zj, by go_num, eB.out, mY, cU, bX, dT⟩
     ·have hst := Yzk (last := (ps.drop (k + 1)).isEmpty) (out := out) (p := p) Zjb
      rw [hst, HLast.out] at bX dT eB
      clear hst HO HO3 qW
      have hshape : (out = [] ∧ decide ((0 : Int) < ((out.length : Nat) : Int)) = false) ∨ (∃ gg L, A = some ⟨gg, 0, none⟩ ∧ out.length = L + 1 ∧ L + 1 ≤ cc) := by
       by_cases h0 : out.length = 0
       ·exact .inl ⟨List.eq_nil_of_length_eq_zero h0, Ko Zj⟩
       ·refine .inr ?_
        rcases mY.out.2 with ⟨h1, h2⟩ | ⟨gg, c4, cur, h1, _⟩
        ·exact absurd h2 h0
        ·cases h1
         exact ⟨gg, out.length - 1, rfl, Zj, Zj⟩
      rcases hshape with ⟨oQ, hd0⟩ | ⟨gg, L, rfl, hL, hLc⟩
      ·have hd1 : decide (0 < out.length) = false := Ko (by rw [oQ]; simp)
       have ht0 : out.take (out.length - 1) = out := by rw [oQ]; rfl
       rw [ht0] at bX dT eB
       clear ht0 oQ
       by_cases hl : k + 1 = m
       ·have jK : ((k : Int) == (m : Int) - 1) = true := beq_iff_eq.2 Zj
        rw [if_pos Zcb] at bX dT eB
        obtain ⟨A4, cc4, e4, _, _, gY⟩ := Yuf mY.out
        cases e4
        have jO := Ya.mk gY
        clear gY
        go_wp2_with (at_builtin; first | (refine Yvc (w0 := w2) Value.string ByteArray.empty w2.heap.size rfl _ _ 23 9 (.string ⟨#[]⟩) 16 rfl Tryz.underlying23 Ype rfl Zw (fun _ => rfl) (.slice none 0 0) ([] : List Y) (out.map ofL) _ _ _ rfl rfl (World.ownsRow_nil _ _ _ _) jO.out cU.out cU.out.size Zna ?_; intro v5 w5 cS gK _ _) | (go_must (refine Ycd (w0 := w2) w2.heap.size rfl _ _ 23 9 (.string ⟨#[]⟩) 16 rfl Tryz.underlying23 Ype rfl Zw v5 (out.map fun x => Value.string (ofL x)) (.string ⟨#[]⟩) rfl rfl rfl Zgb gK gK.size Zeb ?_); intro v6 w6 dM lT _ _))
        have HO6 := Ya.mk dM
        have jG := Ya.mk lT
        clear dM lT cS gK
        go_wp2
        go_roundg g2
        case measure => omega
        case rel => exact ⟨k + 1, out ++ [[]], Zj, Zj, by go_num, eB.out, ⟨Zlb⟩, jG, bX, dT⟩
       ·have jK : ((k : Int) == (m : Int) - 1) = false := beq_eq_false_iff_ne.2 Zj
        rw [if_neg Zcb] at bX dT eB
        go_wp2
        go_roundg g2
        case measure => omega
        case rel => exact ⟨k + 1, out, Zj, Zj, by go_num, eB.out, mY, cU, bX, dT⟩
      ·have HOt := Ya.mk (show OwnS w4 w2.heap.size (.slice (some ⟨gg, 0, none⟩) L cc) (out.take (out.length - 1)) from by
        have h3 := OwnS.take mY.out L Zj
        rw [show out.length - 1 = L by omega]; exact h3)
       have HLt := Ya.mk (show (out.take (out.length - 1)).length = L by rw [List.length_take]; omega)
       obtain ⟨o2, ho2⟩ : ∃ o2, o2 = out.take (out.length - 1) := ⟨_, rfl⟩
       rw [← ho2] at HOt HLt bX dT eB
       clear ho2 mY
       simp only [hL]
       have hd0 : decide ((0 : Int) < ((L + 1 : Nat) : Int)) = true := Kn Zj
       have hd1 : decide (0 < L + 1) = true := Kn Zj
       have ho2l : o2.length ≤ 1000000000 := by have := HLt.out; omega
       by_cases hl : k + 1 = m
       ·have jK : ((k : Int) == (m : Int) - 1) = true := beq_iff_eq.2 Zj
        rw [if_pos Zcb] at bX dT eB
        have jO := Ya.mk (show ReadsOf Value.string ByteArray.empty w4 (some ⟨gg, 0, none⟩) L (o2.map ofL) from by
         obtain ⟨A4, cc4, e4, _, _, gY⟩ := Yuf HOt.out
         rw [HLt.out] at e4 gY
         cases e4; exact gY)
        go_wp2_with (at_builtin; first | (refine Yvc (w0 := w2) Value.string ByteArray.empty w2.heap.size rfl _ _ 23 9 (.string ⟨#[]⟩) 16 rfl Tryz.underlying23 Ype rfl Zw (fun _ => rfl) (.slice none 0 0) ([] : List Y) (o2.map ofL) _ _ _ rfl rfl (World.ownsRow_nil _ _ _ _) jO.out cU.out cU.out.size Zna ?_; intro v5 w5 cS gK _ _) | (go_must (refine Ycd (w0 := w2) w2.heap.size rfl _ _ 23 9 (.string ⟨#[]⟩) 16 rfl Tryz.underlying23 Ype rfl Zw v5 (o2.map fun x => Value.string (ofL x)) (.string ⟨#[]⟩) rfl rfl rfl Zgb gK gK.size Zeb ?_); intro v6 w6 dM lT _ _))
        have HO6 := Ya.mk dM
        have jG := Ya.mk lT
        clear dM lT cS gK
        go_wp2
        go_roundg g2
        case measure => omega
        case rel => exact ⟨k + 1, o2 ++ [[]], Zj, Zj, by go_num, eB.out, ⟨Zlb⟩, jG, bX, dT⟩
       ·have jK : ((k : Int) == (m : Int) - 1) = false := beq_eq_false_iff_ne.2 Zj
        rw [if_neg Zcb] at bX dT eB
        go_wp2
        go_roundg g2
        case measure => omega
        case rel => exact ⟨k + 1, o2, Zj, Zj, by go_num, eB.out, HOt, cU, bX, dT⟩
  all_goals
   have bV : decide (0 < (a0.size : Int)) = true := Kn Zj
   have dY : decide (0 < a0.size) = true := Kn hpos
   have uF : (0 < (a0.size : Int)) = True := Kp Zj
   have b1 : (1 : Int) ≤ (a0.size : Int) := by omega
   have q4 := Kp hpos
   clear hpos
   have HSL := Ya.mk hsl
   clear hsl
   go_enter Tryz.func60, Tryz.ntmps60
   go_wp2_with (first | (go_at_call 34; (with_reducible refine (Ywa.calls (bt a0 0) _ _ ?z1 HSL.out).mono ?_); (case z1 => exact Kg); rintro e w' ⟨rfl, ⟨nd, rfl⟩⟩))
   clear kA q4 uF b1
   refine (HPT.out (w.drewN nd) (EnvOk.heap HE.out rfl)).mono ?_
   rintro e w2 ⟨v0, rfl, hr2, cJ⟩
   have fJ := Ya.mk (show Below w.heap.size w w2 from Yir cJ)
   have tX := Ya.mk (HE.out.below fJ.out)
   obtain ⟨g, cap, rfl, yL, sR, hgb, hrow⟩ := Yco hr2 HSn.out
   have HROW := Ya.mk hrow
   have aHq : 1 ≤ ps.length := List.length_pos_iff.2 HSn.out
   have hglt : Ya (g < w2.heap.size) := ⟨by
    have h0 : 0 < ps.length := List.length_pos_iff.2 HSn.out
    exact lt_of_cell (hrow 0 h0)⟩
   clear hr2 cJ hrow hgb
   unfold maxLen at sR
   go_wp2
   obtain ⟨m, hm⟩ : ∃ m, m = ps.length := ⟨_, rfl⟩
   rw [← hm] at yL
   simp only [← hm]
   have HMl := Ya.mk hm
   have hmb : m ≤ 1000000000 := by have := Ytj ps; have := HRoom.out; have := HS.out; omega
   clear hm aHq
   go_loopg [4, 5, 6, 7] m (fun g2 v4 v5 _ _ wx => ∃ (k : Nat) (out : List (List UInt8)), k + g2 ≤ m ∧ m ≤ k + g2 ∧ v5 = .int .i64 (k : Int) ∧ out.length ≤ 1000000000 ∧ Ya (OwnS wx w2.heap.size v4 out) ∧ Ya (Below w2.heap.size w2 wx) ∧ Ya (Yuc (ps.drop k) out = Yuc ps []) ∧ Ya (tot out + room (ps.drop k) ≤ 3 * a0.size + 3))
   case atStart => exact ⟨0, [], Zj, Zj, rfl, Zq, ⟨World.ownsRow_nil _ _ _ _⟩, ⟨Below.refl _ _⟩, ⟨rfl⟩, ⟨by simpa [tot] using HRoom.out⟩⟩
   case round =>
    obtain ⟨k, out, mM, zV, rfl, hol, HO, HB, HPO, HTo⟩ := hrel
    obtain ⟨A, cc, rfl, aHr, aYD, hrd⟩ := Yuf HO.out
    have qW := Ya.mk hrd
    clear hrd
    cases gk with
    | zero =>
     obtain rfl : k = m := by omega
     have hlt : decide ((k : Int) < (k : Int)) = false := Ko Zj
     have hfin := HPO.out
     rw [HMl.out, List.drop_eq_nil_of_le (Nat.le_refl _), Yuc] at hfin
     have hjl := Ywm out
     have htl := HTo.out
     have hs9 := HS.out
     have aDK := Yag out
     obtain ⟨kj, hj⟩ := rjoin_f [47] out Zj Zj
     have hj1 : Yya.f kj ⟨#[47]⟩ (out.map ofL) = some (ofL (Lib.join out [47])) := hj kj (Ks _)
     have HJ := Ya.mk hj1
     have HEx := Ya.mk (tX.out.below HB.out)
     have HFin := Ya.mk hfin
     have hjs : (ofL (Lib.join out [47])).size ≤ 1000000000 := by rw [Yfa]; omega
     have HC := Ya.mk (show Kd.C Kd.string wr A (out.map ofL).length (out.map ofL) from Kd.C_of_reads (enc := Value.string) (d := ByteArray.empty) (h1 := fun _ => rfl) (by rw [List.length_map]; exact qW.out))
     have HLm := Ya.mk (show (out.map ofL).length = out.length from List.length_map _)
     clear hj hj1 hfin hjl htl hs9 aDK
     go_wp2_with fail
     have hcall := Yya.calls kj ⟨#[47]⟩ A cc (out.map ofL) _ wr HEx.out HC.out (by rw [HLm.out]; exact aHr) HJ.out
     rw [HLm.out] at hcall
     refine hcall.mono ?_
     clear hcall
     rintro e w5 ⟨rfl, ⟨nd5, rfl⟩⟩
     have cH := Ya.mk (show Below w.heap.size w (wr.drewN nd5) from Yb (fJ.out.trans (HB.out.mono fJ.out.size)) nd5)
     go_wp2
     go_ret
     refine ⟨?_, cH.out⟩
     rw [HPL.out, ← HFin.out]; rfl
    | succ g2 =>
     have hk : k < m := by omega
     have hkp : k < ps.length := by have := HMl.out; omega
     have hlt : decide ((k : Int) < (m : Int)) = true := Kn Zj
     have hcell := (HROW.out.below HB.out) k hkp
     try simp only [Nat.zero_add] at hcell
     have HRD := Ya.mk (Ycm ps k hkp)
     have HDr := Ya.mk (List.drop_eq_getElem_cons hkp)
     obtain ⟨p, hp⟩ : ∃ p, p = ps[k] := ⟨_, rfl⟩
     rw [← hp] at hcell HRD HDr
     have hpl : Ya (p.length ≤ 31000000) := ⟨by have := HTo.out; have := HRD.out; have := HS.out; omega⟩
     obtain ⟨km, uE⟩ := Ydj (ofL p) ⟨#[35, 63, 96, 123, 125]⟩ (by rw [Yfa]; have := hpl.out; omega) Zw
     have hf1 : Yo.f km (ofL p) ⟨#[35, 63, 96, 123, 125]⟩ = some (ofL (Ydd Ymc p)) := uE km (Ks _)
     obtain ⟨kd, hd1⟩ := Yep (ofL (Ydd Ymc p)) Znb
     have zK : Yua.f kd (ofL (Ydd Ymc p)) = some ((Yjg (Ydd Ymc p) : Nat) : Int) := hd1 kd (Ks _)
     have zL := Ya.mk hf1
     have oR := Ya.mk zK
     have HQl := Ya.mk (Ylg Ymc p)
     have HE3 := Ya.mk (tX.out.below HB.out)
     have aBX := Ya.mk (fun last => Yuh last out p)
     obtain ⟨q, hq⟩ : ∃ q, q = Ydd Ymc p := ⟨_, rfl⟩
     obtain ⟨n, hn⟩ : ∃ n, n = Yjg q := ⟨_, rfl⟩
     have hn3 : n = 0 ∨ n = 1 ∨ n = 2 := by
      rw [hn]; unfold Yjg
      split
      ·omega
      ·split <;> omega
     rw [← hq] at zL oR HQl
     rw [← hn] at oR
     have HN := Ya.mk hn
     have HQ := Ya.mk hq
     clear hf1 zK hp hq hn uE hd1
     go_wp2_with fail
     refine (Yo.calls km _ _ _ _ HE3.out zL.out).mono ?_
     rintro e w3 ⟨rfl, gR⟩
     have HE4 := Ya.mk (HE3.out.below gR)
     have cZ := Ya.mk (HB.out.trans (gR.mono HB.out.size))
     have HO3 := Ya.mk (Ydg HO.out gR)
     clear gR
     go_wp2_with fail
     refine (Yua.calls kd _ _ _ HE4.out oR.out).mono ?_
     rintro e w4 ⟨rfl, lY⟩
     have HE5 := Ya.mk (HE4.out.below lY)
     have cU := Ya.mk (cZ.out.trans (lY.mono cZ.out.size))
     have mY := Ya.mk (Ydg HO3.out lY)
     clear lY hcell hlt
     have bX := Ya.mk (show Yuc (ps.drop (k + 1)) (Yad (ps.drop (k + 1)).isEmpty out p) = Yuc ps [] by
      have := HPO.out
      rw [HDr.out, Yuc] at this; exact this)
     have HLast := Ya.mk (show (ps.drop (k + 1)).isEmpty = decide (k + 1 = m) by
      have := HMl.out
      rw [Bool.eq_iff_iff, List.isEmpty_iff, List.drop_eq_nil_iff, decide_eq_true_iff]
      omega)
     have aBt := HTo.out
     have htl := Yag out
     have hHSL := aBX.out (ps.drop (k + 1)).isEmpty
     have hR3 := HRD.out
     have dT := Ya.mk (show tot (Yad (ps.drop (k + 1)).isEmpty out p) + room (ps.drop (k + 1)) ≤ 3 * a0.size + 3 by omega)
     have eB := Ya.mk (show (Yad (ps.drop (k + 1)).isEmpty out p).length ≤ 1000000000 by
      have := Yag (Yad (ps.drop (k + 1)).isEmpty out p); have := dT.out; have := HS.out; omega)
     clear aBt htl hHSL hR3 aBX HTo HPO HRD HDr zL oR
     rcases hn3 with rfl | rfl | rfl
     ·have hst := Yyk (last := (ps.drop (k + 1)).isEmpty) (out := out) (p := p) Zjb
      rw [hst, ← HQ.out] at bX dT eB
      clear hst HO HO3 qW
      obtain ⟨A4, cc4, e4, _, _, gY⟩ := Yuf mY.out
      cases e4
      have jO := Ya.mk gY
      clear gY
      go_wp2_with (at_builtin; first | (refine Yvc (w0 := w2) Value.string ByteArray.empty w2.heap.size rfl _ _ 23 9 (.string ⟨#[]⟩) 16 rfl Tryz.underlying23 Ype rfl Zw (fun _ => rfl) (.slice none 0 0) ([] : List Y) (out.map ofL) _ _ _ rfl rfl (World.ownsRow_nil _ _ _ _) jO.out cU.out cU.out.size Zna ?_; intro v5 w5 cS gK _ _) | (go_must (refine Ycd (w0 := w2) w2.heap.size rfl _ _ 23 9 (.string ⟨#[]⟩) 16 rfl Tryz.underlying23 Ype rfl Zw v5 (out.map fun x => Value.string (ofL x)) (.string (ofL q)) rfl rfl rfl Zgb gK gK.size Zeb ?_); intro v6 w6 dM lT _ _))
      have HO6 := Ya.mk dM
      have jG := Ya.mk lT
      clear dM lT cS gK
      go_wp2
      go_roundg g2
      case measure => omega
      case rel => exact ⟨k + 1, out ++ [q], Zj, Zj, by go_num, eB.out, ⟨by simpa [OwnS] using HO6.out⟩, jG, bX, dT⟩
     ·have hst := Ybl (last := (ps.drop (k + 1)).isEmpty) (out := out) (p := p) Zjb
      rw [hst, HLast.out] at bX dT eB
      clear hst HO HO3 qW
      by_cases hl : k + 1 = m
      ·have jK : ((k : Int) == (m : Int) - 1) = true := beq_iff_eq.2 Zj
       rw [if_pos Zcb] at bX dT eB
       obtain ⟨A4, cc4, e4, _, _, gY⟩ := Yuf mY.out
       cases e4
       have jO := Ya.mk gY
       clear gY
       go_wp2_with (at_builtin; first | (refine Yvc (w0 := w2) Value.string ByteArray.empty w2.heap.size rfl _ _ 23 9 (.string ⟨#[]⟩) 16 rfl Tryz.underlying23 Ype rfl Zw (fun _ => rfl) (.slice none 0 0) ([] : List Y) (out.map ofL) _ _ _ rfl rfl (World.ownsRow_nil _ _ _ _) jO.out cU.out cU.out.size Zna ?_; intro v5 w5 cS gK _ _) | (go_must (refine Ycd (w0 := w2) w2.heap.size rfl _ _ 23 9 (.string ⟨#[]⟩) 16 rfl Tryz.underlying23 Ype rfl Zw v5 (out.map fun x => Value.string (ofL x)) (.string ⟨#[]⟩) rfl rfl rfl Zgb gK gK.size Zeb ?_); intro v6 w6 dM lT _ _))
       have HO6 := Ya.mk dM
       have jG := Ya.mk lT
       clear dM lT cS gK
       go_wp2
       go_roundg g2
       case measure => omega
       case rel => exact ⟨k + 1, out ++ [[]], Zj, Zj, by go_num, eB.out, ⟨Zlb⟩, jG, bX, dT⟩
      ·have jK : ((k : Int) == (m : Int) - 1) = false := beq_eq_false_iff_ne.2 Zj
       rw [if_neg Zcb] at bX dT eB
       go_wp2
       go_roundg g2
       case measure => omega
       case rel => exact ⟨k + 1, out, Zj, Zj, by go_num, eB.out, mY, cU, bX, dT⟩
     ·have hst := Yzk (last := (ps.drop (k + 1)).isEmpty) (out := out) (p := p) Zjb
      rw [hst, HLast.out] at bX dT eB
      clear hst HO HO3 qW
      have hshape : (out = [] ∧ decide ((0 : Int) < ((out.length : Nat) : Int)) = false) ∨ (∃ gg L, A = some ⟨gg, 0, none⟩ ∧ out.length = L + 1 ∧ L + 1 ≤ cc) := by
       by_cases h0 : out.length = 0
       ·exact .inl ⟨List.eq_nil_of_length_eq_zero h0, Ko Zj⟩
       ·refine .inr ?_
        rcases mY.out.2 with ⟨h1, h2⟩ | ⟨gg, c4, cur, h1, _⟩
        ·exact absurd h2 h0
        ·cases h1
         exact ⟨gg, out.length - 1, rfl, Zj, Zj⟩
      rcases hshape with ⟨oQ, hd0⟩ | ⟨gg, L, rfl, hL, hLc⟩
      ·have hd1 : decide (0 < out.length) = false := Ko (by rw [oQ]; simp)
       have ht0 : out.take (out.length - 1) = out := by rw [oQ]; rfl
       rw [ht0] at bX dT eB
       clear ht0 oQ
       by_cases hl : k + 1 = m
       ·have jK : ((k : Int) == (m : Int) - 1) = true := beq_iff_eq.2 Zj
        rw [if_pos Zcb] at bX dT eB
        obtain ⟨A4, cc4, e4, _, _, gY⟩ := Yuf mY.out
        cases e4
        have jO := Ya.mk gY
        clear gY
        go_wp2_with (at_builtin; first | (refine Yvc (w0 := w2) Value.string ByteArray.empty w2.heap.size rfl _ _ 23 9 (.string ⟨#[]⟩) 16 rfl Tryz.underlying23 Ype rfl Zw (fun _ => rfl) (.slice none 0 0) ([] : List Y) (out.map ofL) _ _ _ rfl rfl (World.ownsRow_nil _ _ _ _) jO.out cU.out cU.out.size Zna ?_; intro v5 w5 cS gK _ _) | (go_must (refine Ycd (w0 := w2) w2.heap.size rfl _ _ 23 9 (.string ⟨#[]⟩) 16 rfl Tryz.underlying23 Ype rfl Zw v5 (out.map fun x => Value.string (ofL x)) (.string ⟨#[]⟩) rfl rfl rfl Zgb gK gK.size Zeb ?_); intro v6 w6 dM lT _ _))
        have HO6 := Ya.mk dM
        have jG := Ya.mk lT
        clear dM lT cS gK
        go_wp2
        go_roundg g2
        case measure => omega
        case rel => exact ⟨k + 1, out ++ [[]], Zj, Zj, by go_num, eB.out, ⟨Zlb⟩, jG, bX, dT⟩
       ·have jK : ((k : Int) == (m : Int) - 1) = false := beq_eq_false_iff_ne.2 Zj
        rw [if_neg Zcb] at bX dT eB
        go_wp2
        go_roundg g2
        case measure => omega
        case rel => exact ⟨k + 1, out, Zj, Zj, by go_num, eB.out, mY, cU, bX, dT⟩
      ·have HOt := Ya.mk (show OwnS w4 w2.heap.size (.slice (some ⟨gg, 0, none⟩) L cc) (out.take (out.length - 1)) from by
        have h3 := OwnS.take mY.out L Zj
        rw [show out.length - 1 = L by omega]; exact h3)
       have HLt := Ya.mk (show (out.take (out.length - 1)).length = L by rw [List.length_take]; omega)
       obtain ⟨o2, ho2⟩ : ∃ o2, o2 = out.take (out.length - 1) := ⟨_, rfl⟩
       rw [← ho2] at HOt HLt bX dT eB
       clear ho2 mY
       simp only [hL]
       have hd0 : decide ((0 : Int) < ((L + 1 : Nat) : Int)) = true := Kn Zj
       have hd1 : decide (0 < L + 1) = true := Kn Zj
       have ho2l : o2.length ≤ 1000000000 := by have := HLt.out; omega
       by_cases hl : k + 1 = m
       ·have jK : ((k : Int) == (m : Int) - 1) = true := beq_iff_eq.2 Zj
        rw [if_pos Zcb] at bX dT eB
        have jO := Ya.mk (show ReadsOf Value.string ByteArray.empty w4 (some ⟨gg, 0, none⟩) L (o2.map ofL) from by
         obtain ⟨A4, cc4, e4, _, _, gY⟩ := Yuf HOt.out
         rw [HLt.out] at e4 gY
         cases e4; exact gY)
        go_wp2_with (at_builtin; first | (refine Yvc (w0 := w2) Value.string ByteArray.empty w2.heap.size rfl _ _ 23 9 (.string ⟨#[]⟩) 16 rfl Tryz.underlying23 Ype rfl Zw (fun _ => rfl) (.slice none 0 0) ([] : List Y) (o2.map ofL) _ _ _ rfl rfl (World.ownsRow_nil _ _ _ _) jO.out cU.out cU.out.size Zna ?_; intro v5 w5 cS gK _ _) | (go_must (refine Ycd (w0 := w2) w2.heap.size rfl _ _ 23 9 (.string ⟨#[]⟩) 16 rfl Tryz.underlying23 Ype rfl Zw v5 (o2.map fun x => Value.string (ofL x)) (.string ⟨#[]⟩) rfl rfl rfl Zgb gK gK.size Zeb ?_); intro v6 w6 dM lT _ _))
        have HO6 := Ya.mk dM
        have jG := Ya.mk lT
        clear dM lT cS gK
        go_wp2
        go_roundg g2
        case measure => omega
        case rel => exact ⟨k + 1, o2 ++ [[]], Zj, Zj, by go_num, eB.out, ⟨Zlb⟩, jG, bX, dT⟩
       ·have jK : ((k : Int) == (m : Int) - 1) = false := beq_eq_false_iff_ne.2 Zj
        rw [if_neg Zcb] at bX dT eB
        go_wp2
        go_roundg g2
        case measure => omega
        case rel => exact ⟨k + 1, o2, Zj, Zj, by go_num, eB.out, HOt, cU, bX, dT⟩
 rcases key with ⟨r, hcase, hpos⟩ | ⟨hz, yM⟩
 ·rcases hcase with ⟨k1, k2, rfl⟩ | ⟨k1, k2, rfl⟩
  ·exact main true true (fun _ => hpos) (fun h => by cases h) (fun _ => ⟨k1, by simpa using k2⟩)
  ·exact main true false (fun _ => hpos) (fun h => by cases h) (fun _ => ⟨k1, by simpa using k2⟩)
 ·exact main false false (fun h => by cases h) (fun _ => ⟨hz, yM⟩) (fun h => by cases h)
theorem Yde.calls (a0 r : Y) (w : World) (hE : EnvOk w) (h : Yde.f a0 = some r) :
  Calls Tryz.prog 60 #[.string a0] w fun e w' => e = .returned (.string r) ∧ Below w.heap.size w w' := by
 unfold Yde.f at h
 by_cases hs : a0.size ≤ 30000000
 ·rw [if_pos hs] at h
  obtain rfl := Kr h
  have hsz := Lib.size_eq a0
  have hne : Yfe a0.data.toList ≠ [] := by rw [Ypj]; exact Yfg _ _
  have hf : ∀ l : List UInt8, headS a0.data.toList = l → l.length ≤ 100000000 → ∃ kp, Yx.f kp (ofL l) = some ((Yfe a0.data.toList).map ofL) := by
   intro l hl hlen
   obtain ⟨k, hk⟩ := parts_f (ofL l) (by rw [Yfa]; exact hlen)
   have h1 : Yx.f k (ofL l) = _ := hk k (Ks _)
   exact ⟨k, by rw [h1, Ytb, Ypj, hl]⟩
  cases hd : a0.data.toList with
  | nil =>
   obtain ⟨kp, hk⟩ := hf [] (by rw [hd]; rfl) Zq
   have e : ofL [] = a0 := Ysf (by rw [hd]; rfl)
   rw [e] at hk
   rw [← hd]
   exact Yrk a0 a0 w _ hE rfl hs kp hk hne (.inr (.inr ⟨hd, rfl⟩))
  | cons b t =>
   rw [hd] at hsz
   simp only [List.length_cons] at hsz
   rw [← hd]
   by_cases hp : Ypc b = true
   ·obtain ⟨kp, hk⟩ := hf t (by rw [hd, headS, if_pos hp]) Zj
    exact Yrk a0 (ofL t) w _ hE rfl hs kp hk hne (.inl ⟨t, b, hd, hp, rfl⟩)
   ·obtain ⟨kp, hk⟩ := hf (b :: t) (by rw [hd, headS, if_neg hp]) (by simp only [List.length_cons]; omega)
    have e : ofL (b :: t) = a0 := Ysf (by rw [hd]; rfl)
    rw [e] at hk
    exact Yrk a0 a0 w _ hE rfl hs kp hk hne (.inr (.inl ⟨t, b, hd, by simpa using hp, rfl⟩))
 ·rw [if_neg hs] at h; cases h
end Go.Proofs.YtihaeeldgimdiaaGreatDoor.X
