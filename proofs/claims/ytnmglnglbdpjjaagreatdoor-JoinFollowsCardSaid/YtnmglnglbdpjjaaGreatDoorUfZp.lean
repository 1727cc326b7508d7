import Derived.Test.YtnmglnglbdpjjaaGreatDoorUfZr
set_option linter.all false
namespace Go.Proofs.YtnmglnglbdpjjaaGreatDoor.X
open Go.RowKit Go.Lib Go.Shelf Go.Yw.PrintWords Go.Yw.PrintLast Go.Yw.PrintMore
attribute [local go_sem] Yfe Ybe Yre Yue Yld Ykd Yee Yde
def headS : List UInt8 → List UInt8
 | [] => []
 | b :: t => if Yrb b = true then t else b :: t
theorem Yvj (l : List UInt8) : Yhd l = splitB 47 (Yxc (headS l)) := by
 unfold Yhd
 cases l with
 | nil => rfl
 | cons b t =>
  show (if (decide (1 < (splitB 47 (Yih b :: Yxc t)).length) && ((splitB 47 (Yih b :: Yxc t)).headD []).isEmpty) = true then (splitB 47 (Yih b :: Yxc t)).tail else splitB 47 (Yih b :: Yxc t)) = splitB 47 (Yxc (if Yrb b = true then t else b :: t))
  rw [splitB]
  by_cases hp : Yrb b = true
  ·have hb : Yih b = 47 := by
    unfold Yrb at hp; unfold Yih
    rw [Bool.or_eq_true, beq_iff_eq, beq_iff_eq] at hp
    rcases hp with rfl | rfl <;> decide
   have hl : 0 < (splitB 47 (Yxc t)).length := List.length_pos_iff.2 (Ytf _ _)
   rw [if_pos hb, if_pos hp, if_pos]
   ·rfl
   ·simp only [List.length_cons, List.headD_cons, List.isEmpty_nil, Bool.and_true, decide_eq_true_eq]; omega
  ·have hb : ¬ Yih b = 47 := by
    unfold Yrb at hp; unfold Yih
    rw [Bool.or_eq_true, beq_iff_eq, beq_iff_eq] at hp
    intro e
    split at e
    ·next h => exact hp (.inr h)
    ·exact hp (.inl e)
   rw [if_neg hb, if_neg hp, if_neg]
   ·show _ = splitB 47 (Yih b :: Yxc t)
    rw [splitB, if_neg hb]
   ·cases hsx : splitB 47 (Yxc t) with
    | nil => exact absurd hsx (Ytf _ _)
    | cons x y => simp [Ymf]
theorem Ypg {W : World} {base : Nat} {v : Value} {xs : List (List UInt8)} (h : OwnS W base v xs) :
  ∃ A cap, v = .slice A xs.length cap ∧ xs.length ≤ cap ∧ cap ≤ 9223372036854775807 ∧ ReadsOf Value.string ByteArray.empty W A xs.length (xs.map ofL) := by
 rcases h.2 with ⟨rfl, h0⟩ | ⟨gg, cc, cur, rfl, hgb, hgh, hgn, hgc, hgs, hgt⟩
 ·have qJ : xs = [] := List.eq_nil_of_length_eq_zero h0
  subst qJ
  exact ⟨none, 0, rfl, Kw _, Zk, rfl, Zv, fun hp => absurd hp Zv⟩
 ·unfold maxLen at hgc
  refine ⟨some ⟨gg, 0, none⟩, cc, rfl, hgn, hgc, List.length_map _, Zk, fun hp => ⟨_, rfl, fun j hj => ?_⟩⟩
  have h3 : (cur.toList.take (xs.length * 1))[j]? = some (.string (ofL xs[j])) := by
   rw [hgt, List.getElem?_map, List.getElem?_eq_getElem hj]; rfl
  rw [List.getElem?_take, if_pos Zk] at h3
  rw [show (Addr.add ⟨gg, 0, none⟩ j) = ⟨gg, j, none⟩ from by unfold Addr.add; split <;> simp_all]
  unfold World.cell?
  rw [hgh]
  rw [List.getD_eq_getElem?_getD, List.getElem?_map, List.getElem?_eq_getElem hj]
  simpa using h3
theorem Ydg {W : World} {base : Nat} {v : Value} {xs : List (List UInt8)} (h : W.ownsRow base 9 1 v (([] : List Y) ++ xs.map ofL).length (encs Value.string (([] : List Y) ++ xs.map ofL))) : OwnS W base v xs := by
 have e : encs Value.string (([] : List Y) ++ xs.map ofL) = xs.map fun x => Value.string (ofL x) := by
  unfold encs; rw [List.nil_append, List.map_map]; rfl
 rw [e, List.nil_append, List.length_map] at h
 exact h
theorem Ygt {w w2 : World} {n : Nat} (h : Below (w.drewN n).heap.size (w.drewN n) w2) : Below w.heap.size w w2 := (Yb (Below.refl w.heap.size w) n).trans h
def Yze.f (a0 : Y) : Option Y := if a0.size ≤ 30000000 then some (ofL (Yxe a0.data.toList)) else none
set_option maxHeartbeats 8000000 in
set_option maxRecDepth 100000 in
theorem Yol (a0 s1 : Y) (w : World) (ps : List (List UInt8)) (hE : EnvOk w) (hps : ps = Yhd a0.data.toList) (hs : a0.size ≤ 30000000) (kp : Nat)
  (hf : Yha.f kp s1 = some (ps.map ofL)) (hne : ps ≠ [])
  (hhead : (∃ t b, a0.data.toList = b :: t ∧ Yrb b = true ∧ s1 = ofL t) ∨ (∃ t b, a0.data.toList = b :: t ∧ Yrb b = false ∧ s1 = a0) ∨ (a0.data.toList = [] ∧ s1 = a0)) :
  Calls Tryz.prog 24 #[.string a0] w fun e w' => e = .returned (.string (ofL (Yxe a0.data.toList))) ∧ Below w.heap.size w w' := by
 have HE := Ya.mk hE
 have HF := Ya.mk hf
 have HSn := Ya.mk hne
 have HRoom := Ya.mk (Yoi a0.data.toList)
 have HPL := Ya.mk (show Yxe a0.data.toList = 47 :: Lib.join (Ysc (Yhd a0.data.toList) []) [47] from rfl)
 obtain ⟨R, hR⟩ : ∃ R, R = Yxe a0.data.toList := ⟨_, rfl⟩
 rw [← hR] at HPL ⊢
 rw [← hps] at HPL HRoom
 rw [← Lib.size_eq] at HRoom
 have HS := Ya.mk hs
 clear hE hf hne hR hps hs
 have key : (∃ r, ((Yab.f (bt a0 0) = some true ∧ s1 = a0.extract 1 a0.size ∧ r = true) ∨ (Yab.f (bt a0 0) = some false ∧ s1 = a0 ∧ r = false)) ∧ 0 < a0.size) ∨ (a0.size = 0 ∧ s1 = a0) := by
  rcases hhead with ⟨t, b, h1, h2, h3⟩ | ⟨t, b, h1, h2, h3⟩ | ⟨h1, h2⟩
  ·obtain ⟨k1, k2, k3⟩ := Yvc a0 0 b t h1
   refine .inl ⟨true, .inl ⟨?_, ?_, rfl⟩, k1⟩
   ·have := Yci b; rw [h2] at this; rw [show (0 : Int) = ((0 : Nat) : Int) from rfl, k2]; exact this
   ·rw [Yuc, h1]; exact h3
  ·obtain ⟨k1, k2, k3⟩ := Yvc a0 0 b t h1
   refine .inl ⟨false, .inr ⟨?_, h3, rfl⟩, k1⟩
   have := Yci b; rw [h2] at this; rw [show (0 : Int) = ((0 : Nat) : Int) from rfl, k2]; exact this
  ·exact .inr ⟨by rw [Lib.size_eq, h1]; rfl, h2⟩
 clear hhead
 have main : ∀ (c : Bool) (d : Bool), (c = true → 0 < a0.size) → (c = false → a0.size = 0 ∧ s1 = a0) → (c = true → Yab.f (bt a0 0) = some d ∧ s1 = (if d = true then a0.extract 1 a0.size else a0)) →
   Calls Tryz.prog 24 #[.string a0] w fun e w' => e = .returned (.string (ofL R)) ∧ Below w.heap.size w w' := by
  intro c d h1 h2 h3
  have jF : ∀ h : 0 < a0.size, ((a0[0]'h).toNat : Int) = bt a0 0 := Ybb a0 0
  have h3cases : (c = true ∧ d = true ∧ 0 < a0.size ∧ Yab.f (bt a0 0) = some true ∧ s1 = a0.extract 1 a0.size) ∨ (c = true ∧ d = false ∧ 0 < a0.size ∧ Yab.f (bt a0 0) = some false ∧ s1 = a0) ∨ (c = false ∧ a0.size = 0 ∧ s1 = a0) := by
   cases c with
   | false => exact .inr (.inr ⟨rfl, h2 rfl⟩)
   | true =>
    have := h3 rfl
    cases d with
    | true => exact .inl ⟨rfl, rfl, h1 rfl, this.1, by simpa using this.2⟩
    | false => exact .inr (.inl ⟨rfl, rfl, h1 rfl, this.1, by simpa using this.2⟩)
  clear h1 h2 h3
  have HPT : Ya (∀ w0 : World, EnvOk w0 → Calls Tryz.prog 64 #[.string s1] w0 fun e w' => ∃ v0_ : Value, e = .returned (v0_) ∧ Kd.R Kd.string 9 w' w0.heap.size (fun _ => True) v0_ (ps.map ofL) ∧ Below w0.heap.size w0 w') := ⟨fun w0 hw0 => Yha.calls kp s1 _ w0 hw0 HF.out⟩
  clear HF
  rcases h3cases with ⟨rfl, rfl, hpos, hsl, jG⟩ | ⟨rfl, rfl, hpos, hsl, jG⟩ | ⟨rfl, hz, jG⟩
  all_goals
   rw [jG] at HPT
   clear jG
  rotate_left 2
  ·have cC : decide (0 < (a0.size : Int)) = false := Ks Zk
   have fX : decide (0 < a0.size) = false := Ks Zk
   clear jF hz
   go_enter Tryz.func24, Tryz.ntmps24
   go_wp2_with fail
   refine (HPT.out _ HE.out).mono ?_
   rintro e w2 ⟨v0, rfl, hr2, bU⟩
   have eL := Ya.mk bU
   have uQ := Ya.mk (HE.out.below bU)
   obtain ⟨g, cap, rfl, yX, tL, hgb, hrow⟩ := Ygo hr2 HSn.out
   have HROW := Ya.mk hrow
   have aGb : 1 ≤ ps.length := List.length_pos_iff.2 HSn.out
   have hglt : Ya (g < w2.heap.size) := ⟨by
    have h0 : 0 < ps.length := List.length_pos_iff.2 HSn.out
    exact lt_of_cell (hrow 0 h0)⟩
   clear hr2 bU hrow hgb
   unfold maxLen at tL
   go_wp2
   obtain ⟨m, hm⟩ : ∃ m, m = ps.length := ⟨_, rfl⟩
   rw [← hm] at yX
   simp only [← hm]
   have HMl := Ya.mk hm
   have hmb : m ≤ 1000000000 := by have := Ygk ps; have := HRoom.out; have := HS.out; omega
   clear hm aGb
   go_loopg [4, 5, 6, 7] m (fun g2 v4 v5 _ _ wx => ∃ (k : Nat) (out : List (List UInt8)), k + g2 ≤ m ∧ m ≤ k + g2 ∧ v5 = .int .i64 (k : Int) ∧ out.length ≤ 1000000000 ∧ Ya (OwnS wx w2.heap.size v4 out) ∧ Ya (Below w2.heap.size w2 wx) ∧ Ya (Ysc (ps.drop k) out = Ysc ps []) ∧ Ya (tot out + room (ps.drop k) ≤ 3 * a0.size + 3))
   case atStart => exact ⟨0, [], Zk, Zk, rfl, Zv, ⟨World.ownsRow_nil _ _ _ _⟩, ⟨Below.refl _ _⟩, ⟨rfl⟩, ⟨by simpa [tot] using HRoom.out⟩⟩
   case round =>
    obtain ⟨k, out, uR, hk2, rfl, hol, HO, HB, HPO, HTo⟩ := hrel
    obtain ⟨A, cc, rfl, aGc, aVW, hrd⟩ := Ypg HO.out
    have rK := Ya.mk hrd
    clear hrd
    cases gk with
    | zero =>
     obtain rfl : k = m := by omega
     have hlt : decide ((k : Int) < (k : Int)) = false := Ks Zk
     have hfin := HPO.out
     rw [HMl.out, List.drop_eq_nil_of_le (Nat.le_refl _), Ysc] at hfin
     have hjl := Ytn out
     have htl := HTo.out
     have hs9 := HS.out
     have aDK := Ysg out
     obtain ⟨kj, hj⟩ := rjoin_f [47] out Zk Zk
     have hj1 : Yjb.f kj ⟨#[47]⟩ (out.map ofL) = some (ofL (Lib.join out [47])) := hj kj (Kw _)
     have HJ := Ya.mk hj1
     have HEx := Ya.mk (uQ.out.below HB.out)
     have HFin := Ya.mk hfin
     have hjs : (ofL (Lib.join out [47])).size ≤ 1000000000 := by rw [Yy]; omega
     have HC := Ya.mk (show Kd.C Kd.string wr A (out.map ofL).length (out.map ofL) from Kd.C_of_reads (enc := Value.string) (d := ByteArray.empty) (h1 := fun _ => rfl) (by rw [List.length_map]; exact rK.out))
     have HLm := Ya.mk (show (out.map ofL).length = out.length from List.length_map _)
     clear hj hj1 hfin hjl htl hs9 aDK
     go_wp2_with fail
     have hcall := Yjb.calls kj ⟨#[47]⟩ A cc (out.map ofL) _ wr HEx.out HC.out (by rw [HLm.out]; exact aGc) HJ.out
     rw [HLm.out] at hcall
     refine hcall.mono ?_
     clear hcall
     rintro e w5 ⟨rfl, ⟨nd5, rfl⟩⟩
     have cM := Ya.mk (show Below w.heap.size w (wr.drewN nd5) from Yb (eL.out.trans (HB.out.mono eL.out.size)) nd5)
     go_wp2
     go_ret
     refine ⟨?_, cM.out⟩
     rw [HPL.out, ← HFin.out]; rfl
    | succ g2 =>
     have hk : k < m := by omega
     have hkp : k < ps.length := by have := HMl.out; omega
     have hlt : decide ((k : Int) < (m : Int)) = true := Kr Zk
     have hcell := (HROW.out.below HB.out) k hkp
     try simp only [Nat.zero_add] at hcell
     have HRD := Ya.mk (Ytm ps k hkp)
     have HDr := Ya.mk (List.drop_eq_getElem_cons hkp)
     obtain ⟨p, hp⟩ : ∃ p, p = ps[k] := ⟨_, rfl⟩
     rw [← hp] at hcell HRD HDr
     have hpl : Ya (p.length ≤ 31000000) := ⟨by have := HTo.out; have := HRD.out; have := HS.out; omega⟩
     obtain ⟨km, hm1⟩ := Yck (ofL p) ⟨#[35, 63, 96, 123, 125]⟩ (by rw [Yy]; have := hpl.out; omega) Zca
     have uT : Ys.f km (ofL p) ⟨#[35, 63, 96, 123, 125]⟩ = some (ofL (Yic Yrc p)) := hm1 km (Kw _)
     obtain ⟨kd, hd1⟩ := Yiq (ofL (Yic Yrc p)) Zvb
     have iZ : Yfb.f kd (ofL (Yic Yrc p)) = some ((Yqg (Yic Yrc p) : Nat) : Int) := hd1 kd (Kw _)
     have zT := Ya.mk uT
     have lO := Ya.mk iZ
     have HQl := Ya.mk (Ych Yrc p)
     have HE3 := Ya.mk (uQ.out.below HB.out)
     have aBN := Ya.mk (fun last => Yji last out p)
     obtain ⟨q, hq⟩ : ∃ q, q = Yic Yrc p := ⟨_, rfl⟩
     obtain ⟨n, hn⟩ : ∃ n, n = Yqg q := ⟨_, rfl⟩
     have hn3 : n = 0 ∨ n = 1 ∨ n = 2 := by
      rw [hn]; unfold Yqg
      split
      ·omega
      ·split <;> omega
     rw [← hq] at zT lO HQl
     rw [← hn] at lO
     have HN := Ya.mk hn
     have HQ := Ya.mk hq
     clear uT iZ hp hq hn hm1 hd1
     go_wp2_with fail
     refine (Ys.calls km _ _ _ _ HE3.out zT.out).mono ?_
     rintro e w3 ⟨rfl, gN⟩
     have HE4 := Ya.mk (HE3.out.below gN)
     have eF := Ya.mk (HB.out.trans (gN.mono HB.out.size))
     have HO3 := Ya.mk (Yyg HO.out gN)
     clear gN
     go_wp2_with fail
     refine (Yfb.calls kd _ _ _ HE4.out lO.out).mono ?_
     rintro e w4 ⟨rfl, kW⟩
     have HE5 := Ya.mk (HE4.out.below kW)
     have dL := Ya.mk (eF.out.trans (kW.mono eF.out.size))
     have lU := Ya.mk (Yyg HO3.out kW)
     clear kW hcell hlt
     have bY := Ya.mk (show Ysc (ps.drop (k + 1)) (Ydd (ps.drop (k + 1)).isEmpty out p) = Ysc ps [] by
      have := HPO.out
      rw [HDr.out, Ysc] at this; exact this)
     have HLast := Ya.mk (show (ps.drop (k + 1)).isEmpty = decide (k + 1 = m) by
      have := HMl.out
      rw [Bool.eq_iff_iff, List.isEmpty_iff, List.drop_eq_nil_iff, decide_eq_true_iff]
      omega)
     have aBC := HTo.out
     have htl := Ysg out
     have hHSL := aBN.out (ps.drop (k + 1)).isEmpty
     have hR3 := HRD.out
     have eE := Ya.mk (show tot (Ydd (ps.drop (k + 1)).isEmpty out p) + room (ps.drop (k + 1)) ≤ 3 * a0.size + 3 by omega)
     have eN := Ya.mk (show (Ydd (ps.drop (k + 1)).isEmpty out p).length ≤ 1000000000 by
      have := Ysg (Ydd (ps.drop (k + 1)).isEmpty out p); have := eE.out; have := HS.out; omega)
     clear aBC htl hHSL hR3 aBN HTo HPO HRD HDr zT lO
     rcases hn3 with rfl | rfl | rfl
     ·have hst := Ypj (last := (ps.drop (k + 1)).isEmpty) (out := out) (p := p) Zjb
      rw [hst, ← HQ.out] at bY eE eN
      clear hst HO HO3 rK
      obtain ⟨A4, cc4, e4, _, _, gU⟩ := Ypg lU.out
      cases e4
      have pW := Ya.mk gU
      clear gU
      go_wp2_with (at_builtin; first | (refine Yod (w0 := w2) Value.string ByteArray.empty w2.heap.size rfl _ _ 44 9 (.string ⟨#[]⟩) 16 rfl Tryz.underlying44 Yog rfl Zca (fun _ => rfl) (.slice none 0 0) ([] : List Y) (out.map ofL) _ _ _ rfl rfl (World.ownsRow_nil _ _ _ _) pW.out dL.out dL.out.size Zua ?_; intro v5 w5 cV gW _ _) | (go_must (refine Ywd (w0 := w2) w2.heap.size rfl _ _ 44 9 (.string ⟨#[]⟩) 16 rfl Tryz.underlying44 Yog rfl Zca v5 (out.map fun x => Value.string (ofL x)) (.string (ofL q)) rfl rfl rfl Zgb gW gW.size Zeb ?_); intro v6 w6 dT oV _ _))
      have HO6 := Ya.mk dT
      have jH := Ya.mk oV
      clear dT oV cV gW
      go_wp2
      go_roundg g2
      case measure => omega
      case rel => exact ⟨k + 1, out ++ [q], Zk, Zk, by go_num, eN.out, ⟨by simpa [OwnS] using HO6.out⟩, jH, bY, eE⟩
     ·have hst := Yyl (last := (ps.drop (k + 1)).isEmpty) (out := out) (p := p) Zjb
      rw [hst, HLast.out] at bY eE eN
      clear hst HO HO3 rK
      by_cases hl : k + 1 = m
      ·have jY : ((k : Int) == (m : Int) - 1) = true := beq_iff_eq.2 Zk
       rw [if_pos Zbb] at bY eE eN
       obtain ⟨A4, cc4, e4, _, _, gU⟩ := Ypg lU.out
       cases e4
       have pW := Ya.mk gU
       clear gU
       go_wp2_with (at_builtin; first | (refine Yod (w0 := w2) Value.string ByteArray.empty w2.heap.size rfl _ _ 44 9 (.string ⟨#[]⟩) 16 rfl Tryz.underlying44 Yog rfl Zca (fun _ => rfl) (.slice none 0 0) ([] : List Y) (out.map ofL) _ _ _ rfl rfl (World.ownsRow_nil _ _ _ _) pW.out dL.out dL.out.size Zua ?_; intro v5 w5 cV gW _ _) | (go_must (refine Ywd (w0 := w2) w2.heap.size rfl _ _ 44 9 (.string ⟨#[]⟩) 16 rfl Tryz.underlying44 Yog rfl Zca v5 (out.map fun x => Value.string (ofL x)) (.string ⟨#[]⟩) rfl rfl rfl Zgb gW gW.size Zeb ?_); intro v6 w6 dT oV _ _))
       have HO6 := Ya.mk dT
       have jH := Ya.mk oV
       clear dT oV cV gW
       go_wp2
       go_roundg g2
       case measure => omega
       case rel => exact ⟨k + 1, out ++ [[]], Zk, Zk, by go_num, eN.out, ⟨Zob⟩, jH, bY, eE⟩
      ·have jY : ((k : Int) == (m : Int) - 1) = false := beq_eq_false_iff_ne.2 Zk
       rw [if_neg Zbb] at bY eE eN
       go_wp2
       go_roundg g2
       case measure => omega
       case rel => exact ⟨k + 1, out, Zk, Zk, by go_num, eN.out, lU, dL, bY, eE⟩
     ·have hst := Yrl (last := (ps.drop (k + 1)).isEmpty) (out := out) (p := p) Zjb
      rw [hst, HLast.out] at bY eE eN
      clear hst HO HO3 rK
      have hshape : (out = [] ∧ decide ((0 : Int) < ((out.length : Nat) : Int)) = false) ∨ (∃ gg L, A = some ⟨gg, 0, none⟩ ∧ out.length = L + 1 ∧ L + 1 ≤ cc) := by
       by_cases h0 : out.length = 0
       ·exact .inl ⟨List.eq_nil_of_length_eq_zero h0, Ks Zk⟩
       ·refine .inr ?_
        rcases lU.out.2 with ⟨h1, h2⟩ | ⟨gg, c4, cur, h1, _⟩
        ·exact absurd h2 h0
        ·cases h1
         exact ⟨gg, out.length - 1, rfl, Zk, Zk⟩
      rcases hshape with ⟨qJ, hd0⟩ | ⟨gg, L, rfl, hL, hLc⟩
      ·have hd1 : decide (0 < out.length) = false := Ks (by rw [qJ]; simp)
       have ht0 : out.take (out.length - 1) = out := by rw [qJ]; rfl
       rw [ht0] at bY eE eN
       clear ht0 qJ
       by_cases hl : k + 1 = m
       ·have jY : ((k : Int) == (m : Int) - 1) = true := beq_iff_eq.2 Zk
        rw [if_pos Zbb] at bY eE eN
        obtain ⟨A4, cc4, e4, _, _, gU⟩ := Ypg lU.out
        cases e4
        have pW := Ya.mk gU
        clear gU
        go_wp2_with (at_builtin; first | (refine Yod (w0 := w2) Value.string ByteArray.empty w2.heap.size rfl _ _ 44 9 (.string ⟨#[]⟩) 16 rfl Tryz.underlying44 Yog rfl Zca (fun _ => rfl) (.slice none 0 0) ([] : List Y) (out.map ofL) _ _ _ rfl rfl (World.ownsRow_nil _ _ _ _) pW.out dL.out dL.out.size Zua ?_; intro v5 w5 cV gW _ _) | (go_must (refine Ywd (w0 := w2) w2.heap.size rfl _ _ 44 9 (.string ⟨#[]⟩) 16 rfl Tryz.underlying44 Yog rfl Zca v5 (out.map fun x => Value.string (ofL x)) (.string ⟨#[]⟩) rfl rfl rfl Zgb gW gW.size Zeb ?_); intro v6 w6 dT oV _ _))
        have HO6 := Ya.mk dT
        have jH := Ya.mk oV
        clear dT oV cV gW
        go_wp2
        go_roundg g2
        case measure => omega
        case rel => exact ⟨k + 1, out ++ [[]], Zk, Zk, by go_num, eN.out, ⟨Zob⟩, jH, bY, eE⟩
       ·have jY : ((k : Int) == (m : Int) - 1) = false := beq_eq_false_iff_ne.2 Zk
        rw [if_neg Zbb] at bY eE eN
        go_wp2
        go_roundg g2
        case measure => omega
        case rel => exact ⟨k + 1, out, Zk, Zk, by go_num, eN.out, lU, dL, bY, eE⟩
      ·have HOt := Ya.mk (show OwnS w4 w2.heap.size (.slice (some ⟨gg, 0, none⟩) L cc) (out.take (out.length - 1)) from by
        have h3 := OwnS.take lU.out L Zk
        rw [show out.length - 1 = L by omega]; exact h3)
       have HLt := Ya.mk (show (out.take (out.length - 1)).length = L by rw [List.length_take]; omega)
       obtain ⟨o2, ho2⟩ : ∃ o2, o2 = out.take (out.length - 1) := ⟨_, rfl⟩
       rw [← ho2] at HOt HLt bY eE eN
       clear ho2 lU
       simp only [hL]
       have hd0 : decide ((0 : Int) < ((L + 1 : Nat) : Int)) = true := Kr Zk
       have hd1 : decide (0 < L + 1) = true := Kr Zk
       have ho2l : o2.length ≤ 1000000000 := by have := HLt.out; omega
       by_cases hl : k + 1 = m
       ·have jY : ((k : Int) == (m : Int) - 1) = true := beq_iff_eq.2 Zk
        rw [if_pos Zbb] at bY eE eN
        have pW := Ya.mk (show ReadsOf Value.string ByteArray.empty w4 (some ⟨gg, 0, none⟩) L (o2.map ofL) from by
         obtain ⟨A4, cc4, e4, _, _, gU⟩ := Ypg HOt.out
         rw [HLt.out] at e4 gU
         cases e4; exact gU)
        go_wp2_with (at_builtin; first | (refine Yod (w0 := w2) Value.string ByteArray.empty w2.heap.size rfl _ _ 44 9 (.string ⟨#[]⟩) 16 rfl Tryz.underlying44 Yog rfl Zca (fun _ => rfl) (.slice none 0 0) ([] : List Y) (o2.map ofL) _ _ _ rfl rfl (World.ownsRow_nil _ _ _ _) pW.out dL.out dL.out.size Zua ?_; intro v5 w5 cV gW _ _) | (go_must (refine Ywd (w0 := w2) w2.heap.size rfl _ _ 44 9 (.string ⟨#[]⟩) 16 rfl Tryz.underlying44 Yog rfl Zca v5 (o2.map fun x => Value.string (ofL x)) (.string ⟨#[]⟩) rfl rfl rfl Zgb gW gW.size Zeb ?_); intro v6 w6 dT oV _ _))
        have HO6 := Ya.mk dT
        have jH := Ya.mk oV
        clear dT oV cV gW
        go_wp2
        go_roundg g2
        case measure => omega
        case rel => exact ⟨k + 1, o2 ++ [[]], Zk, Zk, by go_num, eN.out, ⟨Zob⟩, jH, bY, eE⟩
       ·have jY : ((k : Int) == (m : Int) - 1) = false := beq_eq_false_iff_ne.2 Zk
        rw [if_neg Zbb] at bY eE eN
        go_wp2
        go_roundg g2
        case measure => omega
        case rel => exact ⟨k + 1, o2, Zk, Zk, by go_num, eN.out, HOt, dL, bY, eE⟩
  all_goals
   have cC : decide (0 < (a0.size : Int)) = true := Kr Zk
   have fX : decide (0 < a0.size) = true := Kr hpos
   have tV : (0 < (a0.size : Int)) = True := Kt Zk
   have b1 : (1 : Int) ≤ (a0.size : Int) := by omega
   have q4 := Kt hpos
   clear hpos
   have HSL := Ya.mk hsl
   clear hsl
   go_enter Tryz.func24, Tryz.ntmps24
   go_wp2_with (first | (go_at_call 48; (with_reducible refine (Yab.calls (bt a0 0) _ _ ?z1 HSL.out).mono ?_); (case z1 => exact Kj); rintro e w' ⟨rfl, ⟨nd, rfl⟩⟩))
   clear jF q4 tV b1
   refine (HPT.out (w.drewN nd) (EnvOk.heap HE.out rfl)).mono ?_
   rintro e w2 ⟨v0, rfl, hr2, bU⟩
   have eL := Ya.mk (show Below w.heap.size w w2 from Ygt bU)
   have uQ := Ya.mk (HE.out.below eL.out)
   obtain ⟨g, cap, rfl, yX, tL, hgb, hrow⟩ := Ygo hr2 HSn.out
   have HROW := Ya.mk hrow
   have aGb : 1 ≤ ps.length := List.length_pos_iff.2 HSn.out
   have hglt : Ya (g < w2.heap.size) := ⟨by
    have h0 : 0 < ps.length := List.length_pos_iff.2 HSn.out
    exact lt_of_cell (hrow 0 h0)⟩
   clear hr2 bU hrow hgb
   unfold maxLen at tL
   go_wp2
   obtain ⟨m, hm⟩ : ∃ m, m = ps.length := ⟨_, rfl⟩
   rw [← hm] at yX
   simp only [← hm]
   have HMl := Ya.mk hm
   have hmb : m ≤ 1000000000 := by have := Ygk ps; have := HRoom.out; have := HS.out; omega
   clear hm aGb
   go_loopg [4, 5, 6, 7] m (fun g2 v4 v5 _ _ wx => ∃ (k : Nat) (out : List (List UInt8)), k + g2 ≤ m ∧ m ≤ k + g2 ∧ v5 = .int .i64 (k : Int) ∧ out.length ≤ 1000000000 ∧ Ya (OwnS wx w2.heap.size v4 out) ∧ Ya (Below w2.heap.size w2 wx) ∧ Ya (Ysc (ps.drop k) out = Ysc ps []) ∧ Ya (tot out + room (ps.drop k) ≤ 3 * a0.size + 3))
   case atStart => exact ⟨0, [], Zk, Zk, rfl, Zv, ⟨World.ownsRow_nil _ _ _ _⟩, ⟨Below.refl _ _⟩, ⟨rfl⟩, ⟨by simpa [tot] using HRoom.out⟩⟩
   case round =>
    obtain ⟨k, out, uR, hk2, rfl, hol, HO, HB, HPO, HTo⟩ := hrel
    obtain ⟨A, cc, rfl, aGc, aVW, hrd⟩ := Ypg HO.out
    have rK := Ya.mk hrd
    clear hrd
    cases gk with
    | zero =>
     obtain rfl : k = m := by omega
     have hlt : decide ((k : Int) < (k : Int)) = false := Ks Zk
     have hfin := HPO.out
     rw [HMl.out, List.drop_eq_nil_of_le (Nat.le_refl _), Ysc] at hfin
     have hjl := Ytn out
     have htl := HTo.out
     have hs9 := HS.out
     have aDK := Ysg out
     obtain ⟨kj, hj⟩ := rjoin_f [47] out Zk Zk
     have hj1 : Yjb.f kj ⟨#[47]⟩ (out.map ofL) = some (ofL (Lib.join out [47])) := hj kj (Kw _)
     have HJ := Ya.mk hj1
     have HEx := Ya.mk (uQ.out.below HB.out)
     have HFin := Ya.mk hfin
     have hjs : (ofL (Lib.join out [47])).size ≤ 1000000000 := by rw [Yy]; omega
     have HC := Ya.mk (show Kd.C Kd.string wr A (out.map ofL).length (out.map ofL) from Kd.C_of_reads (enc := Value.string) (d := ByteArray.empty) (h1 := fun _ => rfl) (by rw [List.length_map]; exact rK.out))
     have HLm := Ya.mk (show (out.map ofL).length = out.length from List.length_map _)
     clear hj hj1 hfin hjl htl hs9 aDK
     go_wp2_with fail
     have hcall := Yjb.calls kj ⟨#[47]⟩ A cc (out.map ofL) _ wr HEx.out HC.out (by rw [HLm.out]; exact aGc) HJ.out
     rw [HLm.out] at hcall
     refine hcall.mono ?_
     clear hcall
     rintro e w5 ⟨rfl, ⟨nd5, rfl⟩⟩
     have cM := Ya.mk (show Below w.heap.size w (wr.drewN nd5) from Yb (eL.out.trans (HB.out.mono eL.out.size)) nd5)
     go_wp2
     go_ret
     refine ⟨?_, cM.out⟩
     rw [HPL.out, ← HFin.out]; rfl
    | succ g2 =>
     have hk : k < m := by omega
     have hkp : k < ps.length := by have := HMl.out; omega
     have hlt : decide ((k : Int) < (m : Int)) = true := Kr Zk
     have hcell := (HROW.out.below HB.out) k hkp
     try simp only [Nat.zero_add] at hcell
     have HRD := Ya.mk (Ytm ps k hkp)
     have HDr := Ya.mk (List.drop_eq_getElem_cons hkp)
     obtain ⟨p, hp⟩ : ∃ p, p = ps[k] := ⟨_, rfl⟩
     rw [← hp] at hcell HRD HDr
     have hpl : Ya (p.length ≤ 31000000) := ⟨by have := HTo.out; have := HRD.out; have := HS.out; omega⟩
     obtain ⟨km, hm1⟩ := Yck (ofL p) ⟨#[35, 63, 96, 123, 125]⟩ (by rw [Yy]; have := hpl.out; omega) Zca
     have uT : Ys.f km (ofL p) ⟨#[35, 63, 96, 123, 125]⟩ = some (ofL (Yic Yrc p)) := hm1 km (Kw _)
     obtain ⟨kd, hd1⟩ := Yiq (ofL (Yic Yrc p)) Zvb
     have iZ : Yfb.f kd (ofL (Yic Yrc p)) = some ((Yqg (Yic Yrc p) : Nat) : Int) := hd1 kd (Kw _)
     have zT := Ya.mk uT
     have lO := Ya.mk iZ
     have HQl := Ya.mk (Ych Yrc p)
     have HE3 := Ya.mk (uQ.out.below HB.out)
     have aBN := Ya.mk (fun last => Yji last out p)
     obtain ⟨q, hq⟩ : ∃ q, q = Yic Yrc p := ⟨_, rfl⟩
     obtain ⟨n, hn⟩ : ∃ n, n = Yqg q := ⟨_, rfl⟩
     have hn3 : n = 0 ∨ n = 1 ∨ n = 2 := by
      rw [hn]; unfold Yqg
      split
      ·omega
      ·split <;> omega
     rw [← hq] at zT lO HQl
     rw [← hn] at lO
     have HN := Ya.mk hn
     have HQ := Ya.mk hq
     clear uT iZ hp hq hn hm1 hd1
     go_wp2_with fail
     refine (Ys.calls km _ _ _ _ HE3.out zT.out).mono ?_
     rintro e w3 ⟨rfl, gN⟩
     have HE4 := Ya.mk (HE3.out.below gN)
     have eF := Ya.mk (HB.out.trans (gN.mono HB.out.size))
     have HO3 := Ya.mk (Yyg HO.out gN)
     clear gN
     go_wp2_with fail
     refine (Yfb.calls kd _ _ _ HE4.out lO.out).mono ?_
     rintro e w4 ⟨rfl, kW⟩
     have HE5 := Ya.mk (HE4.out.below kW)
     have dL := Ya.mk (eF.out.trans (kW.mono eF.out.size))
     have lU := Ya.mk (Yyg HO3.out kW)
     clear kW hcell hlt
     have bY := Ya.mk (show Ysc (ps.drop (k + 1)) (Ydd (ps.drop (k + 1)).isEmpty out p) = Ysc ps [] by
      have := HPO.out
      rw [HDr.out, Ysc] at this; exact this)
     have HLast := Ya.mk (show (ps.drop (k + 1)).isEmpty = decide (k + 1 = m) by
      have := HMl.out
      rw [Bool.eq_iff_iff, List.isEmpty_iff, List.drop_eq_nil_iff, decide_eq_true_iff]
      omega)
     have aBC := HTo.out
     have htl := Ysg out
     have hHSL := aBN.out (ps.drop (k + 1)).isEmpty
     have hR3 := HRD.out
     have eE := Ya.mk (show tot (Ydd (ps.drop (k + 1)).isEmpty out p) + room (ps.drop (k + 1)) ≤ 3 * a0.size + 3 by omega)
     have eN := Ya.mk (show (Ydd (ps.drop (k + 1)).isEmpty out p).length ≤ 1000000000 by
      have := Ysg (Ydd (ps.drop (k + 1)).isEmpty out p); have := eE.out; have := HS.out; omega)
     clear aBC htl hHSL hR3 aBN HTo HPO HRD HDr zT lO
     rcases hn3 with rfl | rfl | rfl
     ·have hst := Ypj (last := (ps.drop (k + 1)).isEmpty) (out := out) (p := p) Zjb
      rw [hst, ← HQ.out] at bY eE eN
      clear hst HO HO3 rK
      obtain ⟨A4, cc4, e4, _, _, gU⟩ := Ypg lU.out
      cases e4
      have pW := Ya.mk gU
      clear gU
      go_wp2_with (at_builtin; first | (refine Yod (w0 := w2) Value.string ByteArray.empty w2.heap.size rfl _ _ 44 9 (.string ⟨#[]⟩) 16 rfl Tryz.underlying44 Yog rfl Zca (fun _ => rfl) (.slice none 0 0) ([] : List Y) (out.map ofL) _ _ _ rfl rfl (World.ownsRow_nil _ _ _ _) pW.out dL.out dL.out.size Zua ?_; intro v5 w5 cV gW _ _) | (go_must (refine Ywd (w0 := w2) w2.heap.size rfl _ _ 44 9 (.string ⟨#[]⟩) 16 rfl Tryz.underlying44 Yog rfl Zca v5 (out.map fun x => Value.string (ofL x)) (.string (ofL q)) rfl rfl rfl Zgb gW gW.size Zeb ?_); intro v6 w6 dT oV _ _))
      have HO6 := Ya.mk dT
      have jH := Ya.mk oV
      clear dT oV cV gW
      go_wp2
      go_roundg g2
      case measure => omega
      case rel => exact ⟨k + 1, out ++ [q], Zk, Zk, by go_num, eN.out, ⟨by simpa [OwnS] using HO6.out⟩, jH, bY, eE⟩
     ·have hst := Yyl (last := (ps.drop (k + 1)).isEmpty) (out := out) (p := p) Zjb
      rw [hst, HLast.out] at bY eE eN
      clear hst HO HO3 rK
      by_cases hl : k + 1 = m
      ·have jY : ((k : Int) == (m : Int) - 1) = true := beq_iff_eq.2 Zk
       rw [if_pos Zbb] at bY eE eN
       obtain ⟨A4, cc4, e4, _, _, gU⟩ := Ypg lU.out
       cases e4
       have pW := Ya.mk gU
       clear gU
       go_wp2_with (at_builtin; first | (refine Yod (w0 := w2) Value.string ByteArray.empty w2.heap.size rfl _ _ 44 9 (.string ⟨#[]⟩) 16 rfl Tryz.underlying44 Yog rfl Zca (fun _ => rfl) (.slice none 0 0) ([] : List Y) (out.map ofL) _ _ _ rfl rfl (World.ownsRow_nil _ _ _ _) pW.out dL.out dL.out.size Zua ?_; intro v5 w5 cV gW _ _) | (go_must (refine Ywd (w0 := w2) w2.heap.size rfl _ _ 44 9 (.string ⟨#[]⟩) 16 rfl Tryz.underlying44 Yog rfl Zca v5 (out.map fun x => Value.string (ofL x)) (.string ⟨#[]⟩) rfl rfl rfl Zgb gW gW.size Zeb ?_); intro v6 w6 dT oV _ _))
       have HO6 := Ya.mk dT
       have jH := Ya.mk oV
       clear dT oV cV gW
       go_wp2
       go_roundg g2
       case measure => omega
       case rel => exact ⟨k + 1, out ++ [[]], Zk, Zk, by go_num, eN.out, ⟨Zob⟩, jH, bY, eE⟩
      ·have jY : ((k : Int) == (m : Int) - 1) = false := beq_eq_false_iff_ne.2 Zk
       rw [if_neg Zbb] at bY eE eN
       go_wp2
       go_roundg g2
       case measure => omega
       case rel => exact ⟨k + 1, out, Zk, Zk, by go_num, eN.out, lU, dL, bY, eE⟩
     ·have hst := Yrl (last := (ps.drop (k + 1)).isEmpty) (out := out) (p := p) Zjb
      rw [hst, HLast.out] at bY eE eN
      clear hst HO HO3 rK
      have hshape : (out = [] ∧ decide ((0 : Int) < ((out.length : Nat) : Int)) = false) ∨ (∃ gg L, A = some ⟨gg, 0, none⟩ ∧ out.length = L + 1 ∧ L + 1 ≤ cc) := by
       by_cases h0 : out.length = 0
       ·exact .inl ⟨List.eq_nil_of_length_eq_zero h0, Ks Zk⟩
       ·refine .inr ?_
        rcases lU.out.2 with ⟨h1, h2⟩ | ⟨gg, c4, cur, h1, _⟩
        ·exact absurd h2 h0
        ·cases h1
         exact ⟨gg, out.length - 1, rfl, Zk, Zk⟩
      rcases hshape with ⟨qJ, hd0⟩ | ⟨gg, L, rfl, hL, hLc⟩
      ·have hd1 : decide (0 < out.length) = false := Ks (by rw [qJ]; simp)
       have ht0 : out.take (out.length - 1) = out := by rw [qJ]; rfl
       rw [ht0] at bY eE eN
       clear ht0 qJ
       by_cases hl : k + 1 = m
       ·have jY : ((k : Int) == (m : Int) - 1) = true := beq_iff_eq.2 Zk
        rw [if_pos Zbb] at bY eE eN
        obtain ⟨A4, cc4, e4, _, _, gU⟩ := Ypg lU.out
        cases e4
        have pW := Ya.mk gU
        clear gU
        go_wp2_with (at_builtin; first | (refine Yod (w0 := w2) Value.string ByteArray.empty w2.heap.size rfl _ _ 44 9 (.string ⟨#[]⟩) 16 rfl Tryz.underlying44 Yog rfl Zca (fun _ => rfl) (.slice none 0 0) ([] : List Y) (out.map ofL) _ _ _ rfl rfl (World.ownsRow_nil _ _ _ _) pW.out dL.out dL.out.size Zua ?_; intro v5 w5 cV gW _ _) | (go_must (refine Ywd (w0 := w2) w2.heap.size rfl _ _ 44 9 (.string ⟨#[]⟩) 16 rfl Tryz.underlying44 Yog rfl Zca v5 (out.map fun x => Value.string (ofL x)) (.string ⟨#[]⟩) rfl rfl rfl Zgb gW gW.size Zeb ?_); intro v6 w6 dT oV _ _))
        have HO6 := Ya.mk dT
        have jH := Ya.mk oV
        clear dT oV cV gW
        go_wp2
        go_roundg g2
        case measure => omega
        case rel => exact ⟨k + 1, out ++ [[]], Zk, Zk, by go_num, eN.out, ⟨Zob⟩, jH, bY, eE⟩
       ·have jY : ((k : Int) == (m : Int) - 1) = false := beq_eq_false_iff_ne.2 Zk
        rw [if_neg Zbb] at bY eE eN
        go_wp2
        go_roundg g2
        case measure => omega
        case rel => exact ⟨k + 1, out, Zk, Zk, by go_num, eN.out, lU, dL, bY, eE⟩
      ·have HOt := Ya.mk (show OwnS w4 w2.heap.size (.slice (some ⟨gg, 0, none⟩) L cc) (out.take (out.length - 1)) from by
        have h3 := OwnS.take lU.out L Zk
        rw [show out.length - 1 = L by omega]; exact h3)
       have HLt := Ya.mk (show (out.take (out.length - 1)).length = L by rw [List.length_take]; omega)
       obtain ⟨o2, ho2⟩ : ∃ o2, o2 = out.take (out.length - 1) := ⟨_, rfl⟩
       rw [← ho2] at HOt HLt bY eE eN
       clear ho2 lU
       simp only [hL]
       have hd0 : decide ((0 : Int) < ((L + 1 : Nat) : Int)) = true := Kr Zk
       have hd1 : decide (0 < L + 1) = true := Kr Zk
       have ho2l : o2.length ≤ 1000000000 := by have := HLt.out; omega
       by_cases hl : k + 1 = m
       ·have jY : ((k : Int) == (m : Int) - 1) = true := beq_iff_eq.2 Zk
        rw [if_pos Zbb] at bY eE eN
        have pW := Ya.mk (show ReadsOf Value.string ByteArray.empty w4 (some ⟨gg, 0, none⟩) L (o2.map ofL) from by
         obtain ⟨A4, cc4, e4, _, _, gU⟩ := Ypg HOt.out
         rw [HLt.out] at e4 gU
         cases e4; exact gU)
        go_wp2_with (at_builtin; first | (refine Yod (w0 := w2) Value.string ByteArray.empty w2.heap.size rfl _ _ 44 9 (.string ⟨#[]⟩) 16 rfl Tryz.underlying44 Yog rfl Zca (fun _ => rfl) (.slice none 0 0) ([] : List Y) (o2.map ofL) _ _ _ rfl rfl (World.ownsRow_nil _ _ _ _) pW.out dL.out dL.out.size Zua ?_; intro v5 w5 cV gW _ _) | (go_must (refine Ywd (w0 := w2) w2.heap.size rfl _ _ 44 9 (.string ⟨#[]⟩) 16 rfl Tryz.underlying44 Yog rfl Zca v5 (o2.map fun x => Value.string (ofL x)) (.string ⟨#[]⟩) rfl rfl rfl Zgb gW gW.size Zeb ?_); intro v6 w6 dT oV _ _))
        have HO6 := Ya.mk dT
        have jH := Ya.mk oV
        clear dT oV cV gW
        go_wp2
        go_roundg g2
        case measure => omega
        case rel => exact ⟨k + 1, o2 ++ [[]], Zk, Zk, by go_num, eN.out, ⟨Zob⟩, jH, bY, eE⟩
       ·have jY : ((k : Int) == (m : Int) - 1) = false := beq_eq_false_iff_ne.2 Zk
        rw [if_neg Zbb] at bY eE eN
        go_wp2
        go_roundg g2
        case measure => omega
        case rel => exact ⟨k + 1, o2, Zk, Zk, by go_num, eN.out, HOt, dL, bY, eE⟩
 rcases key with ⟨r, hcase, hpos⟩ | ⟨hz, jG⟩
 ·rcases hcase with ⟨k1, k2, rfl⟩ | ⟨k1, k2, rfl⟩
  ·exact main true true (fun _ => hpos) (fun h => by cases h) (fun _ => ⟨k1, by simpa using k2⟩)
  ·exact main true false (fun _ => hpos) (fun h => by cases h) (fun _ => ⟨k1, by simpa using k2⟩)
 ·exact main false false (fun h => by cases h) (fun _ => ⟨hz, jG⟩) (fun h => by cases h)
theorem Yze.calls (a0 r : Y) (w : World) (hE : EnvOk w) (h : Yze.f a0 = some r) :
  Calls Tryz.prog 24 #[.string a0] w fun e w' => e = .returned (.string r) ∧ Below w.heap.size w w' := by
 unfold Yze.f at h
 by_cases hs : a0.size ≤ 30000000
 ·rw [if_pos hs] at h
  obtain rfl := Kv h
  have hsz := Lib.size_eq a0
  have hne : Yhd a0.data.toList ≠ [] := by rw [Yvj]; exact Ytf _ _
  have hf : ∀ l : List UInt8, headS a0.data.toList = l → l.length ≤ 100000000 → ∃ kp, Yha.f kp (ofL l) = some ((Yhd a0.data.toList).map ofL) := by
   intro l hl hlen
   obtain ⟨k, hk⟩ := parts_f (ofL l) (by rw [Yy]; exact hlen)
   have h1 : Yha.f k (ofL l) = _ := hk k (Kw _)
   exact ⟨k, by rw [h1, Ygb, Yvj, hl]⟩
  cases hd : a0.data.toList with
  | nil =>
   obtain ⟨kp, hk⟩ := hf [] (by rw [hd]; rfl) Zv
   have e : ofL [] = a0 := Yng (by rw [hd]; rfl)
   rw [e] at hk
   rw [← hd]
   exact Yol a0 a0 w _ hE rfl hs kp hk hne (.inr (.inr ⟨hd, rfl⟩))
  | cons b t =>
   rw [hd] at hsz
   simp only [List.length_cons] at hsz
   rw [← hd]
   by_cases hp : Yrb b = true
   ·obtain ⟨kp, hk⟩ := hf t (by rw [hd, headS, if_pos hp]) Zk
    exact Yol a0 (ofL t) w _ hE rfl hs kp hk hne (.inl ⟨t, b, hd, hp, rfl⟩)
   ·obtain ⟨kp, hk⟩ := hf (b :: t) (by rw [hd, headS, if_neg hp]) (by simp only [List.length_cons]; omega)
    have e : ofL (b :: t) = a0 := Yng (by rw [hd]; rfl)
    rw [e] at hk
    exact Yol a0 a0 w _ hE rfl hs kp hk hne (.inr (.inl ⟨t, b, hd, by simpa using hp, rfl⟩))
 ·rw [if_neg hs] at h; cases h
end Go.Proofs.YtnmglnglbdpjjaaGreatDoor.X
