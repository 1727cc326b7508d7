/- The document's Path: the parts of a path, dots gone. -/
import Derived.Test.YtnmglnglbdpjjaaGreatDoorUjWords
import Derived.Test.YtnmglnglbdpjjaaGreatDoorUjZr
import Derived.Outline
namespace Go.Proofs.YtnmglnglbdpjjaaGreatDoor.X
open Go.RowKit Go.Lib Go.Shelf Go.Yw.PrintWords Go.Yw.PrintLast Go.Yw.PrintMore
set_option linter.unusedVariables false
set_option linter.unusedSimpArgs false
attribute [local go_sem] Yvd Yyd Yke Yme Yld Ykd Yud Ywd
def headS : List UInt8 → List UInt8
 | [] => []
 | b :: t => if Yxb b = true then t else b :: t
theorem Ybk (l : List UInt8) : Yfd l = splitB 47 (Ywc (headS l)) := by
 unfold Yfd
 cases l with
 | nil => rfl
 | cons b t =>
  show (if (decide (1 < (splitB 47 (Yzg b :: Ywc t)).length) && ((splitB 47 (Yzg b :: Ywc t)).headD []).isEmpty) = true then (splitB 47 (Yzg b :: Ywc t)).tail else splitB 47 (Yzg b :: Ywc t)) = splitB 47 (Ywc (if Yxb b = true then t else b :: t))
  rw [splitB]
  by_cases hp : Yxb b = true
  ·have hb : Yzg b = 47 := by
    unfold Yxb at hp; unfold Yzg
    rw [Bool.or_eq_true, beq_iff_eq, beq_iff_eq] at hp
    rcases hp with rfl | rfl <;> decide
   have hl : 0 < (splitB 47 (Ywc t)).length := List.length_pos_iff.2 (Ymf _ _)
   rw [if_pos hb, if_pos hp, if_pos]
   ·rfl
   ·simp only [List.length_cons, List.headD_cons, List.isEmpty_nil, Bool.and_true, decide_eq_true_eq]; omega
  ·have hb : ¬ Yzg b = 47 := by
    unfold Yxb at hp; unfold Yzg
    rw [Bool.or_eq_true, beq_iff_eq, beq_iff_eq] at hp
    intro e
    split at e
    ·next h => exact hp (.inr h)
    ·exact hp (.inl e)
   rw [if_neg hb, if_neg hp, if_neg]
   ·show _ = splitB 47 (Yzg b :: Ywc t)
    rw [splitB, if_neg hb]
   ·cases hsx : splitB 47 (Ywc t) with
    | nil => exact absurd hsx (Ymf _ _)
    | cons x y => simp [Yjf]
theorem Yjg {W : World} {base : Nat} {v : Value} {xs : List (List UInt8)} (h : OwnS W base v xs) :
  ∃ A cap, v = .slice A xs.length cap ∧ xs.length ≤ cap ∧ cap ≤ 9223372036854775807 ∧ ReadsOf Value.string ByteArray.empty W A xs.length (xs.map ofL) := by
 rcases h.2 with ⟨rfl, h0⟩ | ⟨gg, cc, cur, rfl, hgb, hgh, hgn, hgc, hgs, hgt⟩
 ·have ho0 : xs = [] := List.eq_nil_of_length_eq_zero h0
  subst ho0
  exact ⟨none, 0, rfl, Nat.le_refl _, Zl, rfl, Zv, fun hp => absurd hp Zv⟩
 ·unfold maxLen at hgc
  refine ⟨some ⟨gg, 0, none⟩, cc, rfl, hgn, hgc, List.length_map _, Zl, fun hp => ⟨_, rfl, fun j hj => ?_⟩⟩
  have h3 : (cur.toList.take (xs.length * 1))[j]? = some (.string (ofL xs[j])) := by
   rw [hgt, List.getElem?_map, List.getElem?_eq_getElem hj]; rfl
  rw [List.getElem?_take, if_pos Zl] at h3
  rw [show (Addr.add ⟨gg, 0, none⟩ j) = ⟨gg, j, none⟩ from by unfold Addr.add; split <;> simp_all]
  unfold World.cell?
  rw [hgh]
  rw [List.getD_eq_getElem?_getD, List.getElem?_map, List.getElem?_eq_getElem hj]
  simpa using h3
theorem Yyf {W : World} {base : Nat} {v : Value} {xs : List (List UInt8)} (h : W.ownsRow base 9 1 v (([] : List ByteArray) ++ xs.map ofL).length (encs Value.string (([] : List ByteArray) ++ xs.map ofL))) : OwnS W base v xs := by
 have e : encs Value.string (([] : List ByteArray) ++ xs.map ofL) = xs.map fun x => Value.string (ofL x) := by
  unfold encs; rw [List.nil_append, List.map_map]; rfl
 rw [e, List.nil_append, List.length_map] at h
 exact h
theorem Yws {w w2 : World} {n : Nat} (h : Below (w.drewN n).heap.size (w.drewN n) w2) : Below w.heap.size w w2 := (Yb (Below.refl w.heap.size w) n).trans h
def Yxe.f (a0 : ByteArray) : Option ByteArray := if a0.size ≤ 30000000 then some (ofL (Yre a0.data.toList)) else none
set_option maxHeartbeats 8000000 in
set_option maxRecDepth 100000 in
theorem Yll (a0 s1 : ByteArray) (w : World) (ps : List (List UInt8)) (hE : EnvOk w) (hps : ps = Yfd a0.data.toList) (hs : a0.size ≤ 30000000) (kp : Nat)
  (hf : Yfa.f kp s1 = some (ps.map ofL)) (hne : ps ≠ [])
  (hhead : (∃ t b, a0.data.toList = b :: t ∧ Yxb b = true ∧ s1 = ofL t) ∨ (∃ t b, a0.data.toList = b :: t ∧ Yxb b = false ∧ s1 = a0) ∨ (a0.data.toList = [] ∧ s1 = a0)) :
  Calls Tryz.prog 24 #[.string a0] w fun e w' => e = .returned (.string (ofL (Yre a0.data.toList))) ∧ Below w.heap.size w w' := by
 have HE := Ya.mk hE
 have HF := Ya.mk hf
 have HSn := Ya.mk hne
 have HRoom := Ya.mk (Yki a0.data.toList)
 have HPL := Ya.mk (show Yre a0.data.toList = 47 :: Lib.join (Ysc (Yfd a0.data.toList) []) [47] from rfl)
 obtain ⟨R, hR⟩ : ∃ R, R = Yre a0.data.toList := ⟨_, rfl⟩
 rw [← hR] at HPL ⊢
 rw [← hps] at HPL HRoom
 rw [← Lib.size_eq] at HRoom
 have HS := Ya.mk hs
 clear hE hf hne hR hps hs
 have key : (∃ r, ((Yeb.f (bt a0 0) = some true ∧ s1 = a0.extract 1 a0.size ∧ r = true) ∨ (Yeb.f (bt a0 0) = some false ∧ s1 = a0 ∧ r = false)) ∧ 0 < a0.size) ∨ (a0.size = 0 ∧ s1 = a0) := by
  rcases hhead with ⟨t, b, h1, h2, h3⟩ | ⟨t, b, h1, h2, h3⟩ | ⟨h1, h2⟩
  ·obtain ⟨k1, k2, k3⟩ := Yzc a0 0 b t h1
   refine .inl ⟨true, .inl ⟨?_, ?_, rfl⟩, k1⟩
   ·have := Ygi b; rw [h2] at this; rw [show (0 : Int) = ((0 : Nat) : Int) from rfl, k2]; exact this
   ·rw [Yhd, h1]; exact h3
  ·obtain ⟨k1, k2, k3⟩ := Yzc a0 0 b t h1
   refine .inl ⟨false, .inr ⟨?_, h3, rfl⟩, k1⟩
   have := Ygi b; rw [h2] at this; rw [show (0 : Int) = ((0 : Nat) : Int) from rfl, k2]; exact this
  ·exact .inr ⟨by rw [Lib.size_eq, h1]; rfl, h2⟩
 clear hhead
 have main : ∀ (c : Bool) (d : Bool), (c = true → 0 < a0.size) → (c = false → a0.size = 0 ∧ s1 = a0) → (c = true → Yeb.f (bt a0 0) = some d ∧ s1 = (if d = true then a0.extract 1 a0.size else a0)) →
   Calls Tryz.prog 24 #[.string a0] w fun e w' => e = .returned (.string (ofL R)) ∧ Below w.heap.size w w' := by
  intro c d h1 h2 h3
  have hx4 : ∀ h : 0 < a0.size, ((a0[0]'h).toNat : Int) = bt a0 0 := Yya a0 0
  have h3cases : (c = true ∧ d = true ∧ 0 < a0.size ∧ Yeb.f (bt a0 0) = some true ∧ s1 = a0.extract 1 a0.size) ∨ (c = true ∧ d = false ∧ 0 < a0.size ∧ Yeb.f (bt a0 0) = some false ∧ s1 = a0) ∨ (c = false ∧ a0.size = 0 ∧ s1 = a0) := by
   cases c with
   | false => exact .inr (.inr ⟨rfl, h2 rfl⟩)
   | true =>
    have := h3 rfl
    cases d with
    | true => exact .inl ⟨rfl, rfl, h1 rfl, this.1, by simpa using this.2⟩
    | false => exact .inr (.inl ⟨rfl, rfl, h1 rfl, this.1, by simpa using this.2⟩)
  clear h1 h2 h3
  have HPT : Ya (∀ w0 : World, EnvOk w0 → Calls Tryz.prog 64 #[.string s1] w0 fun e w' => ∃ v0_ : Value, e = .returned (v0_) ∧ Kd.R Kd.string 9 w' w0.heap.size (fun _ => True) v0_ (ps.map ofL) ∧ Below w0.heap.size w0 w') := ⟨fun w0 hw0 => Yfa.calls kp s1 _ w0 hw0 HF.out⟩
  clear HF
  rcases h3cases with ⟨rfl, rfl, hpos, hsl, hs1⟩ | ⟨rfl, rfl, hpos, hsl, hs1⟩ | ⟨rfl, hz, hs1⟩
  all_goals
   rw [hs1] at HPT
   clear hs1
  rotate_left 2
  ·have c3b0 : decide (0 < (a0.size : Int)) = false := decide_eq_false Zl
   have c3b1 : decide (0 < a0.size) = false := decide_eq_false Zl
   clear hx4 hz
   go_enter Tryz.func24, Tryz.ntmps24
   go_wp2_with fail
   refine (HPT.out _ HE.out).mono ?_
   rintro e w2 ⟨v0, rfl, hr2, hb2⟩
   have HB2 := Ya.mk hb2
   have HE2 := Ya.mk (HE.out.below hb2)
   obtain ⟨g, cap, rfl, hcap1, hcap2, hgb, hrow⟩ := Yfo hr2 HSn.out
   have HROW := Ya.mk hrow
   have hs1' : 1 ≤ ps.length := List.length_pos_iff.2 HSn.out
   have hglt : Ya (g < w2.heap.size) := ⟨by
    have h0 : 0 < ps.length := List.length_pos_iff.2 HSn.out
    exact lt_of_cell (hrow 0 h0)⟩
   clear hr2 hb2 hrow hgb
   unfold maxLen at hcap2
   go_wp2
   obtain ⟨m, hm⟩ : ∃ m, m = ps.length := ⟨_, rfl⟩
   rw [← hm] at hcap1
   simp only [← hm]
   have HMl := Ya.mk hm
   have hmb : m ≤ 1000000000 := by have := Yak ps; have := HRoom.out; have := HS.out; omega
   clear hm hs1'
   go_loopg [4, 5, 6, 7] m (fun g2 v4 v5 _ _ wx => ∃ (k : Nat) (out : List (List UInt8)), k + g2 ≤ m ∧ m ≤ k + g2 ∧ v5 = .int .i64 (k : Int) ∧ out.length ≤ 1000000000 ∧ Ya (OwnS wx w2.heap.size v4 out) ∧ Ya (Below w2.heap.size w2 wx) ∧ Ya (Ysc (ps.drop k) out = Ysc ps []) ∧ Ya (tot out + room (ps.drop k) ≤ 3 * a0.size + 3))
   case atStart => exact ⟨0, [], Zl, Zl, rfl, Zv, ⟨World.ownsRow_nil _ _ _ _⟩, ⟨Below.refl _ _⟩, ⟨rfl⟩, ⟨by simpa [tot] using HRoom.out⟩⟩
   case round =>
    obtain ⟨k, out, hk1, hk2, rfl, hol, HO, HB, HPO, HTo⟩ := hrel
    obtain ⟨A, cc, rfl, hcc1, hcc2, hrd⟩ := Yjg HO.out
    have HRD2 := Ya.mk hrd
    clear hrd
    cases gk with
    | zero =>
     obtain rfl : k = m := by omega
     have hlt : decide ((k : Int) < (k : Int)) = false := decide_eq_false Zl
     have hfin := HPO.out
     rw [HMl.out, List.drop_eq_nil_of_le (Nat.le_refl _), Ysc] at hfin
     have hjl := Ygn out
     have htl := HTo.out
     have hs9 := HS.out
     have hol9 := Yrg out
     obtain ⟨kj, hj⟩ := rjoin_f [47] out Zl Zl
     have hj1 : Yib.f kj ⟨#[47]⟩ (out.map ofL) = some (ofL (Lib.join out [47])) := hj kj (Nat.le_refl _)
     have HJ := Ya.mk hj1
     have HEx := Ya.mk (HE2.out.below HB.out)
     have HFin := Ya.mk hfin
     have hjs : (ofL (Lib.join out [47])).size ≤ 1000000000 := by rw [Yda]; omega
     have HC := Ya.mk (show Kd.C Kd.string wr A (out.map ofL).length (out.map ofL) from Kd.C_of_reads (enc := Value.string) (d := ByteArray.empty) (h1 := fun _ => rfl) (by rw [List.length_map]; exact HRD2.out))
     have HLm := Ya.mk (show (out.map ofL).length = out.length from List.length_map _)
     clear hj hj1 hfin hjl htl hs9 hol9
     go_wp2_with fail
     have hcall := Yib.calls kj ⟨#[47]⟩ A cc (out.map ofL) _ wr HEx.out HC.out (by rw [HLm.out]; exact hcc1) HJ.out
     rw [HLm.out] at hcall
     refine hcall.mono ?_
     clear hcall
     rintro e w5 ⟨rfl, ⟨nd5, rfl⟩⟩
     have HB5 := Ya.mk (show Below w.heap.size w (wr.drewN nd5) from Yb (HB2.out.trans (HB.out.mono HB2.out.size)) nd5)
     go_wp2
     go_ret
     refine ⟨?_, HB5.out⟩
     rw [HPL.out, ← HFin.out]; rfl
    | succ g2 =>
     have hk : k < m := by omega
     have hkp : k < ps.length := by have := HMl.out; omega
     have hlt : decide ((k : Int) < (m : Int)) = true := decide_eq_true Zl
     have hcell := (HROW.out.below HB.out) k hkp
     try simp only [Nat.zero_add] at hcell
     have HRD := Ya.mk (Ylm ps k hkp)
     have HDr := Ya.mk (List.drop_eq_getElem_cons hkp)
     obtain ⟨p, hp⟩ : ∃ p, p = ps[k] := ⟨_, rfl⟩
     rw [← hp] at hcell HRD HDr
     have hpl : Ya (p.length ≤ 31000000) := ⟨by have := HTo.out; have := HRD.out; have := HS.out; omega⟩
     obtain ⟨km, hm1⟩ := Yzj (ofL p) ⟨#[35, 63, 96, 123, 125]⟩ (by rw [Yda]; have := hpl.out; omega) Zda
     have hf1 : Yr.f km (ofL p) ⟨#[35, 63, 96, 123, 125]⟩ = some (ofL (Ydc Yoc p)) := hm1 km (Nat.le_refl _)
     obtain ⟨kd, hd1⟩ := Ymp (ofL (Ydc Yoc p)) Zxb
     have hf2 : Ybb.f kd (ofL (Ydc Yoc p)) = some ((Ypg (Ydc Yoc p) : Nat) : Int) := hd1 kd (Nat.le_refl _)
     have HF1 := Ya.mk hf1
     have HF2 := Ya.mk hf2
     have HQl := Ya.mk (Ywg Yoc p)
     have HE3 := Ya.mk (HE2.out.below HB.out)
     have HSL2 := Ya.mk (fun last => Yai last out p)
     obtain ⟨q, hq⟩ : ∃ q, q = Ydc Yoc p := ⟨_, rfl⟩
     obtain ⟨n, hn⟩ : ∃ n, n = Ypg q := ⟨_, rfl⟩
     have hn3 : n = 0 ∨ n = 1 ∨ n = 2 := by
      rw [hn]; unfold Ypg
      split
      ·omega
      ·split <;> omega
     rw [← hq] at HF1 HF2 HQl
     rw [← hn] at HF2
     have HN := Ya.mk hn
     have HQ := Ya.mk hq
     clear hf1 hf2 hp hq hn hm1 hd1
     go_wp2_with fail
     refine (Yr.calls km _ _ _ _ HE3.out HF1.out).mono ?_
     rintro e w3 ⟨rfl, hb3⟩
     have HE4 := Ya.mk (HE3.out.below hb3)
     have HB3 := Ya.mk (HB.out.trans (hb3.mono HB.out.size))
     have HO3 := Ya.mk (Ysg HO.out hb3)
     clear hb3
     go_wp2_with fail
     refine (Ybb.calls kd _ _ _ HE4.out HF2.out).mono ?_
     rintro e w4 ⟨rfl, hb4⟩
     have HE5 := Ya.mk (HE4.out.below hb4)
     have HB4 := Ya.mk (HB3.out.trans (hb4.mono HB3.out.size))
     have HO4 := Ya.mk (Ysg HO3.out hb4)
     clear hb4 hcell hlt
     have HPO2 := Ya.mk (show Ysc (ps.drop (k + 1)) (Yyc (ps.drop (k + 1)).isEmpty out p) = Ysc ps [] by
      have := HPO.out
      rw [HDr.out, Ysc] at this; exact this)
     have HLast := Ya.mk (show (ps.drop (k + 1)).isEmpty = decide (k + 1 = m) by
      have := HMl.out
      rw [Bool.eq_iff_iff, List.isEmpty_iff, List.drop_eq_nil_iff, decide_eq_true_iff]
      omega)
     have hol2 := HTo.out
     have htl := Yrg out
     have hHSL := HSL2.out (ps.drop (k + 1)).isEmpty
     have hR3 := HRD.out
     have HT2 := Ya.mk (show tot (Yyc (ps.drop (k + 1)).isEmpty out p) + room (ps.drop (k + 1)) ≤ 3 * a0.size + 3 by omega)
     have HL2 := Ya.mk (show (Yyc (ps.drop (k + 1)).isEmpty out p).length ≤ 1000000000 by
      have := Yrg (Yyc (ps.drop (k + 1)).isEmpty out p); have := HT2.out; have := HS.out; omega)
     clear hol2 htl hHSL hR3 HSL2 HTo HPO HRD HDr HF1 HF2
     rcases hn3 with rfl | rfl | rfl
     ·have hst := Ykj (last := (ps.drop (k + 1)).isEmpty) (out := out) (p := p) Zpb
      rw [hst, ← HQ.out] at HPO2 HT2 HL2
      clear hst HO HO3 HRD2
      obtain ⟨A4, cc4, e4, _, _, hrd4⟩ := Yjg HO4.out
      cases e4
      have HR4 := Ya.mk hrd4
      clear hrd4
      go_wp2_with (at_builtin; first | (refine Ymd (w0 := w2) Value.string ByteArray.empty w2.heap.size rfl _ _ 44 9 (.string ⟨#[]⟩) 16 rfl Tryz.underlying44 Yfg rfl Zda (fun _ => rfl) (.slice none 0 0) ([] : List ByteArray) (out.map ofL) _ _ _ rfl rfl (World.ownsRow_nil _ _ _ _) HR4.out HB4.out HB4.out.size Zxa ?_; intro v5 w5 hown5 hB5 _ _) | (go_must (refine Yrd (w0 := w2) w2.heap.size rfl _ _ 44 9 (.string ⟨#[]⟩) 16 rfl Tryz.underlying44 Yfg rfl Zda v5 (out.map fun x => Value.string (ofL x)) (.string (ofL q)) rfl rfl rfl Zmb hB5 hB5.size Zkb ?_); intro v6 w6 hown6 hB6 _ _))
      have HO6 := Ya.mk hown6
      have HB6 := Ya.mk hB6
      clear hown6 hB6 hown5 hB5
      go_wp2
      go_roundg g2
      case measure => omega
      case rel => exact ⟨k + 1, out ++ [q], Zl, Zl, by go_num, HL2.out, ⟨by simpa [OwnS] using HO6.out⟩, HB6, HPO2, HT2⟩
     ·have hst := Yil (last := (ps.drop (k + 1)).isEmpty) (out := out) (p := p) Zpb
      rw [hst, HLast.out] at HPO2 HT2 HL2
      clear hst HO HO3 HRD2
      by_cases hl : k + 1 = m
      ·have hl1 : ((k : Int) == (m : Int) - 1) = true := beq_iff_eq.2 Zl
       rw [if_pos Zhb] at HPO2 HT2 HL2
       obtain ⟨A4, cc4, e4, _, _, hrd4⟩ := Yjg HO4.out
       cases e4
       have HR4 := Ya.mk hrd4
       clear hrd4
       go_wp2_with (at_builtin; first | (refine Ymd (w0 := w2) Value.string ByteArray.empty w2.heap.size rfl _ _ 44 9 (.string ⟨#[]⟩) 16 rfl Tryz.underlying44 Yfg rfl Zda (fun _ => rfl) (.slice none 0 0) ([] : List ByteArray) (out.map ofL) _ _ _ rfl rfl (World.ownsRow_nil _ _ _ _) HR4.out HB4.out HB4.out.size Zxa ?_; intro v5 w5 hown5 hB5 _ _) | (go_must (refine Yrd (w0 := w2) w2.heap.size rfl _ _ 44 9 (.string ⟨#[]⟩) 16 rfl Tryz.underlying44 Yfg rfl Zda v5 (out.map fun x => Value.string (ofL x)) (.string ⟨#[]⟩) rfl rfl rfl Zmb hB5 hB5.size Zkb ?_); intro v6 w6 hown6 hB6 _ _))
       have HO6 := Ya.mk hown6
       have HB6 := Ya.mk hB6
       clear hown6 hB6 hown5 hB5
       go_wp2
       go_roundg g2
       case measure => omega
       case rel => exact ⟨k + 1, out ++ [[]], Zl, Zl, by go_num, HL2.out, ⟨Zsb⟩, HB6, HPO2, HT2⟩
      ·have hl1 : ((k : Int) == (m : Int) - 1) = false := beq_eq_false_iff_ne.2 Zl
       rw [if_neg Zhb] at HPO2 HT2 HL2
       go_wp2
       go_roundg g2
       case measure => omega
       case rel => exact ⟨k + 1, out, Zl, Zl, by go_num, HL2.out, HO4, HB4, HPO2, HT2⟩
     ·have hst := Ydl (last := (ps.drop (k + 1)).isEmpty) (out := out) (p := p) Zpb
      rw [hst, HLast.out] at HPO2 HT2 HL2
      clear hst HO HO3 HRD2
      have hshape : (out = [] ∧ decide ((0 : Int) < ((out.length : Nat) : Int)) = false) ∨ (∃ gg L, A = some ⟨gg, 0, none⟩ ∧ out.length = L + 1 ∧ L + 1 ≤ cc) := by
       by_cases h0 : out.length = 0
       ·exact .inl ⟨List.eq_nil_of_length_eq_zero h0, decide_eq_false Zl⟩
       ·refine .inr ?_
        rcases HO4.out.2 with ⟨h1, h2⟩ | ⟨gg, c4, cur, h1, _⟩
        ·exact absurd h2 h0
        ·cases h1
         exact ⟨gg, out.length - 1, rfl, Zl, Zl⟩
      rcases hshape with ⟨ho0, hd0⟩ | ⟨gg, L, rfl, hL, hLc⟩
      ·have hd1 : decide (0 < out.length) = false := decide_eq_false (by rw [ho0]; simp)
       have ht0 : out.take (out.length - 1) = out := by rw [ho0]; rfl
       rw [ht0] at HPO2 HT2 HL2
       clear ht0 ho0
       by_cases hl : k + 1 = m
       ·have hl1 : ((k : Int) == (m : Int) - 1) = true := beq_iff_eq.2 Zl
        rw [if_pos Zhb] at HPO2 HT2 HL2
        obtain ⟨A4, cc4, e4, _, _, hrd4⟩ := Yjg HO4.out
        cases e4
        have HR4 := Ya.mk hrd4
        clear hrd4
        go_wp2_with (at_builtin; first | (refine Ymd (w0 := w2) Value.string ByteArray.empty w2.heap.size rfl _ _ 44 9 (.string ⟨#[]⟩) 16 rfl Tryz.underlying44 Yfg rfl Zda (fun _ => rfl) (.slice none 0 0) ([] : List ByteArray) (out.map ofL) _ _ _ rfl rfl (World.ownsRow_nil _ _ _ _) HR4.out HB4.out HB4.out.size Zxa ?_; intro v5 w5 hown5 hB5 _ _) | (go_must (refine Yrd (w0 := w2) w2.heap.size rfl _ _ 44 9 (.string ⟨#[]⟩) 16 rfl Tryz.underlying44 Yfg rfl Zda v5 (out.map fun x => Value.string (ofL x)) (.string ⟨#[]⟩) rfl rfl rfl Zmb hB5 hB5.size Zkb ?_); intro v6 w6 hown6 hB6 _ _))
        have HO6 := Ya.mk hown6
        have HB6 := Ya.mk hB6
        clear hown6 hB6 hown5 hB5
        go_wp2
        go_roundg g2
        case measure => omega
        case rel => exact ⟨k + 1, out ++ [[]], Zl, Zl, by go_num, HL2.out, ⟨Zsb⟩, HB6, HPO2, HT2⟩
       ·have hl1 : ((k : Int) == (m : Int) - 1) = false := beq_eq_false_iff_ne.2 Zl
        rw [if_neg Zhb] at HPO2 HT2 HL2
        go_wp2
        go_roundg g2
        case measure => omega
        case rel => exact ⟨k + 1, out, Zl, Zl, by go_num, HL2.out, HO4, HB4, HPO2, HT2⟩
      ·have HOt := Ya.mk (show OwnS w4 w2.heap.size (.slice (some ⟨gg, 0, none⟩) L cc) (out.take (out.length - 1)) from by
        have h3 := OwnS.take HO4.out L Zl
        rw [show out.length - 1 = L by omega]; exact h3)
       have HLt := Ya.mk (show (out.take (out.length - 1)).length = L by rw [List.length_take]; omega)
       obtain ⟨o2, ho2⟩ : ∃ o2, o2 = out.take (out.length - 1) := ⟨_, rfl⟩
       rw [← ho2] at HOt HLt HPO2 HT2 HL2
       clear ho2 HO4
       simp only [hL]
       have hd0 : decide ((0 : Int) < ((L + 1 : Nat) : Int)) = true := decide_eq_true Zl
       have hd1 : decide (0 < L + 1) = true := decide_eq_true Zl
       have ho2l : o2.length ≤ 1000000000 := by have := HLt.out; omega
       by_cases hl : k + 1 = m
       ·have hl1 : ((k : Int) == (m : Int) - 1) = true := beq_iff_eq.2 Zl
        rw [if_pos Zhb] at HPO2 HT2 HL2
        have HR4 := Ya.mk (show ReadsOf Value.string ByteArray.empty w4 (some ⟨gg, 0, none⟩) L (o2.map ofL) from by
         obtain ⟨A4, cc4, e4, _, _, hrd4⟩ := Yjg HOt.out
         rw [HLt.out] at e4 hrd4
         cases e4; exact hrd4)
        go_wp2_with (at_builtin; first | (refine Ymd (w0 := w2) Value.string ByteArray.empty w2.heap.size rfl _ _ 44 9 (.string ⟨#[]⟩) 16 rfl Tryz.underlying44 Yfg rfl Zda (fun _ => rfl) (.slice none 0 0) ([] : List ByteArray) (o2.map ofL) _ _ _ rfl rfl (World.ownsRow_nil _ _ _ _) HR4.out HB4.out HB4.out.size Zxa ?_; intro v5 w5 hown5 hB5 _ _) | (go_must (refine Yrd (w0 := w2) w2.heap.size rfl _ _ 44 9 (.string ⟨#[]⟩) 16 rfl Tryz.underlying44 Yfg rfl Zda v5 (o2.map fun x => Value.string (ofL x)) (.string ⟨#[]⟩) rfl rfl rfl Zmb hB5 hB5.size Zkb ?_); intro v6 w6 hown6 hB6 _ _))
        have HO6 := Ya.mk hown6
        have HB6 := Ya.mk hB6
        clear hown6 hB6 hown5 hB5
        go_wp2
        go_roundg g2
        case measure => omega
        case rel => exact ⟨k + 1, o2 ++ [[]], Zl, Zl, by go_num, HL2.out, ⟨Zsb⟩, HB6, HPO2, HT2⟩
       ·have hl1 : ((k : Int) == (m : Int) - 1) = false := beq_eq_false_iff_ne.2 Zl
        rw [if_neg Zhb] at HPO2 HT2 HL2
        go_wp2
        go_roundg g2
        case measure => omega
        case rel => exact ⟨k + 1, o2, Zl, Zl, by go_num, HL2.out, HOt, HB4, HPO2, HT2⟩
  all_goals
   have c3b0 : decide (0 < (a0.size : Int)) = true := decide_eq_true Zl
   have c3b1 : decide (0 < a0.size) = true := decide_eq_true hpos
   have qi4 : (0 < (a0.size : Int)) = True := eq_true Zl
   have b1 : (1 : Int) ≤ (a0.size : Int) := by omega
   have q4 := eq_true hpos
   clear hpos
   have HSL := Ya.mk hsl
   clear hsl
   go_enter Tryz.func24, Tryz.ntmps24
   go_wp2_with (first | (go_at_call 48; (with_reducible refine (Yeb.calls (bt a0 0) _ _ ?side1 HSL.out).mono ?_); (case side1 => first | exact HE.out | exact EnvOk.heap HE.out rfl); rintro e w' ⟨rfl, ⟨nd, rfl⟩⟩))
   clear hx4 q4 qi4 b1
   refine (HPT.out (w.drewN nd) (EnvOk.heap HE.out rfl)).mono ?_
   rintro e w2 ⟨v0, rfl, hr2, hb2⟩
   have HB2 := Ya.mk (show Below w.heap.size w w2 from Yws hb2)
   have HE2 := Ya.mk (HE.out.below HB2.out)
   obtain ⟨g, cap, rfl, hcap1, hcap2, hgb, hrow⟩ := Yfo hr2 HSn.out
   have HROW := Ya.mk hrow
   have hs1' : 1 ≤ ps.length := List.length_pos_iff.2 HSn.out
   have hglt : Ya (g < w2.heap.size) := ⟨by
    have h0 : 0 < ps.length := List.length_pos_iff.2 HSn.out
    exact lt_of_cell (hrow 0 h0)⟩
   clear hr2 hb2 hrow hgb
   unfold maxLen at hcap2
   go_wp2
   obtain ⟨m, hm⟩ : ∃ m, m = ps.length := ⟨_, rfl⟩
   rw [← hm] at hcap1
   simp only [← hm]
   have HMl := Ya.mk hm
   have hmb : m ≤ 1000000000 := by have := Yak ps; have := HRoom.out; have := HS.out; omega
   clear hm hs1'
   go_loopg [4, 5, 6, 7] m (fun g2 v4 v5 _ _ wx => ∃ (k : Nat) (out : List (List UInt8)), k + g2 ≤ m ∧ m ≤ k + g2 ∧ v5 = .int .i64 (k : Int) ∧ out.length ≤ 1000000000 ∧ Ya (OwnS wx w2.heap.size v4 out) ∧ Ya (Below w2.heap.size w2 wx) ∧ Ya (Ysc (ps.drop k) out = Ysc ps []) ∧ Ya (tot out + room (ps.drop k) ≤ 3 * a0.size + 3))
   case atStart => exact ⟨0, [], Zl, Zl, rfl, Zv, ⟨World.ownsRow_nil _ _ _ _⟩, ⟨Below.refl _ _⟩, ⟨rfl⟩, ⟨by simpa [tot] using HRoom.out⟩⟩
   case round =>
    obtain ⟨k, out, hk1, hk2, rfl, hol, HO, HB, HPO, HTo⟩ := hrel
    obtain ⟨A, cc, rfl, hcc1, hcc2, hrd⟩ := Yjg HO.out
    have HRD2 := Ya.mk hrd
    clear hrd
    cases gk with
    | zero =>
     obtain rfl : k = m := by omega
     have hlt : decide ((k : Int) < (k : Int)) = false := decide_eq_false Zl
     have hfin := HPO.out
     rw [HMl.out, List.drop_eq_nil_of_le (Nat.le_refl _), Ysc] at hfin
     have hjl := Ygn out
     have htl := HTo.out
     have hs9 := HS.out
     have hol9 := Yrg out
     obtain ⟨kj, hj⟩ := rjoin_f [47] out Zl Zl
     have hj1 : Yib.f kj ⟨#[47]⟩ (out.map ofL) = some (ofL (Lib.join out [47])) := hj kj (Nat.le_refl _)
     have HJ := Ya.mk hj1
     have HEx := Ya.mk (HE2.out.below HB.out)
     have HFin := Ya.mk hfin
     have hjs : (ofL (Lib.join out [47])).size ≤ 1000000000 := by rw [Yda]; omega
     have HC := Ya.mk (show Kd.C Kd.string wr A (out.map ofL).length (out.map ofL) from Kd.C_of_reads (enc := Value.string) (d := ByteArray.empty) (h1 := fun _ => rfl) (by rw [List.length_map]; exact HRD2.out))
     have HLm := Ya.mk (show (out.map ofL).length = out.length from List.length_map _)
     clear hj hj1 hfin hjl htl hs9 hol9
     go_wp2_with fail
     have hcall := Yib.calls kj ⟨#[47]⟩ A cc (out.map ofL) _ wr HEx.out HC.out (by rw [HLm.out]; exact hcc1) HJ.out
     rw [HLm.out] at hcall
     refine hcall.mono ?_
     clear hcall
     rintro e w5 ⟨rfl, ⟨nd5, rfl⟩⟩
     have HB5 := Ya.mk (show Below w.heap.size w (wr.drewN nd5) from Yb (HB2.out.trans (HB.out.mono HB2.out.size)) nd5)
     go_wp2
     go_ret
     refine ⟨?_, HB5.out⟩
     rw [HPL.out, ← HFin.out]; rfl
    | succ g2 =>
     have hk : k < m := by omega
     have hkp : k < ps.length := by have := HMl.out; omega
     have hlt : decide ((k : Int) < (m : Int)) = true := decide_eq_true Zl
     have hcell := (HROW.out.below HB.out) k hkp
     try simp only [Nat.zero_add] at hcell
     have HRD := Ya.mk (Ylm ps k hkp)
     have HDr := Ya.mk (List.drop_eq_getElem_cons hkp)
     obtain ⟨p, hp⟩ : ∃ p, p = ps[k] := ⟨_, rfl⟩
     rw [← hp] at hcell HRD HDr
     have hpl : Ya (p.length ≤ 31000000) := ⟨by have := HTo.out; have := HRD.out; have := HS.out; omega⟩
     obtain ⟨km, hm1⟩ := Yzj (ofL p) ⟨#[35, 63, 96, 123, 125]⟩ (by rw [Yda]; have := hpl.out; omega) Zda
     have hf1 : Yr.f km (ofL p) ⟨#[35, 63, 96, 123, 125]⟩ = some (ofL (Ydc Yoc p)) := hm1 km (Nat.le_refl _)
     obtain ⟨kd, hd1⟩ := Ymp (ofL (Ydc Yoc p)) Zxb
     have hf2 : Ybb.f kd (ofL (Ydc Yoc p)) = some ((Ypg (Ydc Yoc p) : Nat) : Int) := hd1 kd (Nat.le_refl _)
     have HF1 := Ya.mk hf1
     have HF2 := Ya.mk hf2
     have HQl := Ya.mk (Ywg Yoc p)
     have HE3 := Ya.mk (HE2.out.below HB.out)
     have HSL2 := Ya.mk (fun last => Yai last out p)
     obtain ⟨q, hq⟩ : ∃ q, q = Ydc Yoc p := ⟨_, rfl⟩
     obtain ⟨n, hn⟩ : ∃ n, n = Ypg q := ⟨_, rfl⟩
     have hn3 : n = 0 ∨ n = 1 ∨ n = 2 := by
      rw [hn]; unfold Ypg
      split
      ·omega
      ·split <;> omega
     rw [← hq] at HF1 HF2 HQl
     rw [← hn] at HF2
     have HN := Ya.mk hn
     have HQ := Ya.mk hq
     clear hf1 hf2 hp hq hn hm1 hd1
     go_wp2_with fail
     refine (Yr.calls km _ _ _ _ HE3.out HF1.out).mono ?_
     rintro e w3 ⟨rfl, hb3⟩
     have HE4 := Ya.mk (HE3.out.below hb3)
     have HB3 := Ya.mk (HB.out.trans (hb3.mono HB.out.size))
     have HO3 := Ya.mk (Ysg HO.out hb3)
     clear hb3
     go_wp2_with fail
     refine (Ybb.calls kd _ _ _ HE4.out HF2.out).mono ?_
     rintro e w4 ⟨rfl, hb4⟩
     have HE5 := Ya.mk (HE4.out.below hb4)
     have HB4 := Ya.mk (HB3.out.trans (hb4.mono HB3.out.size))
     have HO4 := Ya.mk (Ysg HO3.out hb4)
     clear hb4 hcell hlt
     have HPO2 := Ya.mk (show Ysc (ps.drop (k + 1)) (Yyc (ps.drop (k + 1)).isEmpty out p) = Ysc ps [] by
      have := HPO.out
      rw [HDr.out, Ysc] at this; exact this)
     have HLast := Ya.mk (show (ps.drop (k + 1)).isEmpty = decide (k + 1 = m) by
      have := HMl.out
      rw [Bool.eq_iff_iff, List.isEmpty_iff, List.drop_eq_nil_iff, decide_eq_true_iff]
      omega)
     have hol2 := HTo.out
     have htl := Yrg out
     have hHSL := HSL2.out (ps.drop (k + 1)).isEmpty
     have hR3 := HRD.out
     have HT2 := Ya.mk (show tot (Yyc (ps.drop (k + 1)).isEmpty out p) + room (ps.drop (k + 1)) ≤ 3 * a0.size + 3 by omega)
     have HL2 := Ya.mk (show (Yyc (ps.drop (k + 1)).isEmpty out p).length ≤ 1000000000 by
      have := Yrg (Yyc (ps.drop (k + 1)).isEmpty out p); have := HT2.out; have := HS.out; omega)
     clear hol2 htl hHSL hR3 HSL2 HTo HPO HRD HDr HF1 HF2
     rcases hn3 with rfl | rfl | rfl
     ·have hst := Ykj (last := (ps.drop (k + 1)).isEmpty) (out := out) (p := p) Zpb
      rw [hst, ← HQ.out] at HPO2 HT2 HL2
      clear hst HO HO3 HRD2
      obtain ⟨A4, cc4, e4, _, _, hrd4⟩ := Yjg HO4.out
      cases e4
      have HR4 := Ya.mk hrd4
      clear hrd4
      go_wp2_with (at_builtin; first | (refine Ymd (w0 := w2) Value.string ByteArray.empty w2.heap.size rfl _ _ 44 9 (.string ⟨#[]⟩) 16 rfl Tryz.underlying44 Yfg rfl Zda (fun _ => rfl) (.slice none 0 0) ([] : List ByteArray) (out.map ofL) _ _ _ rfl rfl (World.ownsRow_nil _ _ _ _) HR4.out HB4.out HB4.out.size Zxa ?_; intro v5 w5 hown5 hB5 _ _) | (go_must (refine Yrd (w0 := w2) w2.heap.size rfl _ _ 44 9 (.string ⟨#[]⟩) 16 rfl Tryz.underlying44 Yfg rfl Zda v5 (out.map fun x => Value.string (ofL x)) (.string (ofL q)) rfl rfl rfl Zmb hB5 hB5.size Zkb ?_); intro v6 w6 hown6 hB6 _ _))
      have HO6 := Ya.mk hown6
      have HB6 := Ya.mk hB6
      clear hown6 hB6 hown5 hB5
      go_wp2
      go_roundg g2
      case measure => omega
      case rel => exact ⟨k + 1, out ++ [q], Zl, Zl, by go_num, HL2.out, ⟨by simpa [OwnS] using HO6.out⟩, HB6, HPO2, HT2⟩
     ·have hst := Yil (last := (ps.drop (k + 1)).isEmpty) (out := out) (p := p) Zpb
      rw [hst, HLast.out] at HPO2 HT2 HL2
      clear hst HO HO3 HRD2
      by_cases hl : k + 1 = m
      ·have hl1 : ((k : Int) == (m : Int) - 1) = true := beq_iff_eq.2 Zl
       rw [if_pos Zhb] at HPO2 HT2 HL2
       obtain ⟨A4, cc4, e4, _, _, hrd4⟩ := Yjg HO4.out
       cases e4
       have HR4 := Ya.mk hrd4
       clear hrd4
       go_wp2_with (at_builtin; first | (refine Ymd (w0 := w2) Value.string ByteArray.empty w2.heap.size rfl _ _ 44 9 (.string ⟨#[]⟩) 16 rfl Tryz.underlying44 Yfg rfl Zda (fun _ => rfl) (.slice none 0 0) ([] : List ByteArray) (out.map ofL) _ _ _ rfl rfl (World.ownsRow_nil _ _ _ _) HR4.out HB4.out HB4.out.size Zxa ?_; intro v5 w5 hown5 hB5 _ _) | (go_must (refine Yrd (w0 := w2) w2.heap.size rfl _ _ 44 9 (.string ⟨#[]⟩) 16 rfl Tryz.underlying44 Yfg rfl Zda v5 (out.map fun x => Value.string (ofL x)) (.string ⟨#[]⟩) rfl rfl rfl Zmb hB5 hB5.size Zkb ?_); intro v6 w6 hown6 hB6 _ _))
       have HO6 := Ya.mk hown6
       have HB6 := Ya.mk hB6
       clear hown6 hB6 hown5 hB5
       go_wp2
       go_roundg g2
       case measure => omega
       case rel => exact ⟨k + 1, out ++ [[]], Zl, Zl, by go_num, HL2.out, ⟨Zsb⟩, HB6, HPO2, HT2⟩
      ·have hl1 : ((k : Int) == (m : Int) - 1) = false := beq_eq_false_iff_ne.2 Zl
       rw [if_neg Zhb] at HPO2 HT2 HL2
       go_wp2
       go_roundg g2
       case measure => omega
       case rel => exact ⟨k + 1, out, Zl, Zl, by go_num, HL2.out, HO4, HB4, HPO2, HT2⟩
     ·have hst := Ydl (last := (ps.drop (k + 1)).isEmpty) (out := out) (p := p) Zpb
      rw [hst, HLast.out] at HPO2 HT2 HL2
      clear hst HO HO3 HRD2
      have hshape : (out = [] ∧ decide ((0 : Int) < ((out.length : Nat) : Int)) = false) ∨ (∃ gg L, A = some ⟨gg, 0, none⟩ ∧ out.length = L + 1 ∧ L + 1 ≤ cc) := by
       by_cases h0 : out.length = 0
       ·exact .inl ⟨List.eq_nil_of_length_eq_zero h0, decide_eq_false Zl⟩
       ·refine .inr ?_
        rcases HO4.out.2 with ⟨h1, h2⟩ | ⟨gg, c4, cur, h1, _⟩
        ·exact absurd h2 h0
        ·cases h1
         exact ⟨gg, out.length - 1, rfl, Zl, Zl⟩
      rcases hshape with ⟨ho0, hd0⟩ | ⟨gg, L, rfl, hL, hLc⟩
      ·have hd1 : decide (0 < out.length) = false := decide_eq_false (by rw [ho0]; simp)
       have ht0 : out.take (out.length - 1) = out := by rw [ho0]; rfl
       rw [ht0] at HPO2 HT2 HL2
       clear ht0 ho0
       by_cases hl : k + 1 = m
       ·have hl1 : ((k : Int) == (m : Int) - 1) = true := beq_iff_eq.2 Zl
        rw [if_pos Zhb] at HPO2 HT2 HL2
        obtain ⟨A4, cc4, e4, _, _, hrd4⟩ := Yjg HO4.out
        cases e4
        have HR4 := Ya.mk hrd4
        clear hrd4
        go_wp2_with (at_builtin; first | (refine Ymd (w0 := w2) Value.string ByteArray.empty w2.heap.size rfl _ _ 44 9 (.string ⟨#[]⟩) 16 rfl Tryz.underlying44 Yfg rfl Zda (fun _ => rfl) (.slice none 0 0) ([] : List ByteArray) (out.map ofL) _ _ _ rfl rfl (World.ownsRow_nil _ _ _ _) HR4.out HB4.out HB4.out.size Zxa ?_; intro v5 w5 hown5 hB5 _ _) | (go_must (refine Yrd (w0 := w2) w2.heap.size rfl _ _ 44 9 (.string ⟨#[]⟩) 16 rfl Tryz.underlying44 Yfg rfl Zda v5 (out.map fun x => Value.string (ofL x)) (.string ⟨#[]⟩) rfl rfl rfl Zmb hB5 hB5.size Zkb ?_); intro v6 w6 hown6 hB6 _ _))
        have HO6 := Ya.mk hown6
        have HB6 := Ya.mk hB6
        clear hown6 hB6 hown5 hB5
        go_wp2
        go_roundg g2
        case measure => omega
        case rel => exact ⟨k + 1, out ++ [[]], Zl, Zl, by go_num, HL2.out, ⟨Zsb⟩, HB6, HPO2, HT2⟩
       ·have hl1 : ((k : Int) == (m : Int) - 1) = false := beq_eq_false_iff_ne.2 Zl
        rw [if_neg Zhb] at HPO2 HT2 HL2
        go_wp2
        go_roundg g2
        case measure => omega
        case rel => exact ⟨k + 1, out, Zl, Zl, by go_num, HL2.out, HO4, HB4, HPO2, HT2⟩
      ·have HOt := Ya.mk (show OwnS w4 w2.heap.size (.slice (some ⟨gg, 0, none⟩) L cc) (out.take (out.length - 1)) from by
        have h3 := OwnS.take HO4.out L Zl
        rw [show out.length - 1 = L by omega]; exact h3)
       have HLt := Ya.mk (show (out.take (out.length - 1)).length = L by rw [List.length_take]; omega)
       obtain ⟨o2, ho2⟩ : ∃ o2, o2 = out.take (out.length - 1) := ⟨_, rfl⟩
       rw [← ho2] at HOt HLt HPO2 HT2 HL2
       clear ho2 HO4
       simp only [hL]
       have hd0 : decide ((0 : Int) < ((L + 1 : Nat) : Int)) = true := decide_eq_true Zl
       have hd1 : decide (0 < L + 1) = true := decide_eq_true Zl
       have ho2l : o2.length ≤ 1000000000 := by have := HLt.out; omega
       by_cases hl : k + 1 = m
       ·have hl1 : ((k : Int) == (m : Int) - 1) = true := beq_iff_eq.2 Zl
        rw [if_pos Zhb] at HPO2 HT2 HL2
        have HR4 := Ya.mk (show ReadsOf Value.string ByteArray.empty w4 (some ⟨gg, 0, none⟩) L (o2.map ofL) from by
         obtain ⟨A4, cc4, e4, _, _, hrd4⟩ := Yjg HOt.out
         rw [HLt.out] at e4 hrd4
         cases e4; exact hrd4)
        go_wp2_with (at_builtin; first | (refine Ymd (w0 := w2) Value.string ByteArray.empty w2.heap.size rfl _ _ 44 9 (.string ⟨#[]⟩) 16 rfl Tryz.underlying44 Yfg rfl Zda (fun _ => rfl) (.slice none 0 0) ([] : List ByteArray) (o2.map ofL) _ _ _ rfl rfl (World.ownsRow_nil _ _ _ _) HR4.out HB4.out HB4.out.size Zxa ?_; intro v5 w5 hown5 hB5 _ _) | (go_must (refine Yrd (w0 := w2) w2.heap.size rfl _ _ 44 9 (.string ⟨#[]⟩) 16 rfl Tryz.underlying44 Yfg rfl Zda v5 (o2.map fun x => Value.string (ofL x)) (.string ⟨#[]⟩) rfl rfl rfl Zmb hB5 hB5.size Zkb ?_); intro v6 w6 hown6 hB6 _ _))
        have HO6 := Ya.mk hown6
        have HB6 := Ya.mk hB6
        clear hown6 hB6 hown5 hB5
        go_wp2
        go_roundg g2
        case measure => omega
        case rel => exact ⟨k + 1, o2 ++ [[]], Zl, Zl, by go_num, HL2.out, ⟨Zsb⟩, HB6, HPO2, HT2⟩
       ·have hl1 : ((k : Int) == (m : Int) - 1) = false := beq_eq_false_iff_ne.2 Zl
        rw [if_neg Zhb] at HPO2 HT2 HL2
        go_wp2
        go_roundg g2
        case measure => omega
        case rel => exact ⟨k + 1, o2, Zl, Zl, by go_num, HL2.out, HOt, HB4, HPO2, HT2⟩
 rcases key with ⟨r, hcase, hpos⟩ | ⟨hz, hs1⟩
 ·rcases hcase with ⟨k1, k2, rfl⟩ | ⟨k1, k2, rfl⟩
  ·exact main true true (fun _ => hpos) (fun h => by cases h) (fun _ => ⟨k1, by simpa using k2⟩)
  ·exact main true false (fun _ => hpos) (fun h => by cases h) (fun _ => ⟨k1, by simpa using k2⟩)
 ·exact main false false (fun h => by cases h) (fun _ => ⟨hz, hs1⟩) (fun h => by cases h)
theorem Yxe.calls (a0 : ByteArray) (r : ByteArray) (w : World) (hE : EnvOk w) (h : Yxe.f a0 = some r) :
  Calls Tryz.prog 24 #[.string a0] w fun e w' => e = .returned (.string r) ∧ Below w.heap.size w w' := by
 unfold Yxe.f at h
 by_cases hs : a0.size ≤ 30000000
 ·rw [if_pos hs] at h
  obtain rfl := Option.some.inj h
  have hsz := Lib.size_eq a0
  have hne : Yfd a0.data.toList ≠ [] := by rw [Ybk]; exact Ymf _ _
  have hf : ∀ l : List UInt8, headS a0.data.toList = l → l.length ≤ 100000000 → ∃ kp, Yfa.f kp (ofL l) = some ((Yfd a0.data.toList).map ofL) := by
   intro l hl hlen
   obtain ⟨k, hk⟩ := parts_f (ofL l) (by rw [Yda]; exact hlen)
   have h1 : Yfa.f k (ofL l) = _ := hk k (Nat.le_refl _)
   exact ⟨k, by rw [h1, Yob, Ybk, hl]⟩
  cases hd : a0.data.toList with
  | nil =>
   obtain ⟨kp, hk⟩ := hf [] (by rw [hd]; rfl) Zv
   have e : ofL [] = a0 := Ygg (by rw [hd]; rfl)
   rw [e] at hk
   rw [← hd]
   exact Yll a0 a0 w _ hE rfl hs kp hk hne (.inr (.inr ⟨hd, rfl⟩))
  | cons b t =>
   rw [hd] at hsz
   simp only [List.length_cons] at hsz
   rw [← hd]
   by_cases hp : Yxb b = true
   ·obtain ⟨kp, hk⟩ := hf t (by rw [hd, headS, if_pos hp]) Zl
    exact Yll a0 (ofL t) w _ hE rfl hs kp hk hne (.inl ⟨t, b, hd, hp, rfl⟩)
   ·obtain ⟨kp, hk⟩ := hf (b :: t) (by rw [hd, headS, if_neg hp]) (by simp only [List.length_cons]; omega)
    have e : ofL (b :: t) = a0 := Ygg (by rw [hd]; rfl)
    rw [e] at hk
    exact Yll a0 a0 w _ hE rfl hs kp hk hne (.inr (.inl ⟨t, b, hd, by simpa using hp, rfl⟩))
 ·rw [if_neg hs] at h; cases h
end Go.Proofs.YtnmglnglbdpjjaaGreatDoor.X
