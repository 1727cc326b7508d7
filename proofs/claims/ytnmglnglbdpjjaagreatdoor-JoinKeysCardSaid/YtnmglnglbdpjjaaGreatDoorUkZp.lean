/- The document's Path: the parts of a path, dots gone. -/
import Derived.Test.YtnmglnglbdpjjaaGreatDoorUkWords
import Derived.Test.YtnmglnglbdpjjaaGreatDoorUkZr
import Derived.Outline
namespace Go.Proofs.YtnmglnglbdpjjaaGreatDoor.X
open Go.RowKit Go.Lib Go.Shelf Go.Yw.PrintWords Go.Yw.PrintLast Go.Yw.PrintMore
set_option linter.unusedVariables false
set_option linter.unusedSimpArgs false
attribute [local go_sem] Yde Yee Ywe Yve Ypd Yod Yce Ybe
def headS : List UInt8 → List UInt8
 | [] => []
 | b :: t => if Yrb b = true then t else b :: t
theorem Yck (l : List UInt8) : Ygd l = splitB 47 (Yzc (headS l)) := by
 unfold Ygd
 cases l with
 | nil => rfl
 | cons b t =>
  show (if (decide (1 < (splitB 47 (Yeh b :: Yzc t)).length) && ((splitB 47 (Yeh b :: Yzc t)).headD []).isEmpty) = true then (splitB 47 (Yeh b :: Yzc t)).tail else splitB 47 (Yeh b :: Yzc t)) = splitB 47 (Yzc (if Yrb b = true then t else b :: t))
  rw [splitB]
  by_cases hp : Yrb b = true
  ·have hb : Yeh b = 47 := by
    unfold Yrb at hp; unfold Yeh
    rw [Bool.or_eq_true, beq_iff_eq, beq_iff_eq] at hp
    rcases hp with rfl | rfl <;> decide
   have hl : 0 < (splitB 47 (Yzc t)).length := List.length_pos_iff.2 (Ytf _ _)
   rw [if_pos hb, if_pos hp, if_pos]
   ·rfl
   ·simp only [List.length_cons, List.headD_cons, List.isEmpty_nil, Bool.and_true, decide_eq_true_eq]; omega
  ·have hb : ¬ Yeh b = 47 := by
    unfold Yrb at hp; unfold Yeh
    rw [Bool.or_eq_true, beq_iff_eq, beq_iff_eq] at hp
    intro e
    split at e
    ·next h => exact hp (.inr h)
    ·exact hp (.inl e)
   rw [if_neg hb, if_neg hp, if_neg]
   ·show _ = splitB 47 (Yeh b :: Yzc t)
    rw [splitB, if_neg hb]
   ·cases hsx : splitB 47 (Yzc t) with
    | nil => exact absurd hsx (Ytf _ _)
    | cons x y => simp [Yof]
theorem Yng {W : World} {base : Nat} {v : Value} {xs : List (List UInt8)} (h : OwnS W base v xs) :
  ∃ A cap, v = .slice A xs.length cap ∧ xs.length ≤ cap ∧ cap ≤ 9223372036854775807 ∧ ReadsOf Value.string ByteArray.empty W A xs.length (xs.map ofL) := by
 rcases h.2 with ⟨rfl, h0⟩ | ⟨gg, cc, cur, rfl, hgb, hgh, hgn, hgc, hgs, hgt⟩
 ·have qU : xs = [] := List.eq_nil_of_length_eq_zero h0
  subst qU
  exact ⟨none, 0, rfl, Nat.le_refl _, Zl, rfl, Zv, fun hp => absurd hp Zv⟩
 ·unfold maxLen at hgc
  refine ⟨some ⟨gg, 0, none⟩, cc, rfl, hgn, hgc, List.length_map _, Zl, fun hp => ⟨_, rfl, fun j hj => ?_⟩⟩
  have h3 : (cur.toList.take (xs.length * 1))[j]? = some (.string (ofL xs[j])) := by
   rw [hgt, List.getElem?_map, List.getElem?_eq_getElem hj]; rfl
  rw [List.getElem?_take, if_pos Zl] at h3
  rw [show (Addr.add ⟨gg, 0, none⟩ j) = ⟨gg, j, none⟩ from by unfold Addr.add; split <;> simp_all]
  unfold World.cell?
  rw [hgh]
  rw [List.getD_eq_getElem?_getD, List.getElem?_map, List.getElem?_eq_getElem hj]
  simpa using h3
theorem Ycg {W : World} {base : Nat} {v : Value} {xs : List (List UInt8)} (h : W.ownsRow base 9 1 v (([] : List ByteArray) ++ xs.map ofL).length (encs Value.string (([] : List ByteArray) ++ xs.map ofL))) : OwnS W base v xs := by
 have e : encs Value.string (([] : List ByteArray) ++ xs.map ofL) = xs.map fun x => Value.string (ofL x) := by
  unfold encs; rw [List.nil_append, List.map_map]; rfl
 rw [e, List.nil_append, List.length_map] at h
 exact h
theorem Yps {w w2 : World} {n : Nat} (h : Below (w.drewN n).heap.size (w.drewN n) w2) : Below w.heap.size w w2 := (Yb (Below.refl w.heap.size w) n).trans h
def Ycf.f (a0 : ByteArray) : Option ByteArray := if a0.size ≤ 30000000 then some (ofL (Ydf a0.data.toList)) else none
set_option maxHeartbeats 8000000 in
set_option maxRecDepth 100000 in
theorem Ypl (a0 s1 : ByteArray) (w : World) (ps : List (List UInt8)) (hE : EnvOk w) (hps : ps = Ygd a0.data.toList) (hs : a0.size ≤ 30000000) (kp : Nat)
  (hf : Yfa.f kp s1 = some (ps.map ofL)) (hne : ps ≠ [])
  (hhead : (∃ t b, a0.data.toList = b :: t ∧ Yrb b = true ∧ s1 = ofL t) ∨ (∃ t b, a0.data.toList = b :: t ∧ Yrb b = false ∧ s1 = a0) ∨ (a0.data.toList = [] ∧ s1 = a0)) :
  Calls Tryz.prog 24 #[.string a0] w fun e w' => e = .returned (.string (ofL (Ydf a0.data.toList))) ∧ Below w.heap.size w w' := by
 have HE := Ya.mk hE
 have HF := Ya.mk hf
 have HSn := Ya.mk hne
 have HRoom := Ya.mk (Ysi a0.data.toList)
 have HPL := Ya.mk (show Ydf a0.data.toList = 47 :: Lib.join (Ytc (Ygd a0.data.toList) []) [47] from rfl)
 obtain ⟨R, hR⟩ : ∃ R, R = Ydf a0.data.toList := ⟨_, rfl⟩
 rw [← hR] at HPL ⊢
 rw [← hps] at HPL HRoom
 rw [← Lib.size_eq] at HRoom
 have HS := Ya.mk hs
 clear hE hf hne hR hps hs
 have key : (∃ r, ((Yxa.f (bt a0 0) = some true ∧ s1 = a0.extract 1 a0.size ∧ r = true) ∨ (Yxa.f (bt a0 0) = some false ∧ s1 = a0 ∧ r = false)) ∧ 0 < a0.size) ∨ (a0.size = 0 ∧ s1 = a0) := by
  rcases hhead with ⟨t, b, h1, h2, h3⟩ | ⟨t, b, h1, h2, h3⟩ | ⟨h1, h2⟩
  ·obtain ⟨k1, k2, k3⟩ := Ydd a0 0 b t h1
   refine .inl ⟨true, .inl ⟨?_, ?_, rfl⟩, k1⟩
   ·have := Yzh b; rw [h2] at this; rw [show (0 : Int) = ((0 : Nat) : Int) from rfl, k2]; exact this
   ·rw [Yyc, h1]; exact h3
  ·obtain ⟨k1, k2, k3⟩ := Ydd a0 0 b t h1
   refine .inl ⟨false, .inr ⟨?_, h3, rfl⟩, k1⟩
   have := Yzh b; rw [h2] at this; rw [show (0 : Int) = ((0 : Nat) : Int) from rfl, k2]; exact this
  ·exact .inr ⟨by rw [Lib.size_eq, h1]; rfl, h2⟩
 clear hhead
 have main : ∀ (c : Bool) (d : Bool), (c = true → 0 < a0.size) → (c = false → a0.size = 0 ∧ s1 = a0) → (c = true → Yxa.f (bt a0 0) = some d ∧ s1 = (if d = true then a0.extract 1 a0.size else a0)) →
   Calls Tryz.prog 24 #[.string a0] w fun e w' => e = .returned (.string (ofL R)) ∧ Below w.heap.size w w' := by
  intro c d h1 h2 h3
  have kN : ∀ h : 0 < a0.size, ((a0[0]'h).toNat : Int) = bt a0 0 := Yab a0 0
  have h3cases : (c = true ∧ d = true ∧ 0 < a0.size ∧ Yxa.f (bt a0 0) = some true ∧ s1 = a0.extract 1 a0.size) ∨ (c = true ∧ d = false ∧ 0 < a0.size ∧ Yxa.f (bt a0 0) = some false ∧ s1 = a0) ∨ (c = false ∧ a0.size = 0 ∧ s1 = a0) := by
   cases c with
   | false => exact .inr (.inr ⟨rfl, h2 rfl⟩)
   | true =>
    have := h3 rfl
    cases d with
    | true => exact .inl ⟨rfl, rfl, h1 rfl, this.1, by simpa using this.2⟩
    | false => exact .inr (.inl ⟨rfl, rfl, h1 rfl, this.1, by simpa using this.2⟩)
  clear h1 h2 h3
  have HPT : Ya (∀ w0 : World, EnvOk w0 → Calls Tryz.prog 64 #[.string s1] w0 fun e w' => ∃ v0_ : Value, e = .returned (v0_) ∧ Kd.R Kd.string 9 w' w0.heap.size (fun _ => True) v0_ (ps.map ofL) ∧ Below w0.heap.size w0 w') := ⟨fun w0 hw0 => Yfa.calls kp s1 _ w0 hw0 HF.out⟩
  clear HF
  rcases h3cases with ⟨rfl, rfl, hpos, hsl, oZ⟩ | ⟨rfl, rfl, hpos, hsl, oZ⟩ | ⟨rfl, hz, oZ⟩
  all_goals
   rw [oZ] at HPT
   clear oZ
  rotate_left 2
  ·have cJ : decide (0 < (a0.size : Int)) = false := decide_eq_false Zl
   have fY : decide (0 < a0.size) = false := decide_eq_false Zl
   clear kN hz
   go_enter Tryz.func24, Tryz.ntmps24
   go_wp2_with fail
   refine (HPT.out _ HE.out).mono ?_
   rintro e w2 ⟨v0, rfl, hr2, cC⟩
   have eM := Ya.mk cC
   have vE := Ya.mk (HE.out.below cC)
   obtain ⟨g, cap, rfl, aAb, tX, hgb, hrow⟩ := Yxn hr2 HSn.out
   have HROW := Ya.mk hrow
   have aGr : 1 ≤ ps.length := List.length_pos_iff.2 HSn.out
   have hglt : Ya (g < w2.heap.size) := ⟨by
    have h0 : 0 < ps.length := List.length_pos_iff.2 HSn.out
    exact lt_of_cell (hrow 0 h0)⟩
   clear hr2 cC hrow hgb
   unfold maxLen at tX
   go_wp2
   obtain ⟨m, hm⟩ : ∃ m, m = ps.length := ⟨_, rfl⟩
   rw [← hm] at aAb
   simp only [← hm]
   have HMl := Ya.mk hm
   have hmb : m ≤ 1000000000 := by have := Yvj ps; have := HRoom.out; have := HS.out; omega
   clear hm aGr
   go_loopg [4, 5, 6, 7] m (fun g2 v4 v5 _ _ wx => ∃ (k : Nat) (out : List (List UInt8)), k + g2 ≤ m ∧ m ≤ k + g2 ∧ v5 = .int .i64 (k : Int) ∧ out.length ≤ 1000000000 ∧ Ya (OwnS wx w2.heap.size v4 out) ∧ Ya (Below w2.heap.size w2 wx) ∧ Ya (Ytc (ps.drop k) out = Ytc ps []) ∧ Ya (tot out + room (ps.drop k) ≤ 3 * a0.size + 3))
   case atStart => exact ⟨0, [], Zl, Zl, rfl, Zv, ⟨World.ownsRow_nil _ _ _ _⟩, ⟨Below.refl _ _⟩, ⟨rfl⟩, ⟨by simpa [tot] using HRoom.out⟩⟩
   case round =>
    obtain ⟨k, out, vF, hk2, rfl, hol, HO, HB, HPO, HTo⟩ := hrel
    obtain ⟨A, cc, rfl, aGs, aWk, hrd⟩ := Yng HO.out
    have rU := Ya.mk hrd
    clear hrd
    cases gk with
    | zero =>
     obtain rfl : k = m := by omega
     have hlt : decide ((k : Int) < (k : Int)) = false := decide_eq_false Zl
     have hfin := HPO.out
     rw [HMl.out, List.drop_eq_nil_of_le (Nat.le_refl _), Ytc] at hfin
     have hjl := Ynn out
     have htl := HTo.out
     have hs9 := HS.out
     have aDZ := Ysg out
     obtain ⟨kj, hj⟩ := rjoin_f [47] out Zl Zl
     have hj1 : Yib.f kj ⟨#[47]⟩ (out.map ofL) = some (ofL (Lib.join out [47])) := hj kj (Nat.le_refl _)
     have HJ := Ya.mk hj1
     have HEx := Ya.mk (vE.out.below HB.out)
     have HFin := Ya.mk hfin
     have hjs : (ofL (Lib.join out [47])).size ≤ 1000000000 := by rw [Yea]; omega
     have HC := Ya.mk (show Kd.C Kd.string wr A (out.map ofL).length (out.map ofL) from Kd.C_of_reads (enc := Value.string) (d := ByteArray.empty) (h1 := fun _ => rfl) (by rw [List.length_map]; exact rU.out))
     have HLm := Ya.mk (show (out.map ofL).length = out.length from List.length_map _)
     clear hj hj1 hfin hjl htl hs9 aDZ
     go_wp2_with fail
     have hcall := Yib.calls kj ⟨#[47]⟩ A cc (out.map ofL) _ wr HEx.out HC.out (by rw [HLm.out]; exact aGs) HJ.out
     rw [HLm.out] at hcall
     refine hcall.mono ?_
     clear hcall
     rintro e w5 ⟨rfl, ⟨nd5, rfl⟩⟩
     have cU := Ya.mk (show Below w.heap.size w (wr.drewN nd5) from Yb (eM.out.trans (HB.out.mono eM.out.size)) nd5)
     go_wp2
     go_ret
     refine ⟨?_, cU.out⟩
     rw [HPL.out, ← HFin.out]; rfl
    | succ g2 =>
     have hk : k < m := by omega
     have hkp : k < ps.length := by have := HMl.out; omega
     have hlt : decide ((k : Int) < (m : Int)) = true := decide_eq_true Zl
     have hcell := (HROW.out.below HB.out) k hkp
     try simp only [Nat.zero_add] at hcell
     have HRD := Ya.mk (Yum ps k hkp)
     have HDr := Ya.mk (List.drop_eq_getElem_cons hkp)
     obtain ⟨p, hp⟩ : ∃ p, p = ps[k] := ⟨_, rfl⟩
     rw [← hp] at hcell HRD HDr
     have hpl : Ya (p.length ≤ 31000000) := ⟨by have := HTo.out; have := HRD.out; have := HS.out; omega⟩
     obtain ⟨km, hm1⟩ := Yfk (ofL p) ⟨#[35, 63, 96, 123, 125]⟩ (by rw [Yea]; have := hpl.out; omega) Zea
     have hf1 : Yt.f km (ofL p) ⟨#[35, 63, 96, 123, 125]⟩ = some (ofL (Yoc Yqc p)) := hm1 km (Nat.le_refl _)
     obtain ⟨kd, hd1⟩ := Yaq (ofL (Yoc Yqc p)) Zvb
     have sZ : Ycb.f kd (ofL (Yoc Yqc p)) = some ((Yqg (Yoc Yqc p) : Nat) : Int) := hd1 kd (Nat.le_refl _)
     have HF1 := Ya.mk hf1
     have pR := Ya.mk sZ
     have HQl := Ya.mk (Ybh Yqc p)
     have HE3 := Ya.mk (vE.out.below HB.out)
     have aBY := Ya.mk (fun last => Ygi last out p)
     obtain ⟨q, hq⟩ : ∃ q, q = Yoc Yqc p := ⟨_, rfl⟩
     obtain ⟨n, hn⟩ : ∃ n, n = Yqg q := ⟨_, rfl⟩
     have hn3 : n = 0 ∨ n = 1 ∨ n = 2 := by
      rw [hn]; unfold Yqg
      split
      ·omega
      ·split <;> omega
     rw [← hq] at HF1 pR HQl
     rw [← hn] at pR
     have HN := Ya.mk hn
     have HQ := Ya.mk hq
     clear hf1 sZ hp hq hn hm1 hd1
     go_wp2_with fail
     refine (Yt.calls km _ _ _ _ HE3.out HF1.out).mono ?_
     rintro e w3 ⟨rfl, gP⟩
     have HE4 := Ya.mk (HE3.out.below gP)
     have eG := Ya.mk (HB.out.trans (gP.mono HB.out.size))
     have HO3 := Ya.mk (Ywg HO.out gP)
     clear gP
     go_wp2_with fail
     refine (Ycb.calls kd _ _ _ HE4.out pR.out).mono ?_
     rintro e w4 ⟨rfl, lC⟩
     have HE5 := Ya.mk (HE4.out.below lC)
     have dO := Ya.mk (eG.out.trans (lC.mono eG.out.size))
     have lX := Ya.mk (Ywg HO3.out lC)
     clear lC hcell hlt
     have cG := Ya.mk (show Ytc (ps.drop (k + 1)) (Yed (ps.drop (k + 1)).isEmpty out p) = Ytc ps [] by
      have := HPO.out
      rw [HDr.out, Ytc] at this; exact this)
     have HLast := Ya.mk (show (ps.drop (k + 1)).isEmpty = decide (k + 1 = m) by
      have := HMl.out
      rw [Bool.eq_iff_iff, List.isEmpty_iff, List.drop_eq_nil_iff, decide_eq_true_iff]
      omega)
     have aBN := HTo.out
     have htl := Ysg out
     have hHSL := aBY.out (ps.drop (k + 1)).isEmpty
     have hR3 := HRD.out
     have eF := Ya.mk (show tot (Yed (ps.drop (k + 1)).isEmpty out p) + room (ps.drop (k + 1)) ≤ 3 * a0.size + 3 by omega)
     have eO := Ya.mk (show (Yed (ps.drop (k + 1)).isEmpty out p).length ≤ 1000000000 by
      have := Ysg (Yed (ps.drop (k + 1)).isEmpty out p); have := eF.out; have := HS.out; omega)
     clear aBN htl hHSL hR3 aBY HTo HPO HRD HDr HF1 pR
     rcases hn3 with rfl | rfl | rfl
     ·have hst := Yoj (last := (ps.drop (k + 1)).isEmpty) (out := out) (p := p) Znb
      rw [hst, ← HQ.out] at cG eF eO
      clear hst HO HO3 rU
      obtain ⟨A4, cc4, e4, _, _, gV⟩ := Yng lX.out
      cases e4
      have qO := Ya.mk gV
      clear gV
      go_wp2_with (at_builtin; first | (refine Yqd (w0 := w2) Value.string ByteArray.empty w2.heap.size rfl _ _ 44 9 (.string ⟨#[]⟩) 16 rfl Tryz.underlying44 Ykg rfl Zea (fun _ => rfl) (.slice none 0 0) ([] : List ByteArray) (out.map ofL) _ _ _ rfl rfl (World.ownsRow_nil _ _ _ _) qO.out dO.out dO.out.size Zya ?_; intro v5 w5 cZ gY _ _) | (go_must (refine Yud (w0 := w2) w2.heap.size rfl _ _ 44 9 (.string ⟨#[]⟩) 16 rfl Tryz.underlying44 Ykg rfl Zea v5 (out.map fun x => Value.string (ofL x)) (.string (ofL q)) rfl rfl rfl Zkb gY gY.size Zib ?_); intro v6 w6 dW pB _ _))
      have HO6 := Ya.mk dW
      have jJ := Ya.mk pB
      clear dW pB cZ gY
      go_wp2
      go_roundg g2
      case measure => omega
      case rel => exact ⟨k + 1, out ++ [q], Zl, Zl, by go_num, eO.out, ⟨by simpa [OwnS] using HO6.out⟩, jJ, cG, eF⟩
     ·have hst := Yll (last := (ps.drop (k + 1)).isEmpty) (out := out) (p := p) Znb
      rw [hst, HLast.out] at cG eF eO
      clear hst HO HO3 rU
      by_cases hl : k + 1 = m
      ·have lB : ((k : Int) == (m : Int) - 1) = true := beq_iff_eq.2 Zl
       rw [if_pos Zgb] at cG eF eO
       obtain ⟨A4, cc4, e4, _, _, gV⟩ := Yng lX.out
       cases e4
       have qO := Ya.mk gV
       clear gV
       go_wp2_with (at_builtin; first | (refine Yqd (w0 := w2) Value.string ByteArray.empty w2.heap.size rfl _ _ 44 9 (.string ⟨#[]⟩) 16 rfl Tryz.underlying44 Ykg rfl Zea (fun _ => rfl) (.slice none 0 0) ([] : List ByteArray) (out.map ofL) _ _ _ rfl rfl (World.ownsRow_nil _ _ _ _) qO.out dO.out dO.out.size Zya ?_; intro v5 w5 cZ gY _ _) | (go_must (refine Yud (w0 := w2) w2.heap.size rfl _ _ 44 9 (.string ⟨#[]⟩) 16 rfl Tryz.underlying44 Ykg rfl Zea v5 (out.map fun x => Value.string (ofL x)) (.string ⟨#[]⟩) rfl rfl rfl Zkb gY gY.size Zib ?_); intro v6 w6 dW pB _ _))
       have HO6 := Ya.mk dW
       have jJ := Ya.mk pB
       clear dW pB cZ gY
       go_wp2
       go_roundg g2
       case measure => omega
       case rel => exact ⟨k + 1, out ++ [[]], Zl, Zl, by go_num, eO.out, ⟨Zqb⟩, jJ, cG, eF⟩
      ·have lB : ((k : Int) == (m : Int) - 1) = false := beq_eq_false_iff_ne.2 Zl
       rw [if_neg Zgb] at cG eF eO
       go_wp2
       go_roundg g2
       case measure => omega
       case rel => exact ⟨k + 1, out, Zl, Zl, by go_num, eO.out, lX, dO, cG, eF⟩
     ·have hst := Yol (last := (ps.drop (k + 1)).isEmpty) (out := out) (p := p) Znb
      rw [hst, HLast.out] at cG eF eO
      clear hst HO HO3 rU
      have hshape : (out = [] ∧ decide ((0 : Int) < ((out.length : Nat) : Int)) = false) ∨ (∃ gg L, A = some ⟨gg, 0, none⟩ ∧ out.length = L + 1 ∧ L + 1 ≤ cc) := by
       by_cases h0 : out.length = 0
       ·exact .inl ⟨List.eq_nil_of_length_eq_zero h0, decide_eq_false Zl⟩
       ·refine .inr ?_
        rcases lX.out.2 with ⟨h1, h2⟩ | ⟨gg, c4, cur, h1, _⟩
        ·exact absurd h2 h0
        ·cases h1
         exact ⟨gg, out.length - 1, rfl, Zl, Zl⟩
      rcases hshape with ⟨qU, nJ⟩ | ⟨gg, L, rfl, hL, hLc⟩
      ·have hd1 : decide (0 < out.length) = false := decide_eq_false (by rw [qU]; simp)
       have ht0 : out.take (out.length - 1) = out := by rw [qU]; rfl
       rw [ht0] at cG eF eO
       clear ht0 qU
       by_cases hl : k + 1 = m
       ·have lB : ((k : Int) == (m : Int) - 1) = true := beq_iff_eq.2 Zl
        rw [if_pos Zgb] at cG eF eO
        obtain ⟨A4, cc4, e4, _, _, gV⟩ := Yng lX.out
        cases e4
        have qO := Ya.mk gV
        clear gV
        go_wp2_with (at_builtin; first | (refine Yqd (w0 := w2) Value.string ByteArray.empty w2.heap.size rfl _ _ 44 9 (.string ⟨#[]⟩) 16 rfl Tryz.underlying44 Ykg rfl Zea (fun _ => rfl) (.slice none 0 0) ([] : List ByteArray) (out.map ofL) _ _ _ rfl rfl (World.ownsRow_nil _ _ _ _) qO.out dO.out dO.out.size Zya ?_; intro v5 w5 cZ gY _ _) | (go_must (refine Yud (w0 := w2) w2.heap.size rfl _ _ 44 9 (.string ⟨#[]⟩) 16 rfl Tryz.underlying44 Ykg rfl Zea v5 (out.map fun x => Value.string (ofL x)) (.string ⟨#[]⟩) rfl rfl rfl Zkb gY gY.size Zib ?_); intro v6 w6 dW pB _ _))
        have HO6 := Ya.mk dW
        have jJ := Ya.mk pB
        clear dW pB cZ gY
        go_wp2
        go_roundg g2
        case measure => omega
        case rel => exact ⟨k + 1, out ++ [[]], Zl, Zl, by go_num, eO.out, ⟨Zqb⟩, jJ, cG, eF⟩
       ·have lB : ((k : Int) == (m : Int) - 1) = false := beq_eq_false_iff_ne.2 Zl
        rw [if_neg Zgb] at cG eF eO
        go_wp2
        go_roundg g2
        case measure => omega
        case rel => exact ⟨k + 1, out, Zl, Zl, by go_num, eO.out, lX, dO, cG, eF⟩
      ·have HOt := Ya.mk (show OwnS w4 w2.heap.size (.slice (some ⟨gg, 0, none⟩) L cc) (out.take (out.length - 1)) from by
        have h3 := OwnS.take lX.out L Zl
        rw [show out.length - 1 = L by omega]; exact h3)
       have HLt := Ya.mk (show (out.take (out.length - 1)).length = L by rw [List.length_take]; omega)
       obtain ⟨o2, ho2⟩ : ∃ o2, o2 = out.take (out.length - 1) := ⟨_, rfl⟩
       rw [← ho2] at HOt HLt cG eF eO
       clear ho2 lX
       simp only [hL]
       have nJ : decide ((0 : Int) < ((L + 1 : Nat) : Int)) = true := decide_eq_true Zl
       have hd1 : decide (0 < L + 1) = true := decide_eq_true Zl
       have ho2l : o2.length ≤ 1000000000 := by have := HLt.out; omega
       by_cases hl : k + 1 = m
       ·have lB : ((k : Int) == (m : Int) - 1) = true := beq_iff_eq.2 Zl
        rw [if_pos Zgb] at cG eF eO
        have qO := Ya.mk (show ReadsOf Value.string ByteArray.empty w4 (some ⟨gg, 0, none⟩) L (o2.map ofL) from by
         obtain ⟨A4, cc4, e4, _, _, gV⟩ := Yng HOt.out
         rw [HLt.out] at e4 gV
         cases e4; exact gV)
        go_wp2_with (at_builtin; first | (refine Yqd (w0 := w2) Value.string ByteArray.empty w2.heap.size rfl _ _ 44 9 (.string ⟨#[]⟩) 16 rfl Tryz.underlying44 Ykg rfl Zea (fun _ => rfl) (.slice none 0 0) ([] : List ByteArray) (o2.map ofL) _ _ _ rfl rfl (World.ownsRow_nil _ _ _ _) qO.out dO.out dO.out.size Zya ?_; intro v5 w5 cZ gY _ _) | (go_must (refine Yud (w0 := w2) w2.heap.size rfl _ _ 44 9 (.string ⟨#[]⟩) 16 rfl Tryz.underlying44 Ykg rfl Zea v5 (o2.map fun x => Value.string (ofL x)) (.string ⟨#[]⟩) rfl rfl rfl Zkb gY gY.size Zib ?_); intro v6 w6 dW pB _ _))
        have HO6 := Ya.mk dW
        have jJ := Ya.mk pB
        clear dW pB cZ gY
        go_wp2
        go_roundg g2
        case measure => omega
        case rel => exact ⟨k + 1, o2 ++ [[]], Zl, Zl, by go_num, eO.out, ⟨Zqb⟩, jJ, cG, eF⟩
       ·have lB : ((k : Int) == (m : Int) - 1) = false := beq_eq_false_iff_ne.2 Zl
        rw [if_neg Zgb] at cG eF eO
        go_wp2
        go_roundg g2
        case measure => omega
        case rel => exact ⟨k + 1, o2, Zl, Zl, by go_num, eO.out, HOt, dO, cG, eF⟩
  all_goals
   have cJ : decide (0 < (a0.size : Int)) = true := decide_eq_true Zl
   have fY : decide (0 < a0.size) = true := decide_eq_true hpos
   have qi4 : (0 < (a0.size : Int)) = True := eq_true Zl
   have b1 : (1 : Int) ≤ (a0.size : Int) := by omega
   have q4 := eq_true hpos
   clear hpos
   have HSL := Ya.mk hsl
   clear hsl
   go_enter Tryz.func24, Tryz.ntmps24
   go_wp2_with (first | (go_at_call 48; (with_reducible refine (Yxa.calls (bt a0 0) _ _ ?side1 HSL.out).mono ?_); (case side1 => first | exact HE.out | exact EnvOk.heap HE.out rfl); rintro e w' ⟨rfl, ⟨nd, rfl⟩⟩))
   clear kN q4 qi4 b1
   refine (HPT.out (w.drewN nd) (EnvOk.heap HE.out rfl)).mono ?_
   rintro e w2 ⟨v0, rfl, hr2, cC⟩
   have eM := Ya.mk (show Below w.heap.size w w2 from Yps cC)
   have vE := Ya.mk (HE.out.below eM.out)
   obtain ⟨g, cap, rfl, aAb, tX, hgb, hrow⟩ := Yxn hr2 HSn.out
   have HROW := Ya.mk hrow
   have aGr : 1 ≤ ps.length := List.length_pos_iff.2 HSn.out
   have hglt : Ya (g < w2.heap.size) := ⟨by
    have h0 : 0 < ps.length := List.length_pos_iff.2 HSn.out
    exact lt_of_cell (hrow 0 h0)⟩
   clear hr2 cC hrow hgb
   unfold maxLen at tX
   go_wp2
   obtain ⟨m, hm⟩ : ∃ m, m = ps.length := ⟨_, rfl⟩
   rw [← hm] at aAb
   simp only [← hm]
   have HMl := Ya.mk hm
   have hmb : m ≤ 1000000000 := by have := Yvj ps; have := HRoom.out; have := HS.out; omega
   clear hm aGr
   go_loopg [4, 5, 6, 7] m (fun g2 v4 v5 _ _ wx => ∃ (k : Nat) (out : List (List UInt8)), k + g2 ≤ m ∧ m ≤ k + g2 ∧ v5 = .int .i64 (k : Int) ∧ out.length ≤ 1000000000 ∧ Ya (OwnS wx w2.heap.size v4 out) ∧ Ya (Below w2.heap.size w2 wx) ∧ Ya (Ytc (ps.drop k) out = Ytc ps []) ∧ Ya (tot out + room (ps.drop k) ≤ 3 * a0.size + 3))
   case atStart => exact ⟨0, [], Zl, Zl, rfl, Zv, ⟨World.ownsRow_nil _ _ _ _⟩, ⟨Below.refl _ _⟩, ⟨rfl⟩, ⟨by simpa [tot] using HRoom.out⟩⟩
   case round =>
    obtain ⟨k, out, vF, hk2, rfl, hol, HO, HB, HPO, HTo⟩ := hrel
    obtain ⟨A, cc, rfl, aGs, aWk, hrd⟩ := Yng HO.out
    have rU := Ya.mk hrd
    clear hrd
    cases gk with
    | zero =>
     obtain rfl : k = m := by omega
     have hlt : decide ((k : Int) < (k : Int)) = false := decide_eq_false Zl
     have hfin := HPO.out
     rw [HMl.out, List.drop_eq_nil_of_le (Nat.le_refl _), Ytc] at hfin
     have hjl := Ynn out
     have htl := HTo.out
     have hs9 := HS.out
     have aDZ := Ysg out
     obtain ⟨kj, hj⟩ := rjoin_f [47] out Zl Zl
     have hj1 : Yib.f kj ⟨#[47]⟩ (out.map ofL) = some (ofL (Lib.join out [47])) := hj kj (Nat.le_refl _)
     have HJ := Ya.mk hj1
     have HEx := Ya.mk (vE.out.below HB.out)
     have HFin := Ya.mk hfin
     have hjs : (ofL (Lib.join out [47])).size ≤ 1000000000 := by rw [Yea]; omega
     have HC := Ya.mk (show Kd.C Kd.string wr A (out.map ofL).length (out.map ofL) from Kd.C_of_reads (enc := Value.string) (d := ByteArray.empty) (h1 := fun _ => rfl) (by rw [List.length_map]; exact rU.out))
     have HLm := Ya.mk (show (out.map ofL).length = out.length from List.length_map _)
     clear hj hj1 hfin hjl htl hs9 aDZ
     go_wp2_with fail
     have hcall := Yib.calls kj ⟨#[47]⟩ A cc (out.map ofL) _ wr HEx.out HC.out (by rw [HLm.out]; exact aGs) HJ.out
     rw [HLm.out] at hcall
     refine hcall.mono ?_
     clear hcall
     rintro e w5 ⟨rfl, ⟨nd5, rfl⟩⟩
     have cU := Ya.mk (show Below w.heap.size w (wr.drewN nd5) from Yb (eM.out.trans (HB.out.mono eM.out.size)) nd5)
     go_wp2
     go_ret
     refine ⟨?_, cU.out⟩
     rw [HPL.out, ← HFin.out]; rfl
    | succ g2 =>
     have hk : k < m := by omega
     have hkp : k < ps.length := by have := HMl.out; omega
     have hlt : decide ((k : Int) < (m : Int)) = true := decide_eq_true Zl
     have hcell := (HROW.out.below HB.out) k hkp
     try simp only [Nat.zero_add] at hcell
     have HRD := Ya.mk (Yum ps k hkp)
     have HDr := Ya.mk (List.drop_eq_getElem_cons hkp)
     obtain ⟨p, hp⟩ : ∃ p, p = ps[k] := ⟨_, rfl⟩
     rw [← hp] at hcell HRD HDr
     have hpl : Ya (p.length ≤ 31000000) := ⟨by have := HTo.out; have := HRD.out; have := HS.out; omega⟩
     obtain ⟨km, hm1⟩ := Yfk (ofL p) ⟨#[35, 63, 96, 123, 125]⟩ (by rw [Yea]; have := hpl.out; omega) Zea
     have hf1 : Yt.f km (ofL p) ⟨#[35, 63, 96, 123, 125]⟩ = some (ofL (Yoc Yqc p)) := hm1 km (Nat.le_refl _)
     obtain ⟨kd, hd1⟩ := Yaq (ofL (Yoc Yqc p)) Zvb
     have sZ : Ycb.f kd (ofL (Yoc Yqc p)) = some ((Yqg (Yoc Yqc p) : Nat) : Int) := hd1 kd (Nat.le_refl _)
     have HF1 := Ya.mk hf1
     have pR := Ya.mk sZ
     have HQl := Ya.mk (Ybh Yqc p)
     have HE3 := Ya.mk (vE.out.below HB.out)
     have aBY := Ya.mk (fun last => Ygi last out p)
     obtain ⟨q, hq⟩ : ∃ q, q = Yoc Yqc p := ⟨_, rfl⟩
     obtain ⟨n, hn⟩ : ∃ n, n = Yqg q := ⟨_, rfl⟩
     have hn3 : n = 0 ∨ n = 1 ∨ n = 2 := by
      rw [hn]; unfold Yqg
      split
      ·omega
      ·split <;> omega
     rw [← hq] at HF1 pR HQl
     rw [← hn] at pR
     have HN := Ya.mk hn
     have HQ := Ya.mk hq
     clear hf1 sZ hp hq hn hm1 hd1
     go_wp2_with fail
     refine (Yt.calls km _ _ _ _ HE3.out HF1.out).mono ?_
     rintro e w3 ⟨rfl, gP⟩
     have HE4 := Ya.mk (HE3.out.below gP)
     have eG := Ya.mk (HB.out.trans (gP.mono HB.out.size))
     have HO3 := Ya.mk (Ywg HO.out gP)
     clear gP
     go_wp2_with fail
     refine (Ycb.calls kd _ _ _ HE4.out pR.out).mono ?_
     rintro e w4 ⟨rfl, lC⟩
     have HE5 := Ya.mk (HE4.out.below lC)
     have dO := Ya.mk (eG.out.trans (lC.mono eG.out.size))
     have lX := Ya.mk (Ywg HO3.out lC)
     clear lC hcell hlt
     have cG := Ya.mk (show Ytc (ps.drop (k + 1)) (Yed (ps.drop (k + 1)).isEmpty out p) = Ytc ps [] by
      have := HPO.out
      rw [HDr.out, Ytc] at this; exact this)
     have HLast := Ya.mk (show (ps.drop (k + 1)).isEmpty = decide (k + 1 = m) by
      have := HMl.out
      rw [Bool.eq_iff_iff, List.isEmpty_iff, List.drop_eq_nil_iff, decide_eq_true_iff]
      omega)
     have aBN := HTo.out
     have htl := Ysg out
     have hHSL := aBY.out (ps.drop (k + 1)).isEmpty
     have hR3 := HRD.out
     have eF := Ya.mk (show tot (Yed (ps.drop (k + 1)).isEmpty out p) + room (ps.drop (k + 1)) ≤ 3 * a0.size + 3 by omega)
     have eO := Ya.mk (show (Yed (ps.drop (k + 1)).isEmpty out p).length ≤ 1000000000 by
      have := Ysg (Yed (ps.drop (k + 1)).isEmpty out p); have := eF.out; have := HS.out; omega)
     clear aBN htl hHSL hR3 aBY HTo HPO HRD HDr HF1 pR
     rcases hn3 with rfl | rfl | rfl
     ·have hst := Yoj (last := (ps.drop (k + 1)).isEmpty) (out := out) (p := p) Znb
      rw [hst, ← HQ.out] at cG eF eO
      clear hst HO HO3 rU
      obtain ⟨A4, cc4, e4, _, _, gV⟩ := Yng lX.out
      cases e4
      have qO := Ya.mk gV
      clear gV
      go_wp2_with (at_builtin; first | (refine Yqd (w0 := w2) Value.string ByteArray.empty w2.heap.size rfl _ _ 44 9 (.string ⟨#[]⟩) 16 rfl Tryz.underlying44 Ykg rfl Zea (fun _ => rfl) (.slice none 0 0) ([] : List ByteArray) (out.map ofL) _ _ _ rfl rfl (World.ownsRow_nil _ _ _ _) qO.out dO.out dO.out.size Zya ?_; intro v5 w5 cZ gY _ _) | (go_must (refine Yud (w0 := w2) w2.heap.size rfl _ _ 44 9 (.string ⟨#[]⟩) 16 rfl Tryz.underlying44 Ykg rfl Zea v5 (out.map fun x => Value.string (ofL x)) (.string (ofL q)) rfl rfl rfl Zkb gY gY.size Zib ?_); intro v6 w6 dW pB _ _))
      have HO6 := Ya.mk dW
      have jJ := Ya.mk pB
      clear dW pB cZ gY
      go_wp2
      go_roundg g2
      case measure => omega
      case rel => exact ⟨k + 1, out ++ [q], Zl, Zl, by go_num, eO.out, ⟨by simpa [OwnS] using HO6.out⟩, jJ, cG, eF⟩
     ·have hst := Yll (last := (ps.drop (k + 1)).isEmpty) (out := out) (p := p) Znb
      rw [hst, HLast.out] at cG eF eO
      clear hst HO HO3 rU
      by_cases hl : k + 1 = m
      ·have lB : ((k : Int) == (m : Int) - 1) = true := beq_iff_eq.2 Zl
       rw [if_pos Zgb] at cG eF eO
       obtain ⟨A4, cc4, e4, _, _, gV⟩ := Yng lX.out
       cases e4
       have qO := Ya.mk gV
       clear gV
       go_wp2_with (at_builtin; first | (refine Yqd (w0 := w2) Value.string ByteArray.empty w2.heap.size rfl _ _ 44 9 (.string ⟨#[]⟩) 16 rfl Tryz.underlying44 Ykg rfl Zea (fun _ => rfl) (.slice none 0 0) ([] : List ByteArray) (out.map ofL) _ _ _ rfl rfl (World.ownsRow_nil _ _ _ _) qO.out dO.out dO.out.size Zya ?_; intro v5 w5 cZ gY _ _) | (go_must (refine Yud (w0 := w2) w2.heap.size rfl _ _ 44 9 (.string ⟨#[]⟩) 16 rfl Tryz.underlying44 Ykg rfl Zea v5 (out.map fun x => Value.string (ofL x)) (.string ⟨#[]⟩) rfl rfl rfl Zkb gY gY.size Zib ?_); intro v6 w6 dW pB _ _))
       have HO6 := Ya.mk dW
       have jJ := Ya.mk pB
       clear dW pB cZ gY
       go_wp2
       go_roundg g2
       case measure => omega
       case rel => exact ⟨k + 1, out ++ [[]], Zl, Zl, by go_num, eO.out, ⟨Zqb⟩, jJ, cG, eF⟩
      ·have lB : ((k : Int) == (m : Int) - 1) = false := beq_eq_false_iff_ne.2 Zl
       rw [if_neg Zgb] at cG eF eO
       go_wp2
       go_roundg g2
       case measure => omega
       case rel => exact ⟨k + 1, out, Zl, Zl, by go_num, eO.out, lX, dO, cG, eF⟩
     ·have hst := Yol (last := (ps.drop (k + 1)).isEmpty) (out := out) (p := p) Znb
      rw [hst, HLast.out] at cG eF eO
      clear hst HO HO3 rU
      have hshape : (out = [] ∧ decide ((0 : Int) < ((out.length : Nat) : Int)) = false) ∨ (∃ gg L, A = some ⟨gg, 0, none⟩ ∧ out.length = L + 1 ∧ L + 1 ≤ cc) := by
       by_cases h0 : out.length = 0
       ·exact .inl ⟨List.eq_nil_of_length_eq_zero h0, decide_eq_false Zl⟩
       ·refine .inr ?_
        rcases lX.out.2 with ⟨h1, h2⟩ | ⟨gg, c4, cur, h1, _⟩
        ·exact absurd h2 h0
        ·cases h1
         exact ⟨gg, out.length - 1, rfl, Zl, Zl⟩
      rcases hshape with ⟨qU, nJ⟩ | ⟨gg, L, rfl, hL, hLc⟩
      ·have hd1 : decide (0 < out.length) = false := decide_eq_false (by rw [qU]; simp)
       have ht0 : out.take (out.length - 1) = out := by rw [qU]; rfl
       rw [ht0] at cG eF eO
       clear ht0 qU
       by_cases hl : k + 1 = m
       ·have lB : ((k : Int) == (m : Int) - 1) = true := beq_iff_eq.2 Zl
        rw [if_pos Zgb] at cG eF eO
        obtain ⟨A4, cc4, e4, _, _, gV⟩ := Yng lX.out
        cases e4
        have qO := Ya.mk gV
        clear gV
        go_wp2_with (at_builtin; first | (refine Yqd (w0 := w2) Value.string ByteArray.empty w2.heap.size rfl _ _ 44 9 (.string ⟨#[]⟩) 16 rfl Tryz.underlying44 Ykg rfl Zea (fun _ => rfl) (.slice none 0 0) ([] : List ByteArray) (out.map ofL) _ _ _ rfl rfl (World.ownsRow_nil _ _ _ _) qO.out dO.out dO.out.size Zya ?_; intro v5 w5 cZ gY _ _) | (go_must (refine Yud (w0 := w2) w2.heap.size rfl _ _ 44 9 (.string ⟨#[]⟩) 16 rfl Tryz.underlying44 Ykg rfl Zea v5 (out.map fun x => Value.string (ofL x)) (.string ⟨#[]⟩) rfl rfl rfl Zkb gY gY.size Zib ?_); intro v6 w6 dW pB _ _))
        have HO6 := Ya.mk dW
        have jJ := Ya.mk pB
        clear dW pB cZ gY
        go_wp2
        go_roundg g2
        case measure => omega
        case rel => exact ⟨k + 1, out ++ [[]], Zl, Zl, by go_num, eO.out, ⟨Zqb⟩, jJ, cG, eF⟩
       ·have lB : ((k : Int) == (m : Int) - 1) = false := beq_eq_false_iff_ne.2 Zl
        rw [if_neg Zgb] at cG eF eO
        go_wp2
        go_roundg g2
        case measure => omega
        case rel => exact ⟨k + 1, out, Zl, Zl, by go_num, eO.out, lX, dO, cG, eF⟩
      ·have HOt := Ya.mk (show OwnS w4 w2.heap.size (.slice (some ⟨gg, 0, none⟩) L cc) (out.take (out.length - 1)) from by
        have h3 := OwnS.take lX.out L Zl
        rw [show out.length - 1 = L by omega]; exact h3)
       have HLt := Ya.mk (show (out.take (out.length - 1)).length = L by rw [List.length_take]; omega)
       obtain ⟨o2, ho2⟩ : ∃ o2, o2 = out.take (out.length - 1) := ⟨_, rfl⟩
       rw [← ho2] at HOt HLt cG eF eO
       clear ho2 lX
       simp only [hL]
       have nJ : decide ((0 : Int) < ((L + 1 : Nat) : Int)) = true := decide_eq_true Zl
       have hd1 : decide (0 < L + 1) = true := decide_eq_true Zl
       have ho2l : o2.length ≤ 1000000000 := by have := HLt.out; omega
       by_cases hl : k + 1 = m
       ·have lB : ((k : Int) == (m : Int) - 1) = true := beq_iff_eq.2 Zl
        rw [if_pos Zgb] at cG eF eO
        have qO := Ya.mk (show ReadsOf Value.string ByteArray.empty w4 (some ⟨gg, 0, none⟩) L (o2.map ofL) from by
         obtain ⟨A4, cc4, e4, _, _, gV⟩ := Yng HOt.out
         rw [HLt.out] at e4 gV
         cases e4; exact gV)
        go_wp2_with (at_builtin; first | (refine Yqd (w0 := w2) Value.string ByteArray.empty w2.heap.size rfl _ _ 44 9 (.string ⟨#[]⟩) 16 rfl Tryz.underlying44 Ykg rfl Zea (fun _ => rfl) (.slice none 0 0) ([] : List ByteArray) (o2.map ofL) _ _ _ rfl rfl (World.ownsRow_nil _ _ _ _) qO.out dO.out dO.out.size Zya ?_; intro v5 w5 cZ gY _ _) | (go_must (refine Yud (w0 := w2) w2.heap.size rfl _ _ 44 9 (.string ⟨#[]⟩) 16 rfl Tryz.underlying44 Ykg rfl Zea v5 (o2.map fun x => Value.string (ofL x)) (.string ⟨#[]⟩) rfl rfl rfl Zkb gY gY.size Zib ?_); intro v6 w6 dW pB _ _))
        have HO6 := Ya.mk dW
        have jJ := Ya.mk pB
        clear dW pB cZ gY
        go_wp2
        go_roundg g2
        case measure => omega
        case rel => exact ⟨k + 1, o2 ++ [[]], Zl, Zl, by go_num, eO.out, ⟨Zqb⟩, jJ, cG, eF⟩
       ·have lB : ((k : Int) == (m : Int) - 1) = false := beq_eq_false_iff_ne.2 Zl
        rw [if_neg Zgb] at cG eF eO
        go_wp2
        go_roundg g2
        case measure => omega
        case rel => exact ⟨k + 1, o2, Zl, Zl, by go_num, eO.out, HOt, dO, cG, eF⟩
 rcases key with ⟨r, hcase, hpos⟩ | ⟨hz, oZ⟩
 ·rcases hcase with ⟨k1, k2, rfl⟩ | ⟨k1, k2, rfl⟩
  ·exact main true true (fun _ => hpos) (fun h => by cases h) (fun _ => ⟨k1, by simpa using k2⟩)
  ·exact main true false (fun _ => hpos) (fun h => by cases h) (fun _ => ⟨k1, by simpa using k2⟩)
 ·exact main false false (fun h => by cases h) (fun _ => ⟨hz, oZ⟩) (fun h => by cases h)
theorem Ycf.calls (a0 r : ByteArray) (w : World) (hE : EnvOk w) (h : Ycf.f a0 = some r) :
  Calls Tryz.prog 24 #[.string a0] w fun e w' => e = .returned (.string r) ∧ Below w.heap.size w w' := by
 unfold Ycf.f at h
 by_cases hs : a0.size ≤ 30000000
 ·rw [if_pos hs] at h
  obtain rfl := Option.some.inj h
  have hsz := Lib.size_eq a0
  have hne : Ygd a0.data.toList ≠ [] := by rw [Yck]; exact Ytf _ _
  have hf : ∀ l : List UInt8, headS a0.data.toList = l → l.length ≤ 100000000 → ∃ kp, Yfa.f kp (ofL l) = some ((Ygd a0.data.toList).map ofL) := by
   intro l hl hlen
   obtain ⟨k, hk⟩ := parts_f (ofL l) (by rw [Yea]; exact hlen)
   have h1 : Yfa.f k (ofL l) = _ := hk k (Nat.le_refl _)
   exact ⟨k, by rw [h1, Ygb, Yck, hl]⟩
  cases hd : a0.data.toList with
  | nil =>
   obtain ⟨kp, hk⟩ := hf [] (by rw [hd]; rfl) Zv
   have e : ofL [] = a0 := Ylg (by rw [hd]; rfl)
   rw [e] at hk
   rw [← hd]
   exact Ypl a0 a0 w _ hE rfl hs kp hk hne (.inr (.inr ⟨hd, rfl⟩))
  | cons b t =>
   rw [hd] at hsz
   simp only [List.length_cons] at hsz
   rw [← hd]
   by_cases hp : Yrb b = true
   ·obtain ⟨kp, hk⟩ := hf t (by rw [hd, headS, if_pos hp]) Zl
    exact Ypl a0 (ofL t) w _ hE rfl hs kp hk hne (.inl ⟨t, b, hd, hp, rfl⟩)
   ·obtain ⟨kp, hk⟩ := hf (b :: t) (by rw [hd, headS, if_neg hp]) (by simp only [List.length_cons]; omega)
    have e : ofL (b :: t) = a0 := Ylg (by rw [hd]; rfl)
    rw [e] at hk
    exact Ypl a0 a0 w _ hE rfl hs kp hk hne (.inr (.inl ⟨t, b, hd, by simpa using hp, rfl⟩))
 ·rw [if_neg hs] at h; cases h
end Go.Proofs.YtnmglnglbdpjjaaGreatDoor.X
