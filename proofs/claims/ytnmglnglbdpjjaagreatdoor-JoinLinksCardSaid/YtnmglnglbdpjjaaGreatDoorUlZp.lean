/- The document's Path: the parts of a path, dots gone. -/
import Derived.Test.YtnmglnglbdpjjaaGreatDoorUlWords
import Derived.Test.YtnmglnglbdpjjaaGreatDoorUlZr
import Derived.Outline
namespace Go.Proofs.YtnmglnglbdpjjaaGreatDoor.X
open Go.RowKit Go.Lib Go.Shelf Go.Yw.PrintWords Go.Yw.PrintLast Go.Yw.PrintMore
set_option linter.unusedVariables false
set_option linter.unusedSimpArgs false
attribute [local go_sem] Yxd Yae Yoe Yqe Yld Yjd Yyd Yzd
def headS : List UInt8 → List UInt8
 | [] => []
 | b :: t => if Yqb b = true then t else b :: t
theorem Yvj (l : List UInt8) : Yhd l = splitB 47 (Yxc (headS l)) := by
 unfold Yhd
 cases l with
 | nil => rfl
 | cons b t =>
  show (if (decide (1 < (splitB 47 (Yah b :: Yxc t)).length) && ((splitB 47 (Yah b :: Yxc t)).headD []).isEmpty) = true then (splitB 47 (Yah b :: Yxc t)).tail else splitB 47 (Yah b :: Yxc t)) = splitB 47 (Yxc (if Yqb b = true then t else b :: t))
  rw [splitB]
  by_cases hp : Yqb b = true
  ·have hb : Yah b = 47 := by
    unfold Yqb at hp; unfold Yah
    rw [Bool.or_eq_true, beq_iff_eq, beq_iff_eq] at hp
    rcases hp with rfl | rfl <;> decide
   have hl : 0 < (splitB 47 (Yxc t)).length := List.length_pos_iff.2 (Ylf _ _)
   rw [if_pos hb, if_pos hp, if_pos]
   ·rfl
   ·simp only [List.length_cons, List.headD_cons, List.isEmpty_nil, Bool.and_true, decide_eq_true_eq]; omega
  ·have hb : ¬ Yah b = 47 := by
    unfold Yqb at hp; unfold Yah
    rw [Bool.or_eq_true, beq_iff_eq, beq_iff_eq] at hp
    intro e
    split at e
    ·next h => exact hp (.inr h)
    ·exact hp (.inl e)
   rw [if_neg hb, if_neg hp, if_neg]
   ·show _ = splitB 47 (Yah b :: Yxc t)
    rw [splitB, if_neg hb]
   ·cases hsx : splitB 47 (Yxc t) with
    | nil => exact absurd hsx (Ylf _ _)
    | cons x y => simp [Yhf]
theorem Ygg {W : World} {base : Nat} {v : Value} {xs : List (List UInt8)} (h : OwnS W base v xs) :
  ∃ A cap, v = .slice A xs.length cap ∧ xs.length ≤ cap ∧ cap ≤ 9223372036854775807 ∧ ReadsOf Value.string ByteArray.empty W A xs.length (xs.map ofL) := by
 rcases h.2 with ⟨rfl, h0⟩ | ⟨gg, cc, cur, rfl, hgb, hgh, hgn, hgc, hgs, hgt⟩
 ·have qE : xs = [] := List.eq_nil_of_length_eq_zero h0
  subst qE
  exact ⟨none, 0, rfl, Nat.le_refl _, Zk, rfl, Zv, fun hp => absurd hp Zv⟩
 ·unfold maxLen at hgc
  refine ⟨some ⟨gg, 0, none⟩, cc, rfl, hgn, hgc, List.length_map _, Zk, fun hp => ⟨_, rfl, fun j hj => ?_⟩⟩
  have h3 : (cur.toList.take (xs.length * 1))[j]? = some (.string (ofL xs[j])) := by
   rw [hgt, List.getElem?_map, List.getElem?_eq_getElem hj]; rfl
  rw [List.getElem?_take, if_pos Zk] at h3
  rw [show (Addr.add ⟨gg, 0, none⟩ j) = ⟨gg, j, none⟩ from by unfold Addr.add; split <;> simp_all]
  unfold World.cell?
  rw [hgh]
  rw [List.getD_eq_getElem?_getD, List.getElem?_map, List.getElem?_eq_getElem hj]
  simpa using h3
theorem Yyf {W : World} {base : Nat} {v : Value} {xs : List (List UInt8)} (h : W.ownsRow base 9 1 v (([] : List ByteArray) ++ xs.map ofL).length (encs Value.string (([] : List ByteArray) ++ xs.map ofL))) : OwnS W base v xs := by
 have e : encs Value.string (([] : List ByteArray) ++ xs.map ofL) = xs.map fun x => Value.string (ofL x) := by
  unfold encs; rw [List.nil_append, List.map_map]; rfl
 rw [e, List.nil_append, List.length_map] at h
 exact h
theorem Yis {w w2 : World} {n : Nat} (h : Below (w.drewN n).heap.size (w.drewN n) w2) : Below w.heap.size w w2 := (Yb (Below.refl w.heap.size w) n).trans h
def Yve.f (a0 : ByteArray) : Option ByteArray := if a0.size ≤ 30000000 then some (ofL (Yef a0.data.toList)) else none
set_option maxHeartbeats 8000000 in
set_option maxRecDepth 100000 in
theorem Yll (a0 s1 : ByteArray) (w : World) (ps : List (List UInt8)) (hE : EnvOk w) (hps : ps = Yhd a0.data.toList) (hs : a0.size ≤ 30000000) (kp : Nat)
  (hf : Yfa.f kp s1 = some (ps.map ofL)) (hne : ps ≠ [])
  (hhead : (∃ t b, a0.data.toList = b :: t ∧ Yqb b = true ∧ s1 = ofL t) ∨ (∃ t b, a0.data.toList = b :: t ∧ Yqb b = false ∧ s1 = a0) ∨ (a0.data.toList = [] ∧ s1 = a0)) :
  Calls Tryz.prog 24 #[.string a0] w fun e w' => e = .returned (.string (ofL (Yef a0.data.toList))) ∧ Below w.heap.size w w' := by
 have HE := Ya.mk hE
 have HF := Ya.mk hf
 have HSn := Ya.mk hne
 have HRoom := Ya.mk (Yqi a0.data.toList)
 have HPL := Ya.mk (show Yef a0.data.toList = 47 :: Lib.join (Ysc (Yhd a0.data.toList) []) [47] from rfl)
 obtain ⟨R, hR⟩ : ∃ R, R = Yef a0.data.toList := ⟨_, rfl⟩
 rw [← hR] at HPL ⊢
 rw [← hps] at HPL HRoom
 rw [← Lib.size_eq] at HRoom
 have HS := Ya.mk hs
 clear hE hf hne hR hps hs
 have key : (∃ r, ((Yya.f (bt a0 0) = some true ∧ s1 = a0.extract 1 a0.size ∧ r = true) ∨ (Yya.f (bt a0 0) = some false ∧ s1 = a0 ∧ r = false)) ∧ 0 < a0.size) ∨ (a0.size = 0 ∧ s1 = a0) := by
  rcases hhead with ⟨t, b, h1, h2, h3⟩ | ⟨t, b, h1, h2, h3⟩ | ⟨h1, h2⟩
  ·obtain ⟨k1, k2, k3⟩ := Yvc a0 0 b t h1
   refine .inl ⟨true, .inl ⟨?_, ?_, rfl⟩, k1⟩
   ·have := Yzh b; rw [h2] at this; rw [show (0 : Int) = ((0 : Nat) : Int) from rfl, k2]; exact this
   ·rw [Yuc, h1]; exact h3
  ·obtain ⟨k1, k2, k3⟩ := Yvc a0 0 b t h1
   refine .inl ⟨false, .inr ⟨?_, h3, rfl⟩, k1⟩
   have := Yzh b; rw [h2] at this; rw [show (0 : Int) = ((0 : Nat) : Int) from rfl, k2]; exact this
  ·exact .inr ⟨by rw [Lib.size_eq, h1]; rfl, h2⟩
 clear hhead
 have main : ∀ (c : Bool) (d : Bool), (c = true → 0 < a0.size) → (c = false → a0.size = 0 ∧ s1 = a0) → (c = true → Yya.f (bt a0 0) = some d ∧ s1 = (if d = true then a0.extract 1 a0.size else a0)) →
   Calls Tryz.prog 24 #[.string a0] w fun e w' => e = .returned (.string (ofL R)) ∧ Below w.heap.size w w' := by
  intro c d h1 h2 h3
  have jB : ∀ h : 0 < a0.size, ((a0[0]'h).toNat : Int) = bt a0 0 := Yza a0 0
  have h3cases : (c = true ∧ d = true ∧ 0 < a0.size ∧ Yya.f (bt a0 0) = some true ∧ s1 = a0.extract 1 a0.size) ∨ (c = true ∧ d = false ∧ 0 < a0.size ∧ Yya.f (bt a0 0) = some false ∧ s1 = a0) ∨ (c = false ∧ a0.size = 0 ∧ s1 = a0) := by
   cases c with
   | false => exact .inr (.inr ⟨rfl, h2 rfl⟩)
   | true =>
    have := h3 rfl
    cases d with
    | true => exact .inl ⟨rfl, rfl, h1 rfl, this.1, by simpa using this.2⟩
    | false => exact .inr (.inl ⟨rfl, rfl, h1 rfl, this.1, by simpa using this.2⟩)
  clear h1 h2 h3
  have HPT : Ya (∀ w0 : World, EnvOk w0 → Calls Tryz.prog 64 #[.string s1] w0 fun e w' => ∃ v0_ : Value, e = .returned (v0_) ∧ Kd.R Kd.string 9 w' w0.heap.size (fun _ => True) v0_ (ps.map ofL) ∧ Below w0.heap.size w0 w') := ⟨fun w0 hw0 => Yfa.calls kp s1 _ w0 hw0 HF.out⟩
  clear HF
  rcases h3cases with ⟨rfl, rfl, hpos, hsl, jC⟩ | ⟨rfl, rfl, hpos, hsl, jC⟩ | ⟨rfl, hz, jC⟩
  all_goals
   rw [jC] at HPT
   clear jC
  rotate_left 2
  ·have cB : decide (0 < (a0.size : Int)) = false := decide_eq_false Zk
   have fV : decide (0 < a0.size) = false := decide_eq_false Zk
   clear jB hz
   go_enter Tryz.func24, Tryz.ntmps24
   go_wp2_with fail
   refine (HPT.out _ HE.out).mono ?_
   rintro e w2 ⟨v0, rfl, hr2, bU⟩
   have eK := Ya.mk bU
   have uL := Ya.mk (HE.out.below bU)
   obtain ⟨g, cap, rfl, yR, tH, hgb, hrow⟩ := Ygo hr2 HSn.out
   have HROW := Ya.mk hrow
   have aFX : 1 ≤ ps.length := List.length_pos_iff.2 HSn.out
   have hglt : Ya (g < w2.heap.size) := ⟨by
    have h0 : 0 < ps.length := List.length_pos_iff.2 HSn.out
    exact lt_of_cell (hrow 0 h0)⟩
   clear hr2 bU hrow hgb
   unfold maxLen at tH
   go_wp2
   obtain ⟨m, hm⟩ : ∃ m, m = ps.length := ⟨_, rfl⟩
   rw [← hm] at yR
   simp only [← hm]
   have HMl := Ya.mk hm
   have hmb : m ≤ 1000000000 := by have := Yak ps; have := HRoom.out; have := HS.out; omega
   clear hm aFX
   go_loopg [4, 5, 6, 7] m (fun g2 v4 v5 _ _ wx => ∃ (k : Nat) (out : List (List UInt8)), k + g2 ≤ m ∧ m ≤ k + g2 ∧ v5 = .int .i64 (k : Int) ∧ out.length ≤ 1000000000 ∧ Ya (OwnS wx w2.heap.size v4 out) ∧ Ya (Below w2.heap.size w2 wx) ∧ Ya (Ysc (ps.drop k) out = Ysc ps []) ∧ Ya (tot out + room (ps.drop k) ≤ 3 * a0.size + 3))
   case atStart => exact ⟨0, [], Zk, Zk, rfl, Zv, ⟨World.ownsRow_nil _ _ _ _⟩, ⟨Below.refl _ _⟩, ⟨rfl⟩, ⟨by simpa [tot] using HRoom.out⟩⟩
   case round =>
    obtain ⟨k, out, uM, hk2, rfl, hol, HO, HB, HPO, HTo⟩ := hrel
    obtain ⟨A, cc, rfl, aFY, aVB, hrd⟩ := Ygg HO.out
    have rF := Ya.mk hrd
    clear hrd
    cases gk with
    | zero =>
     obtain rfl : k = m := by omega
     have hlt : decide ((k : Int) < (k : Int)) = false := decide_eq_false Zk
     have hfin := HPO.out
     rw [HMl.out, List.drop_eq_nil_of_le (Nat.le_refl _), Ysc] at hfin
     have hjl := Ymn out
     have htl := HTo.out
     have hs9 := HS.out
     have aDF := Yng out
     obtain ⟨kj, hj⟩ := rjoin_f [47] out Zk Zk
     have hj1 : Yjb.f kj ⟨#[47]⟩ (out.map ofL) = some (ofL (Lib.join out [47])) := hj kj (Nat.le_refl _)
     have HJ := Ya.mk hj1
     have HEx := Ya.mk (uL.out.below HB.out)
     have HFin := Ya.mk hfin
     have hjs : (ofL (Lib.join out [47])).size ≤ 1000000000 := by rw [Yx]; omega
     have HC := Ya.mk (show Kd.C Kd.string wr A (out.map ofL).length (out.map ofL) from Kd.C_of_reads (enc := Value.string) (d := ByteArray.empty) (h1 := fun _ => rfl) (by rw [List.length_map]; exact rF.out))
     have HLm := Ya.mk (show (out.map ofL).length = out.length from List.length_map _)
     clear hj hj1 hfin hjl htl hs9 aDF
     go_wp2_with fail
     have hcall := Yjb.calls kj ⟨#[47]⟩ A cc (out.map ofL) _ wr HEx.out HC.out (by rw [HLm.out]; exact aFY) HJ.out
     rw [HLm.out] at hcall
     refine hcall.mono ?_
     clear hcall
     rintro e w5 ⟨rfl, ⟨nd5, rfl⟩⟩
     have cK := Ya.mk (show Below w.heap.size w (wr.drewN nd5) from Yb (eK.out.trans (HB.out.mono eK.out.size)) nd5)
     go_wp2
     go_ret
     refine ⟨?_, cK.out⟩
     rw [HPL.out, ← HFin.out]; rfl
    | succ g2 =>
     have hk : k < m := by omega
     have hkp : k < ps.length := by have := HMl.out; omega
     have hlt : decide ((k : Int) < (m : Int)) = true := decide_eq_true Zk
     have hcell := (HROW.out.below HB.out) k hkp
     try simp only [Nat.zero_add] at hcell
     have HRD := Ya.mk (Yqm ps k hkp)
     have HDr := Ya.mk (List.drop_eq_getElem_cons hkp)
     obtain ⟨p, hp⟩ : ∃ p, p = ps[k] := ⟨_, rfl⟩
     rw [← hp] at hcell HRD HDr
     have hpl : Ya (p.length ≤ 31000000) := ⟨by have := HTo.out; have := HRD.out; have := HS.out; omega⟩
     obtain ⟨km, hm1⟩ := Yxj (ofL p) ⟨#[35, 63, 96, 123, 125]⟩ (by rw [Yx]; have := hpl.out; omega) Zda
     have yQ : Ys.f km (ofL p) ⟨#[35, 63, 96, 123, 125]⟩ = some (ofL (Yoc Ypc p)) := hm1 km (Nat.le_refl _)
     obtain ⟨kd, hd1⟩ := Ykq (ofL (Yoc Ypc p)) Zub
     have uO : Yeb.f kd (ofL (Yoc Ypc p)) = some ((Ylg (Yoc Ypc p) : Nat) : Int) := hd1 kd (Nat.le_refl _)
     have zM := Ya.mk yQ
     have oU := Ya.mk uO
     have HQl := Ya.mk (Yvg Ypc p)
     have HE3 := Ya.mk (uL.out.below HB.out)
     have aBB := Ya.mk (fun last => Yhi last out p)
     obtain ⟨q, hq⟩ : ∃ q, q = Yoc Ypc p := ⟨_, rfl⟩
     obtain ⟨n, hn⟩ : ∃ n, n = Ylg q := ⟨_, rfl⟩
     have hn3 : n = 0 ∨ n = 1 ∨ n = 2 := by
      rw [hn]; unfold Ylg
      split
      ·omega
      ·split <;> omega
     rw [← hq] at zM oU HQl
     rw [← hn] at oU
     have HN := Ya.mk hn
     have HQ := Ya.mk hq
     clear yQ uO hp hq hn hm1 hd1
     go_wp2_with fail
     refine (Ys.calls km _ _ _ _ HE3.out zM.out).mono ?_
     rintro e w3 ⟨rfl, gL⟩
     have HE4 := Ya.mk (HE3.out.below gL)
     have eE := Ya.mk (HB.out.trans (gL.mono HB.out.size))
     have HO3 := Ya.mk (Yqg HO.out gL)
     clear gL
     go_wp2_with fail
     refine (Yeb.calls kd _ _ _ HE4.out oU.out).mono ?_
     rintro e w4 ⟨rfl, kR⟩
     have HE5 := Ya.mk (HE4.out.below kR)
     have dL := Ya.mk (eE.out.trans (kR.mono eE.out.size))
     have lO := Ya.mk (Yqg HO3.out kR)
     clear kR hcell hlt
     have bY := Ya.mk (show Ysc (ps.drop (k + 1)) (Ycd (ps.drop (k + 1)).isEmpty out p) = Ysc ps [] by
      have := HPO.out
      rw [HDr.out, Ysc] at this; exact this)
     have HLast := Ya.mk (show (ps.drop (k + 1)).isEmpty = decide (k + 1 = m) by
      have := HMl.out
      rw [Bool.eq_iff_iff, List.isEmpty_iff, List.drop_eq_nil_iff, decide_eq_true_iff]
      omega)
     have aBq := HTo.out
     have htl := Yng out
     have hHSL := aBB.out (ps.drop (k + 1)).isEmpty
     have hR3 := HRD.out
     have eD := Ya.mk (show tot (Ycd (ps.drop (k + 1)).isEmpty out p) + room (ps.drop (k + 1)) ≤ 3 * a0.size + 3 by omega)
     have eM := Ya.mk (show (Ycd (ps.drop (k + 1)).isEmpty out p).length ≤ 1000000000 by
      have := Yng (Ycd (ps.drop (k + 1)).isEmpty out p); have := eD.out; have := HS.out; omega)
     clear aBq htl hHSL hR3 aBB HTo HPO HRD HDr zM oU
     rcases hn3 with rfl | rfl | rfl
     ·have hst := Ykj (last := (ps.drop (k + 1)).isEmpty) (out := out) (p := p) Zjb
      rw [hst, ← HQ.out] at bY eD eM
      clear hst HO HO3 rF
      obtain ⟨A4, cc4, e4, _, _, gS⟩ := Ygg lO.out
      cases e4
      have pS := Ya.mk gS
      clear gS
      go_wp2_with (at_builtin; first | (refine Ynd (w0 := w2) Value.string ByteArray.empty w2.heap.size rfl _ _ 44 9 (.string ⟨#[]⟩) 16 rfl Tryz.underlying44 Yeg rfl Zda (fun _ => rfl) (.slice none 0 0) ([] : List ByteArray) (out.map ofL) _ _ _ rfl rfl (World.ownsRow_nil _ _ _ _) pS.out dL.out dL.out.size Zua ?_; intro v5 w5 cP gU _ _) | (go_must (refine Ytd (w0 := w2) w2.heap.size rfl _ _ 44 9 (.string ⟨#[]⟩) 16 rfl Tryz.underlying44 Yeg rfl Zda v5 (out.map fun x => Value.string (ofL x)) (.string (ofL q)) rfl rfl rfl Zgb gU gU.size Zeb ?_); intro v6 w6 dT oP _ _))
      have HO6 := Ya.mk dT
      have jD := Ya.mk oP
      clear dT oP cP gU
      go_wp2
      go_roundg g2
      case measure => omega
      case rel => exact ⟨k + 1, out ++ [q], Zk, Zk, by go_num, eM.out, ⟨by simpa [OwnS] using HO6.out⟩, jD, bY, eD⟩
     ·have hst := Ytl (last := (ps.drop (k + 1)).isEmpty) (out := out) (p := p) Zjb
      rw [hst, HLast.out] at bY eD eM
      clear hst HO HO3 rF
      by_cases hl : k + 1 = m
      ·have jU : ((k : Int) == (m : Int) - 1) = true := beq_iff_eq.2 Zk
       rw [if_pos Zbb] at bY eD eM
       obtain ⟨A4, cc4, e4, _, _, gS⟩ := Ygg lO.out
       cases e4
       have pS := Ya.mk gS
       clear gS
       go_wp2_with (at_builtin; first | (refine Ynd (w0 := w2) Value.string ByteArray.empty w2.heap.size rfl _ _ 44 9 (.string ⟨#[]⟩) 16 rfl Tryz.underlying44 Yeg rfl Zda (fun _ => rfl) (.slice none 0 0) ([] : List ByteArray) (out.map ofL) _ _ _ rfl rfl (World.ownsRow_nil _ _ _ _) pS.out dL.out dL.out.size Zua ?_; intro v5 w5 cP gU _ _) | (go_must (refine Ytd (w0 := w2) w2.heap.size rfl _ _ 44 9 (.string ⟨#[]⟩) 16 rfl Tryz.underlying44 Yeg rfl Zda v5 (out.map fun x => Value.string (ofL x)) (.string ⟨#[]⟩) rfl rfl rfl Zgb gU gU.size Zeb ?_); intro v6 w6 dT oP _ _))
       have HO6 := Ya.mk dT
       have jD := Ya.mk oP
       clear dT oP cP gU
       go_wp2
       go_roundg g2
       case measure => omega
       case rel => exact ⟨k + 1, out ++ [[]], Zk, Zk, by go_num, eM.out, ⟨Zob⟩, jD, bY, eD⟩
      ·have jU : ((k : Int) == (m : Int) - 1) = false := beq_eq_false_iff_ne.2 Zk
       rw [if_neg Zbb] at bY eD eM
       go_wp2
       go_roundg g2
       case measure => omega
       case rel => exact ⟨k + 1, out, Zk, Zk, by go_num, eM.out, lO, dL, bY, eD⟩
     ·have hst := Yol (last := (ps.drop (k + 1)).isEmpty) (out := out) (p := p) Zjb
      rw [hst, HLast.out] at bY eD eM
      clear hst HO HO3 rF
      have hshape : (out = [] ∧ decide ((0 : Int) < ((out.length : Nat) : Int)) = false) ∨ (∃ gg L, A = some ⟨gg, 0, none⟩ ∧ out.length = L + 1 ∧ L + 1 ≤ cc) := by
       by_cases h0 : out.length = 0
       ·exact .inl ⟨List.eq_nil_of_length_eq_zero h0, decide_eq_false Zk⟩
       ·refine .inr ?_
        rcases lO.out.2 with ⟨h1, h2⟩ | ⟨gg, c4, cur, h1, _⟩
        ·exact absurd h2 h0
        ·cases h1
         exact ⟨gg, out.length - 1, rfl, Zk, Zk⟩
      rcases hshape with ⟨qE, hd0⟩ | ⟨gg, L, rfl, hL, hLc⟩
      ·have hd1 : decide (0 < out.length) = false := decide_eq_false (by rw [qE]; simp)
       have ht0 : out.take (out.length - 1) = out := by rw [qE]; rfl
       rw [ht0] at bY eD eM
       clear ht0 qE
       by_cases hl : k + 1 = m
       ·have jU : ((k : Int) == (m : Int) - 1) = true := beq_iff_eq.2 Zk
        rw [if_pos Zbb] at bY eD eM
        obtain ⟨A4, cc4, e4, _, _, gS⟩ := Ygg lO.out
        cases e4
        have pS := Ya.mk gS
        clear gS
        go_wp2_with (at_builtin; first | (refine Ynd (w0 := w2) Value.string ByteArray.empty w2.heap.size rfl _ _ 44 9 (.string ⟨#[]⟩) 16 rfl Tryz.underlying44 Yeg rfl Zda (fun _ => rfl) (.slice none 0 0) ([] : List ByteArray) (out.map ofL) _ _ _ rfl rfl (World.ownsRow_nil _ _ _ _) pS.out dL.out dL.out.size Zua ?_; intro v5 w5 cP gU _ _) | (go_must (refine Ytd (w0 := w2) w2.heap.size rfl _ _ 44 9 (.string ⟨#[]⟩) 16 rfl Tryz.underlying44 Yeg rfl Zda v5 (out.map fun x => Value.string (ofL x)) (.string ⟨#[]⟩) rfl rfl rfl Zgb gU gU.size Zeb ?_); intro v6 w6 dT oP _ _))
        have HO6 := Ya.mk dT
        have jD := Ya.mk oP
        clear dT oP cP gU
        go_wp2
        go_roundg g2
        case measure => omega
        case rel => exact ⟨k + 1, out ++ [[]], Zk, Zk, by go_num, eM.out, ⟨Zob⟩, jD, bY, eD⟩
       ·have jU : ((k : Int) == (m : Int) - 1) = false := beq_eq_false_iff_ne.2 Zk
        rw [if_neg Zbb] at bY eD eM
        go_wp2
        go_roundg g2
        case measure => omega
        case rel => exact ⟨k + 1, out, Zk, Zk, by go_num, eM.out, lO, dL, bY, eD⟩
      ·have HOt := Ya.mk (show OwnS w4 w2.heap.size (.slice (some ⟨gg, 0, none⟩) L cc) (out.take (out.length - 1)) from by
        have h3 := OwnS.take lO.out L Zk
        rw [show out.length - 1 = L by omega]; exact h3)
       have HLt := Ya.mk (show (out.take (out.length - 1)).length = L by rw [List.length_take]; omega)
       obtain ⟨o2, ho2⟩ : ∃ o2, o2 = out.take (out.length - 1) := ⟨_, rfl⟩
       rw [← ho2] at HOt HLt bY eD eM
       clear ho2 lO
       simp only [hL]
       have hd0 : decide ((0 : Int) < ((L + 1 : Nat) : Int)) = true := decide_eq_true Zk
       have hd1 : decide (0 < L + 1) = true := decide_eq_true Zk
       have ho2l : o2.length ≤ 1000000000 := by have := HLt.out; omega
       by_cases hl : k + 1 = m
       ·have jU : ((k : Int) == (m : Int) - 1) = true := beq_iff_eq.2 Zk
        rw [if_pos Zbb] at bY eD eM
        have pS := Ya.mk (show ReadsOf Value.string ByteArray.empty w4 (some ⟨gg, 0, none⟩) L (o2.map ofL) from by
         obtain ⟨A4, cc4, e4, _, _, gS⟩ := Ygg HOt.out
         rw [HLt.out] at e4 gS
         cases e4; exact gS)
        go_wp2_with (at_builtin; first | (refine Ynd (w0 := w2) Value.string ByteArray.empty w2.heap.size rfl _ _ 44 9 (.string ⟨#[]⟩) 16 rfl Tryz.underlying44 Yeg rfl Zda (fun _ => rfl) (.slice none 0 0) ([] : List ByteArray) (o2.map ofL) _ _ _ rfl rfl (World.ownsRow_nil _ _ _ _) pS.out dL.out dL.out.size Zua ?_; intro v5 w5 cP gU _ _) | (go_must (refine Ytd (w0 := w2) w2.heap.size rfl _ _ 44 9 (.string ⟨#[]⟩) 16 rfl Tryz.underlying44 Yeg rfl Zda v5 (o2.map fun x => Value.string (ofL x)) (.string ⟨#[]⟩) rfl rfl rfl Zgb gU gU.size Zeb ?_); intro v6 w6 dT oP _ _))
        have HO6 := Ya.mk dT
        have jD := Ya.mk oP
        clear dT oP cP gU
        go_wp2
        go_roundg g2
        case measure => omega
        case rel => exact ⟨k + 1, o2 ++ [[]], Zk, Zk, by go_num, eM.out, ⟨Zob⟩, jD, bY, eD⟩
       ·have jU : ((k : Int) == (m : Int) - 1) = false := beq_eq_false_iff_ne.2 Zk
        rw [if_neg Zbb] at bY eD eM
        go_wp2
        go_roundg g2
        case measure => omega
        case rel => exact ⟨k + 1, o2, Zk, Zk, by go_num, eM.out, HOt, dL, bY, eD⟩
  all_goals
   have cB : decide (0 < (a0.size : Int)) = true := decide_eq_true Zk
   have fV : decide (0 < a0.size) = true := decide_eq_true hpos
   have tR : (0 < (a0.size : Int)) = True := eq_true Zk
   have b1 : (1 : Int) ≤ (a0.size : Int) := by omega
   have q4 := eq_true hpos
   clear hpos
   have HSL := Ya.mk hsl
   clear hsl
   go_enter Tryz.func24, Tryz.ntmps24
   go_wp2_with (first | (go_at_call 48; (with_reducible refine (Yya.calls (bt a0 0) _ _ ?side1 HSL.out).mono ?_); (case side1 => first | exact HE.out | exact EnvOk.heap HE.out rfl); rintro e w' ⟨rfl, ⟨nd, rfl⟩⟩))
   clear jB q4 tR b1
   refine (HPT.out (w.drewN nd) (EnvOk.heap HE.out rfl)).mono ?_
   rintro e w2 ⟨v0, rfl, hr2, bU⟩
   have eK := Ya.mk (show Below w.heap.size w w2 from Yis bU)
   have uL := Ya.mk (HE.out.below eK.out)
   obtain ⟨g, cap, rfl, yR, tH, hgb, hrow⟩ := Ygo hr2 HSn.out
   have HROW := Ya.mk hrow
   have aFX : 1 ≤ ps.length := List.length_pos_iff.2 HSn.out
   have hglt : Ya (g < w2.heap.size) := ⟨by
    have h0 : 0 < ps.length := List.length_pos_iff.2 HSn.out
    exact lt_of_cell (hrow 0 h0)⟩
   clear hr2 bU hrow hgb
   unfold maxLen at tH
   go_wp2
   obtain ⟨m, hm⟩ : ∃ m, m = ps.length := ⟨_, rfl⟩
   rw [← hm] at yR
   simp only [← hm]
   have HMl := Ya.mk hm
   have hmb : m ≤ 1000000000 := by have := Yak ps; have := HRoom.out; have := HS.out; omega
   clear hm aFX
   go_loopg [4, 5, 6, 7] m (fun g2 v4 v5 _ _ wx => ∃ (k : Nat) (out : List (List UInt8)), k + g2 ≤ m ∧ m ≤ k + g2 ∧ v5 = .int .i64 (k : Int) ∧ out.length ≤ 1000000000 ∧ Ya (OwnS wx w2.heap.size v4 out) ∧ Ya (Below w2.heap.size w2 wx) ∧ Ya (Ysc (ps.drop k) out = Ysc ps []) ∧ Ya (tot out + room (ps.drop k) ≤ 3 * a0.size + 3))
   case atStart => exact ⟨0, [], Zk, Zk, rfl, Zv, ⟨World.ownsRow_nil _ _ _ _⟩, ⟨Below.refl _ _⟩, ⟨rfl⟩, ⟨by simpa [tot] using HRoom.out⟩⟩
   case round =>
    obtain ⟨k, out, uM, hk2, rfl, hol, HO, HB, HPO, HTo⟩ := hrel
    obtain ⟨A, cc, rfl, aFY, aVB, hrd⟩ := Ygg HO.out
    have rF := Ya.mk hrd
    clear hrd
    cases gk with
    | zero =>
     obtain rfl : k = m := by omega
     have hlt : decide ((k : Int) < (k : Int)) = false := decide_eq_false Zk
     have hfin := HPO.out
     rw [HMl.out, List.drop_eq_nil_of_le (Nat.le_refl _), Ysc] at hfin
     have hjl := Ymn out
     have htl := HTo.out
     have hs9 := HS.out
     have aDF := Yng out
     obtain ⟨kj, hj⟩ := rjoin_f [47] out Zk Zk
     have hj1 : Yjb.f kj ⟨#[47]⟩ (out.map ofL) = some (ofL (Lib.join out [47])) := hj kj (Nat.le_refl _)
     have HJ := Ya.mk hj1
     have HEx := Ya.mk (uL.out.below HB.out)
     have HFin := Ya.mk hfin
     have hjs : (ofL (Lib.join out [47])).size ≤ 1000000000 := by rw [Yx]; omega
     have HC := Ya.mk (show Kd.C Kd.string wr A (out.map ofL).length (out.map ofL) from Kd.C_of_reads (enc := Value.string) (d := ByteArray.empty) (h1 := fun _ => rfl) (by rw [List.length_map]; exact rF.out))
     have HLm := Ya.mk (show (out.map ofL).length = out.length from List.length_map _)
     clear hj hj1 hfin hjl htl hs9 aDF
     go_wp2_with fail
     have hcall := Yjb.calls kj ⟨#[47]⟩ A cc (out.map ofL) _ wr HEx.out HC.out (by rw [HLm.out]; exact aFY) HJ.out
     rw [HLm.out] at hcall
     refine hcall.mono ?_
     clear hcall
     rintro e w5 ⟨rfl, ⟨nd5, rfl⟩⟩
     have cK := Ya.mk (show Below w.heap.size w (wr.drewN nd5) from Yb (eK.out.trans (HB.out.mono eK.out.size)) nd5)
     go_wp2
     go_ret
     refine ⟨?_, cK.out⟩
     rw [HPL.out, ← HFin.out]; rfl
    | succ g2 =>
     have hk : k < m := by omega
     have hkp : k < ps.length := by have := HMl.out; omega
     have hlt : decide ((k : Int) < (m : Int)) = true := decide_eq_true Zk
     have hcell := (HROW.out.below HB.out) k hkp
     try simp only [Nat.zero_add] at hcell
     have HRD := Ya.mk (Yqm ps k hkp)
     have HDr := Ya.mk (List.drop_eq_getElem_cons hkp)
     obtain ⟨p, hp⟩ : ∃ p, p = ps[k] := ⟨_, rfl⟩
     rw [← hp] at hcell HRD HDr
     have hpl : Ya (p.length ≤ 31000000) := ⟨by have := HTo.out; have := HRD.out; have := HS.out; omega⟩
     obtain ⟨km, hm1⟩ := Yxj (ofL p) ⟨#[35, 63, 96, 123, 125]⟩ (by rw [Yx]; have := hpl.out; omega) Zda
     have yQ : Ys.f km (ofL p) ⟨#[35, 63, 96, 123, 125]⟩ = some (ofL (Yoc Ypc p)) := hm1 km (Nat.le_refl _)
     obtain ⟨kd, hd1⟩ := Ykq (ofL (Yoc Ypc p)) Zub
     have uO : Yeb.f kd (ofL (Yoc Ypc p)) = some ((Ylg (Yoc Ypc p) : Nat) : Int) := hd1 kd (Nat.le_refl _)
     have zM := Ya.mk yQ
     have oU := Ya.mk uO
     have HQl := Ya.mk (Yvg Ypc p)
     have HE3 := Ya.mk (uL.out.below HB.out)
     have aBB := Ya.mk (fun last => Yhi last out p)
     obtain ⟨q, hq⟩ : ∃ q, q = Yoc Ypc p := ⟨_, rfl⟩
     obtain ⟨n, hn⟩ : ∃ n, n = Ylg q := ⟨_, rfl⟩
     have hn3 : n = 0 ∨ n = 1 ∨ n = 2 := by
      rw [hn]; unfold Ylg
      split
      ·omega
      ·split <;> omega
     rw [← hq] at zM oU HQl
     rw [← hn] at oU
     have HN := Ya.mk hn
     have HQ := Ya.mk hq
     clear yQ uO hp hq hn hm1 hd1
     go_wp2_with fail
     refine (Ys.calls km _ _ _ _ HE3.out zM.out).mono ?_
     rintro e w3 ⟨rfl, gL⟩
     have HE4 := Ya.mk (HE3.out.below gL)
     have eE := Ya.mk (HB.out.trans (gL.mono HB.out.size))
     have HO3 := Ya.mk (Yqg HO.out gL)
     clear gL
     go_wp2_with fail
     refine (Yeb.calls kd _ _ _ HE4.out oU.out).mono ?_
     rintro e w4 ⟨rfl, kR⟩
     have HE5 := Ya.mk (HE4.out.below kR)
     have dL := Ya.mk (eE.out.trans (kR.mono eE.out.size))
     have lO := Ya.mk (Yqg HO3.out kR)
     clear kR hcell hlt
     have bY := Ya.mk (show Ysc (ps.drop (k + 1)) (Ycd (ps.drop (k + 1)).isEmpty out p) = Ysc ps [] by
      have := HPO.out
      rw [HDr.out, Ysc] at this; exact this)
     have HLast := Ya.mk (show (ps.drop (k + 1)).isEmpty = decide (k + 1 = m) by
      have := HMl.out
      rw [Bool.eq_iff_iff, List.isEmpty_iff, List.drop_eq_nil_iff, decide_eq_true_iff]
      omega)
     have aBq := HTo.out
     have htl := Yng out
     have hHSL := aBB.out (ps.drop (k + 1)).isEmpty
     have hR3 := HRD.out
     have eD := Ya.mk (show tot (Ycd (ps.drop (k + 1)).isEmpty out p) + room (ps.drop (k + 1)) ≤ 3 * a0.size + 3 by omega)
     have eM := Ya.mk (show (Ycd (ps.drop (k + 1)).isEmpty out p).length ≤ 1000000000 by
      have := Yng (Ycd (ps.drop (k + 1)).isEmpty out p); have := eD.out; have := HS.out; omega)
     clear aBq htl hHSL hR3 aBB HTo HPO HRD HDr zM oU
     rcases hn3 with rfl | rfl | rfl
     ·have hst := Ykj (last := (ps.drop (k + 1)).isEmpty) (out := out) (p := p) Zjb
      rw [hst, ← HQ.out] at bY eD eM
      clear hst HO HO3 rF
      obtain ⟨A4, cc4, e4, _, _, gS⟩ := Ygg lO.out
      cases e4
      have pS := Ya.mk gS
      clear gS
      go_wp2_with (at_builtin; first | (refine Ynd (w0 := w2) Value.string ByteArray.empty w2.heap.size rfl _ _ 44 9 (.string ⟨#[]⟩) 16 rfl Tryz.underlying44 Yeg rfl Zda (fun _ => rfl) (.slice none 0 0) ([] : List ByteArray) (out.map ofL) _ _ _ rfl rfl (World.ownsRow_nil _ _ _ _) pS.out dL.out dL.out.size Zua ?_; intro v5 w5 cP gU _ _) | (go_must (refine Ytd (w0 := w2) w2.heap.size rfl _ _ 44 9 (.string ⟨#[]⟩) 16 rfl Tryz.underlying44 Yeg rfl Zda v5 (out.map fun x => Value.string (ofL x)) (.string (ofL q)) rfl rfl rfl Zgb gU gU.size Zeb ?_); intro v6 w6 dT oP _ _))
      have HO6 := Ya.mk dT
      have jD := Ya.mk oP
      clear dT oP cP gU
      go_wp2
      go_roundg g2
      case measure => omega
      case rel => exact ⟨k + 1, out ++ [q], Zk, Zk, by go_num, eM.out, ⟨by simpa [OwnS] using HO6.out⟩, jD, bY, eD⟩
     ·have hst := Ytl (last := (ps.drop (k + 1)).isEmpty) (out := out) (p := p) Zjb
      rw [hst, HLast.out] at bY eD eM
      clear hst HO HO3 rF
      by_cases hl : k + 1 = m
      ·have jU : ((k : Int) == (m : Int) - 1) = true := beq_iff_eq.2 Zk
       rw [if_pos Zbb] at bY eD eM
       obtain ⟨A4, cc4, e4, _, _, gS⟩ := Ygg lO.out
       cases e4
       have pS := Ya.mk gS
       clear gS
       go_wp2_with (at_builtin; first | (refine Ynd (w0 := w2) Value.string ByteArray.empty w2.heap.size rfl _ _ 44 9 (.string ⟨#[]⟩) 16 rfl Tryz.underlying44 Yeg rfl Zda (fun _ => rfl) (.slice none 0 0) ([] : List ByteArray) (out.map ofL) _ _ _ rfl rfl (World.ownsRow_nil _ _ _ _) pS.out dL.out dL.out.size Zua ?_; intro v5 w5 cP gU _ _) | (go_must (refine Ytd (w0 := w2) w2.heap.size rfl _ _ 44 9 (.string ⟨#[]⟩) 16 rfl Tryz.underlying44 Yeg rfl Zda v5 (out.map fun x => Value.string (ofL x)) (.string ⟨#[]⟩) rfl rfl rfl Zgb gU gU.size Zeb ?_); intro v6 w6 dT oP _ _))
       have HO6 := Ya.mk dT
       have jD := Ya.mk oP
       clear dT oP cP gU
       go_wp2
       go_roundg g2
       case measure => omega
       case rel => exact ⟨k + 1, out ++ [[]], Zk, Zk, by go_num, eM.out, ⟨Zob⟩, jD, bY, eD⟩
      ·have jU : ((k : Int) == (m : Int) - 1) = false := beq_eq_false_iff_ne.2 Zk
       rw [if_neg Zbb] at bY eD eM
       go_wp2
       go_roundg g2
       case measure => omega
       case rel => exact ⟨k + 1, out, Zk, Zk, by go_num, eM.out, lO, dL, bY, eD⟩
     ·have hst := Yol (last := (ps.drop (k + 1)).isEmpty) (out := out) (p := p) Zjb
      rw [hst, HLast.out] at bY eD eM
      clear hst HO HO3 rF
      have hshape : (out = [] ∧ decide ((0 : Int) < ((out.length : Nat) : Int)) = false) ∨ (∃ gg L, A = some ⟨gg, 0, none⟩ ∧ out.length = L + 1 ∧ L + 1 ≤ cc) := by
       by_cases h0 : out.length = 0
       ·exact .inl ⟨List.eq_nil_of_length_eq_zero h0, decide_eq_false Zk⟩
       ·refine .inr ?_
        rcases lO.out.2 with ⟨h1, h2⟩ | ⟨gg, c4, cur, h1, _⟩
        ·exact absurd h2 h0
        ·cases h1
         exact ⟨gg, out.length - 1, rfl, Zk, Zk⟩
      rcases hshape with ⟨qE, hd0⟩ | ⟨gg, L, rfl, hL, hLc⟩
      ·have hd1 : decide (0 < out.length) = false := decide_eq_false (by rw [qE]; simp)
       have ht0 : out.take (out.length - 1) = out := by rw [qE]; rfl
       rw [ht0] at bY eD eM
       clear ht0 qE
       by_cases hl : k + 1 = m
       ·have jU : ((k : Int) == (m : Int) - 1) = true := beq_iff_eq.2 Zk
        rw [if_pos Zbb] at bY eD eM
        obtain ⟨A4, cc4, e4, _, _, gS⟩ := Ygg lO.out
        cases e4
        have pS := Ya.mk gS
        clear gS
        go_wp2_with (at_builtin; first | (refine Ynd (w0 := w2) Value.string ByteArray.empty w2.heap.size rfl _ _ 44 9 (.string ⟨#[]⟩) 16 rfl Tryz.underlying44 Yeg rfl Zda (fun _ => rfl) (.slice none 0 0) ([] : List ByteArray) (out.map ofL) _ _ _ rfl rfl (World.ownsRow_nil _ _ _ _) pS.out dL.out dL.out.size Zua ?_; intro v5 w5 cP gU _ _) | (go_must (refine Ytd (w0 := w2) w2.heap.size rfl _ _ 44 9 (.string ⟨#[]⟩) 16 rfl Tryz.underlying44 Yeg rfl Zda v5 (out.map fun x => Value.string (ofL x)) (.string ⟨#[]⟩) rfl rfl rfl Zgb gU gU.size Zeb ?_); intro v6 w6 dT oP _ _))
        have HO6 := Ya.mk dT
        have jD := Ya.mk oP
        clear dT oP cP gU
        go_wp2
        go_roundg g2
        case measure => omega
        case rel => exact ⟨k + 1, out ++ [[]], Zk, Zk, by go_num, eM.out, ⟨Zob⟩, jD, bY, eD⟩
       ·have jU : ((k : Int) == (m : Int) - 1) = false := beq_eq_false_iff_ne.2 Zk
        rw [if_neg Zbb] at bY eD eM
        go_wp2
        go_roundg g2
        case measure => omega
        case rel => exact ⟨k + 1, out, Zk, Zk, by go_num, eM.out, lO, dL, bY, eD⟩
      ·have HOt := Ya.mk (show OwnS w4 w2.heap.size (.slice (some ⟨gg, 0, none⟩) L cc) (out.take (out.length - 1)) from by
        have h3 := OwnS.take lO.out L Zk
        rw [show out.length - 1 = L by omega]; exact h3)
       have HLt := Ya.mk (show (out.take (out.length - 1)).length = L by rw [List.length_take]; omega)
       obtain ⟨o2, ho2⟩ : ∃ o2, o2 = out.take (out.length - 1) := ⟨_, rfl⟩
       rw [← ho2] at HOt HLt bY eD eM
       clear ho2 lO
       simp only [hL]
       have hd0 : decide ((0 : Int) < ((L + 1 : Nat) : Int)) = true := decide_eq_true Zk
       have hd1 : decide (0 < L + 1) = true := decide_eq_true Zk
       have ho2l : o2.length ≤ 1000000000 := by have := HLt.out; omega
       by_cases hl : k + 1 = m
       ·have jU : ((k : Int) == (m : Int) - 1) = true := beq_iff_eq.2 Zk
        rw [if_pos Zbb] at bY eD eM
        have pS := Ya.mk (show ReadsOf Value.string ByteArray.empty w4 (some ⟨gg, 0, none⟩) L (o2.map ofL) from by
         obtain ⟨A4, cc4, e4, _, _, gS⟩ := Ygg HOt.out
         rw [HLt.out] at e4 gS
         cases e4; exact gS)
        go_wp2_with (at_builtin; first | (refine Ynd (w0 := w2) Value.string ByteArray.empty w2.heap.size rfl _ _ 44 9 (.string ⟨#[]⟩) 16 rfl Tryz.underlying44 Yeg rfl Zda (fun _ => rfl) (.slice none 0 0) ([] : List ByteArray) (o2.map ofL) _ _ _ rfl rfl (World.ownsRow_nil _ _ _ _) pS.out dL.out dL.out.size Zua ?_; intro v5 w5 cP gU _ _) | (go_must (refine Ytd (w0 := w2) w2.heap.size rfl _ _ 44 9 (.string ⟨#[]⟩) 16 rfl Tryz.underlying44 Yeg rfl Zda v5 (o2.map fun x => Value.string (ofL x)) (.string ⟨#[]⟩) rfl rfl rfl Zgb gU gU.size Zeb ?_); intro v6 w6 dT oP _ _))
        have HO6 := Ya.mk dT
        have jD := Ya.mk oP
        clear dT oP cP gU
        go_wp2
        go_roundg g2
        case measure => omega
        case rel => exact ⟨k + 1, o2 ++ [[]], Zk, Zk, by go_num, eM.out, ⟨Zob⟩, jD, bY, eD⟩
       ·have jU : ((k : Int) == (m : Int) - 1) = false := beq_eq_false_iff_ne.2 Zk
        rw [if_neg Zbb] at bY eD eM
        go_wp2
        go_roundg g2
        case measure => omega
        case rel => exact ⟨k + 1, o2, Zk, Zk, by go_num, eM.out, HOt, dL, bY, eD⟩
 rcases key with ⟨r, hcase, hpos⟩ | ⟨hz, jC⟩
 ·rcases hcase with ⟨k1, k2, rfl⟩ | ⟨k1, k2, rfl⟩
  ·exact main true true (fun _ => hpos) (fun h => by cases h) (fun _ => ⟨k1, by simpa using k2⟩)
  ·exact main true false (fun _ => hpos) (fun h => by cases h) (fun _ => ⟨k1, by simpa using k2⟩)
 ·exact main false false (fun h => by cases h) (fun _ => ⟨hz, jC⟩) (fun h => by cases h)
theorem Yve.calls (a0 r : ByteArray) (w : World) (hE : EnvOk w) (h : Yve.f a0 = some r) :
  Calls Tryz.prog 24 #[.string a0] w fun e w' => e = .returned (.string r) ∧ Below w.heap.size w w' := by
 unfold Yve.f at h
 by_cases hs : a0.size ≤ 30000000
 ·rw [if_pos hs] at h
  obtain rfl := Option.some.inj h
  have hsz := Lib.size_eq a0
  have hne : Yhd a0.data.toList ≠ [] := by rw [Yvj]; exact Ylf _ _
  have hf : ∀ l : List UInt8, headS a0.data.toList = l → l.length ≤ 100000000 → ∃ kp, Yfa.f kp (ofL l) = some ((Yhd a0.data.toList).map ofL) := by
   intro l hl hlen
   obtain ⟨k, hk⟩ := parts_f (ofL l) (by rw [Yx]; exact hlen)
   have h1 : Yfa.f k (ofL l) = _ := hk k (Nat.le_refl _)
   exact ⟨k, by rw [h1, Yfb, Yvj, hl]⟩
  cases hd : a0.data.toList with
  | nil =>
   obtain ⟨kp, hk⟩ := hf [] (by rw [hd]; rfl) Zv
   have e : ofL [] = a0 := Yfg (by rw [hd]; rfl)
   rw [e] at hk
   rw [← hd]
   exact Yll a0 a0 w _ hE rfl hs kp hk hne (.inr (.inr ⟨hd, rfl⟩))
  | cons b t =>
   rw [hd] at hsz
   simp only [List.length_cons] at hsz
   rw [← hd]
   by_cases hp : Yqb b = true
   ·obtain ⟨kp, hk⟩ := hf t (by rw [hd, headS, if_pos hp]) Zk
    exact Yll a0 (ofL t) w _ hE rfl hs kp hk hne (.inl ⟨t, b, hd, hp, rfl⟩)
   ·obtain ⟨kp, hk⟩ := hf (b :: t) (by rw [hd, headS, if_neg hp]) (by simp only [List.length_cons]; omega)
    have e : ofL (b :: t) = a0 := Yfg (by rw [hd]; rfl)
    rw [e] at hk
    exact Yll a0 a0 w _ hE rfl hs kp hk hne (.inr (.inl ⟨t, b, hd, by simpa using hp, rfl⟩))
 ·rw [if_neg hs] at h; cases h
end Go.Proofs.YtnmglnglbdpjjaaGreatDoor.X
