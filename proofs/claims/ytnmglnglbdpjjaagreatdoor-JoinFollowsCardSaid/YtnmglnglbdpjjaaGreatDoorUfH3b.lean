import Derived.Test.YtnmglnglbdpjjaaGreatDoorUfH3a
set_option linter.all false
namespace Go.Proofs.YtnmglnglbdpjjaaGreatDoor.X
open Go.RowKit Go.Lib Go.Shelf Go.Yw.PrintWords Go.Yw.PrintLast Go.Yw.PrintMore
def Ykf : List UInt8 := [34, 60, 62, 35, 39]
def Yyf : List UInt8 := [34, 60, 62, 96]
def Ydb (any : List UInt8) (b : UInt8) : Bool := !any.contains b
def Yxi (l : List UInt8) : List UInt8 := l.takeWhile (Ydb [63, 35])
def Yjd (l : List UInt8) : List UInt8 := l.dropWhile (Ydb [63, 35])
def Yve : List UInt8 → Option (List UInt8)
 | [] => none
 | b :: l => if b = 63 then some (l.takeWhile (Ydb [35])) else none
def Yeb : List UInt8 → List UInt8
 | [] => []
 | b :: l => if b = 63 then l.dropWhile (Ydb [35]) else b :: l
def Yrk (c : UInt8) : List UInt8 → Bool
 | [] => false
 | b :: _ => b == c
def Yei (c : UInt8) : List UInt8 → List UInt8
 | [] => []
 | b :: t => if b = c then t else b :: t
def Ycf : List UInt8 → Option (List UInt8)
 | [] => none
 | b :: l => if b = 35 then some l else none
def Yvi (l : List UInt8) : List UInt8 := Yei 35 l
theorem Yqu (l : List UInt8) : (Yve l).isSome = Yrk 63 l := by
 cases l with
 | nil => rfl
 | cons b t => simp only [Yve, Yrk]; split <;> simp_all
theorem Ycr (l : List UInt8) : (Ycf l).isSome = Yrk 35 l := by
 cases l with
 | nil => rfl
 | cons b t => simp only [Ycf, Yrk]; split <;> simp_all
theorem Ypo (s chars : Y) : s.extract 0 (Ybh s chars) = ofL (s.data.toList.takeWhile (Ydb chars.data.toList)) ∧ s.extract (Ybh s chars) s.size = ofL (s.data.toList.dropWhile (Ydb chars.data.toList)) := by
 rw [Yge, Yuc]
 have key : ∀ l : List UInt8, (if Lib.indexAny l chars.data.toList < 0 then l.length else (Lib.indexAny l chars.data.toList).toNat) = (l.takeWhile (Ydb chars.data.toList)).length := by
  intro l
  induction l with
  | nil => rfl
  | cons b l ih =>
   rw [Lib.indexAny]
   by_cases h : chars.data.toList.contains b = true
   ·rw [if_pos h, List.takeWhile_cons_of_neg (by simp only [Ydb, h]; decide)]; rfl
   ·rw [if_neg h, List.takeWhile_cons_of_pos (by simp only [Ydb, Bool.not_eq_true] at h ⊢; rw [h]; rfl)]
    simp only [List.length_cons]
    rw [← ih]
    have hg := Lib.indexAny_ge chars.data.toList l
    by_cases h2 : (Lib.indexAny l chars.data.toList == -1) = true
    ·have h5 := beq_iff_eq.1 h2
     rw [if_pos h2, if_pos Zca, if_pos Zk]
    ·have h4 : ¬ Lib.indexAny l chars.data.toList = -1 := fun e => h2 (beq_iff_eq.2 e)
     have h5 : ¬ Lib.indexAny l chars.data.toList < 0 := by omega
     have h6 : ¬ Lib.indexAny l chars.data.toList + 1 < 0 := by omega
     rw [if_neg h2, if_neg h6, if_neg h5]; omega
 have h1 : Ybh s chars = (s.data.toList.takeWhile (Ydb chars.data.toList)).length := by
  rw [← key]; unfold Ybh; rw [Lib.size_eq]
 have h2 := List.takeWhile_append_dropWhile (p := Ydb chars.data.toList) (l := s.data.toList)
 rw [h1]
 constructor
 ·have := List.take_left (l₁ := s.data.toList.takeWhile (Ydb chars.data.toList)) (l₂ := s.data.toList.dropWhile (Ydb chars.data.toList))
  rw [h2] at this
  rw [this]
 ·have := List.drop_left (l₁ := s.data.toList.takeWhile (Ydb chars.data.toList)) (l₂ := s.data.toList.dropWhile (Ydb chars.data.toList))
  rw [h2] at this
  rw [this]
theorem take_f (s0 s1 s2 : Y) (s3 : Int) (s4 s5 s6 : Y) (s7 s8 : Bool) (any : Y) (ha : Yth any.data.toList = true) (hs : s0.size ≤ 140737488355328) :
  Yec.f s0 s1 s2 s3 s4 s5 s6 s7 s8 any = some (ofL (s0.data.toList.takeWhile (Ydb any.data.toList)), ofL (s0.data.toList.dropWhile (Ydb any.data.toList)), s1, s2, s3, s4, s5, s6, s7, s8) := by
 unfold Yec.f
 rw [if_pos ⟨ha, hs⟩, (Ypo s0 any).1, (Ypo s0 any).2]
theorem has_f (l : List UInt8) (s1 s2 : Y) (s3 : Int) (s4 s5 s6 : Y) (s7 s8 : Bool) (c : UInt8) (hs : l.length ≤ 140737488355328) :
  Yme.f (ofL l) s1 s2 s3 s4 s5 s6 s7 s8 (c.toNat : Int) = some (Yrk c l, ofL (Yei c l), s1, s2, s3, s4, s5, s6, s7, s8) := by
 unfold Yme.f
 rw [if_pos (by rw [Yy]; exact hs)]
 cases l with
 | nil => rfl
 | cons b t =>
  have hb : bt (ofL (b :: t)) 0 = (b.toNat : Int) := rfl
  have hsz : (ofL (b :: t)).size = t.length + 1 := by rw [Yy]; rfl
  simp only [Yrk, Yei]
  by_cases h : b = c
  ·rw [if_pos h, if_pos ⟨Zk, by rw [hb, h]⟩, Yuc, h]; simp [Ygb]
  ·rw [if_neg h, if_neg]
   ·simp [h]
   ·rintro ⟨_, h2⟩
    rw [hb] at h2
    exact h (UInt8.toNat_inj.1 Zk)
def Yvd.f (s0 s1 s2 : Y) (s3 : Int) (s4 s5 s6 : Y) (s7 s8 : Bool) : Option (Y × Y × Y × Int × Y × Y × Y × Bool × Bool) :=
 if s0.size ≤ 100000000 then
  some (ofL (Yvi (Yeb (Yjd s0.data.toList))), s1, s2, s3, ofL (Yxe (Yxi s0.data.toList)),
   (match Yve (Yjd s0.data.toList) with | some q => ofL (Yic Ykf q) | none => s5),
   (match Ycf (Yeb (Yjd s0.data.toList)) with | some q => ofL (Yic Yyf q) | none => s6),
   (match Yve (Yjd s0.data.toList) with | some _ => true | none => s7),
   (match Ycf (Yeb (Yjd s0.data.toList)) with | some _ => true | none => s8))
 else none
theorem Yte (p : UInt8 → Bool) (l : List UInt8) : (l.dropWhile p).length ≤ l.length := (List.dropWhile_sublist _).length_le
theorem Yse (p : UInt8 → Bool) (l : List UInt8) : (l.takeWhile p).length ≤ l.length := (List.takeWhile_sublist _).length_le
theorem Yxh {w0 w w1 W2 : World} {g : Nat} (hB : Below w0.heap.size w0 w1) (hK : KeepBut w w1 g none) (hg : w0.heap.size ≤ g) (j : Nat) (u : Value) :
  Below w0.heap.size w0 (w1.setCell ⟨g, j, none⟩ u) ∧ KeepBut w (w1.setCell ⟨g, j, none⟩ u) g none := ⟨Yg hB hg, hK.set_ j u⟩
set_option maxHeartbeats 8000000 in
set_option maxRecDepth 100000 in
theorem Yvd.calls (g : Nat) (s0 s1 s2 : Y) (s3 : Int) (s4 s5 s6 : Y) (s7 s8 : Bool) (r1 r2 r3 : Y) (r4 : Int) (r5 r6 r7 : Y) (r8 r9 : Bool) (w0 w : World) (hE : EnvOk w0) (hI : IsS53 w0 w g s0 s1 s2 s3 s4 s5 s6 s7 s8) (hB : Below w0.heap.size w0 w) (h : Yvd.f s0 s1 s2 s3 s4 s5 s6 s7 s8 = some (r1, r2, r3, r4, r5, r6, r7, r8, r9)) :
  Calls Tryz.prog 45 #[.pointer (some ⟨g, 0, none⟩)] w fun e w' => e = .returned (.tuple #[]) ∧ IsS53 w0 w' g r1 r2 r3 r4 r5 r6 r7 r8 r9 ∧ Below w0.heap.size w0 w' ∧ KeepBut w w' g none := by
 unfold Yvd.f at h
 by_cases hs : s0.size ≤ 100000000
 ·rw [if_pos hs] at h
  simp only [Kda, Kea] at h
  obtain ⟨rfl, rfl, rfl, rfl, h5, h6, h7, h8, h9⟩ := h
  have HE := Ya.mk hE
  have HI := Ya.mk hI
  have HB := Ya.mk hB
  have HG := Ya.mk hI.ge
  have ht1 : Yec.f s0 s1 s2 s3 s4 s5 s6 s7 s8 ⟨#[63, 35]⟩ = some (ofL (Yxi s0.data.toList), ofL (Yjd s0.data.toList), s1, s2, s3, s4, s5, s6, s7, s8) :=
   take_f s0 s1 s2 s3 s4 s5 s6 s7 s8 ⟨#[63, 35]⟩ rfl Zk
  have HT1 := Ya.mk ht1
  have hp : Ydj.f (ofL (Yxi s0.data.toList)) = some r5 := by
   unfold Ydj.f
   rw [if_pos (by rw [Yy]; have := Yse (Ydb [63, 35]) s0.data.toList; rw [← Lib.size_eq] at this; unfold Yxi; omega), Ygb, h5]
  have HP := Ya.mk hp
  have jY : (Yjd s0.data.toList).length ≤ 100000000 := by
   have := Yte (Ydb [63, 35]) s0.data.toList; rw [← Lib.size_eq] at this; unfold Yjd; omega
  obtain ⟨l1, hl1e⟩ : ∃ l1, l1 = Yjd s0.data.toList := ⟨_, rfl⟩
  rw [← hl1e] at HT1 h6 h7 h8 h9 jY ⊢
  have hl3 : (Yeb l1).length ≤ 100000000 := by
   unfold Yeb
   cases l1 with
   | nil => simp
   | cons b t =>
    simp only
    split
    ·have := Yte (Ydb [35]) t; simp only [List.length_cons] at jY; omega
    ·exact jY
  clear hE hI hB ht1 hp hl1e h5
  go_enter Tryz.func45, Tryz.ntmps45
  go_wp2_with fail
  refine (Yec.calls g s0 s1 s2 s3 s4 s5 s6 s7 s8 ⟨#[63, 35]⟩ _ _ _ _ _ _ _ _ _ _ w0 _ HE.out HI.out HB.out HT1.out).mono ?_
  rintro e w1 ⟨rfl, hi1, lS, uR⟩
  have iB := Ya.mk lS
  have uY := Ya.mk hi1
  have dB := Ya.mk uR
  have lM := Ya.mk (HE.out.below lS)
  clear hi1 lS uR
  go_wp2_with fail
  refine (Ydj.calls _ _ _ lM.out HP.out).mono ?_
  rintro e w2 ⟨rfl, bU⟩
  have HI2 := Ya.mk (uY.out.below bU)
  have eL := Ya.mk (iB.out.trans (bU.mono iB.out.size))
  have jX := Ya.mk (KeepBut.below' dB.out bU)
  have cN := Ykc HI2.out.1
  have iZ := Ye HI2.out.1 4
  clear bU
  go_wp2_with fail
  obtain ⟨hbx, hkx⟩ := Yxh (W2 := w2) eL.out jX.out HG.out 4 (.string r5)
  have oE := Ya.mk (HI2.out.set_4 r5)
  have eF := Ya.mk hbx
  have sM := Ya.mk hkx
  clear hbx hkx cN iZ
  obtain ⟨w3, hw⟩ : ∃ W, W = w2.setCell ⟨g, 4, none⟩ (.string r5) := ⟨_, rfl⟩
  rw [← hw] at oE eF sM ⊢
  clear hw
  have hq : Yme.f (ofL l1) s1 s2 s3 r5 s5 s6 s7 s8 63 = some ((Yve l1).isSome, ofL (Yei 63 l1), s1, s2, s3, r5, s5, s6, s7, s8) := by
   have := has_f l1 s1 s2 s3 r5 s5 s6 s7 s8 63 Zk
   rw [show ((63 : UInt8).toNat : Int) = 63 from rfl] at this
   rw [this, Yqu]
  have HQ := Ya.mk hq
  clear hq
  go_wp2_with fail
  refine (Yme.calls g _ _ _ _ _ _ _ _ _ 63 _ _ _ _ _ _ _ _ _ _ w0 _ HE.out oE.out eF.out HQ.out).mono ?_
  rintro e w4 ⟨rfl, hix, hbx, hkx⟩
  have vA := Ya.mk hix
  have dL := Ya.mk hbx
  have HK4 := Ya.mk (sM.out.trans hkx (.inl rfl))
  have HE4 := Ya.mk (HE.out.below hbx)
  clear hix hbx hkx
  cases hqo : Yve l1 with
  | none =>
   rw [hqo] at h6 h8
   simp only at h6 h8
   have ha : Yei 63 l1 = Yeb l1 := by
    cases l1 with
    | nil => rfl
    | cons b t =>
     simp only [Yve, Yeb, Yei] at hqo ⊢
     split at hqo
     ·cases hqo
     ·rw [if_neg (by assumption), if_neg (by assumption)]
   rw [ha] at vA
   clear ha hqo
   subst h6 h8
   have cH : Yme.f (ofL (Yeb l1)) s1 s2 s3 r5 s5 s6 s7 s8 35 = some ((Ycf (Yeb l1)).isSome, ofL (Yvi (Yeb l1)), s1, s2, s3, r5, s5, s6, s7, s8) := by
    have := has_f (Yeb l1) s1 s2 s3 r5 s5 s6 s7 s8 35 Zk
    rw [show ((35 : UInt8).toNat : Int) = 35 from rfl] at this
    rw [this, Ycr]; rfl
   have zU := Ya.mk cH
   clear cH
   go_wp2_with fail
   refine (Yme.calls g _ _ _ _ _ _ _ _ _ 35 _ _ _ _ _ _ _ _ _ _ w0 _ HE.out vA.out dL.out zU.out).mono ?_
   rintro e w5 ⟨rfl, hix, hbx, hkx⟩
   have oF := Ya.mk hix
   have cM := Ya.mk hbx
   have HK5 := Ya.mk (HK4.out.trans hkx (.inl rfl))
   have HE5 := Ya.mk (HE.out.below hbx)
   clear hix hbx hkx
   cases hfo : Ycf (Yeb l1) with
   | none =>
    rw [hfo] at h7 h9
    simp only at h7 h9
    subst h7 h9
    clear hfo
    go_wp2
    go_end0
    exact ⟨rfl, oF.out, cM.out, HK5.out⟩
   | some fr =>
    rw [hfo] at h7 h9
    simp only at h7 h9
    have hr : Yvi (Yeb l1) = fr := by
     cases ha : Yeb l1 with
     | nil => rw [ha] at hfo; cases hfo
     | cons b t =>
      rw [ha] at hfo
      simp only [Ycf, Yvi, Yei] at hfo ⊢
      split at hfo
      ·rw [if_pos (by assumption)]; exact Kv hfo
      ·cases hfo
    have hfl : fr.length ≤ 100000000 := by
     have h10 : fr.length ≤ (Yeb l1).length := by
      cases ha : Yeb l1 with
      | nil => rw [ha] at hfo; cases hfo
      | cons b t => rw [← hr, ha]; simp only [Yvi, Yei]; split <;> simp
     omega
    have HIy := Ya.mk oF.out
    rw [hr] at HIy
    have hm : Yle.f (ofL fr) ⟨#[34, 60, 62, 96]⟩ = some r7 := by
     unfold Yle.f
     rw [if_pos Zda, ← h7]; rfl
    have HM := Ya.mk hm
    replace oF := HIy
    have HRr := Ya.mk hr
    clear hm hfo hr h7 HIy
    subst h9
    have cT := Yhc oF.out.1
    have hf5 := Ye oF.out.1 8
    have hld := Yfc (oF.out.set_8 true).1
    go_wp2_with fail
    clear hld
    obtain ⟨hbx, hkx⟩ := Yxh (W2 := w5) cM.out HK5.out HG.out 8 (.bool true)
    have zV := Ya.mk (oF.out.set_8 true)
    have jH := Ya.mk hbx
    have HK6 := Ya.mk hkx
    clear hbx hkx cT hf5
    obtain ⟨w6, hw⟩ : ∃ W, W = w5.setCell ⟨g, 8, none⟩ (.bool true) := ⟨_, rfl⟩
    rw [← hw] at zV jH HK6 ⊢
    clear hw
    refine (Yle.calls _ _ _ _ (HE.out.below jH.out) HM.out).mono ?_
    rintro e w7 ⟨rfl, hbx⟩
    have HI7 := Ya.mk (zV.out.below hbx)
    have HB7 := Ya.mk (jH.out.trans (hbx.mono jH.out.size))
    have HK7 := Ya.mk (KeepBut.below' HK6.out hbx)
    clear hbx
    have cR := Ygc HI7.out.1
    have hf7 := Ye HI7.out.1 6
    go_wp2_with fail
    obtain ⟨hbx, hkx⟩ := Yxh (W2 := w7) HB7.out HK7.out HG.out 6 (.string r7)
    have HI8 := Ya.mk (HI7.out.set_6 r7)
    have yY := Ya.mk hbx
    have HK8 := Ya.mk hkx
    clear hbx hkx cR hf7
    obtain ⟨w8, hw⟩ : ∃ W, W = w7.setCell ⟨g, 6, none⟩ (.string r7) := ⟨_, rfl⟩
    rw [← hw] at HI8 yY HK8 ⊢
    clear hw
    go_end0
    exact ⟨rfl, by rw [HRr.out]; exact HI8.out, yY.out, HK8.out⟩
  | some qu =>
   rw [hqo] at h6 h8
   simp only at h6 h8
   obtain ⟨l2, hl2, hqu, haf⟩ : ∃ l2, Yei 63 l1 = l2 ∧ l2.takeWhile (Ydb [35]) = qu ∧ Yeb l1 = l2.dropWhile (Ydb [35]) ∧ l2.length ≤ 100000000 := by
    cases l1 with
    | nil => cases hqo
    | cons b t =>
     simp only [Yve, Yeb, Yei] at hqo ⊢
     split at hqo
     ·refine ⟨t, by rw [if_pos (by assumption)], Kv hqo, by rw [if_pos (by assumption)], ?_⟩
      simp only [List.length_cons] at jY; omega
     ·cases hqo
   obtain ⟨haf, hl2l⟩ := haf
   rw [hl2] at vA
   have ht2 : Yec.f (ofL l2) s1 s2 s3 r5 s5 s6 true s8 ⟨#[35]⟩ = some (ofL qu, ofL (Yeb l1), s1, s2, s3, r5, s5, s6, true, s8) := by
    rw [take_f _ _ _ _ _ _ _ _ _ ⟨#[35]⟩ rfl Zda, haf, ← hqu]; rfl
   have eE := Ya.mk ht2
   have hm0 : Yle.f (ofL qu) ⟨#[34, 60, 62, 35, 39]⟩ = some r6 := by
    unfold Yle.f
    rw [if_pos (by rw [Yy, ← hqu]; have := Yse (Ydb [35]) l2; omega), ← h6]; rfl
   have HM0 := Ya.mk hm0
   clear ht2 hm0 hl2 haf hqu hqo h6
   subst h8
   have cU := Ylc vA.out.1
   have hf4 := Ye vA.out.1 7
   go_wp2_with fail
   obtain ⟨hbx, hkx⟩ := Yxh (W2 := w4) dL.out HK4.out HG.out 7 (.bool true)
   have oF := Ya.mk (vA.out.set_7 true)
   have cM := Ya.mk hbx
   have HK5 := Ya.mk hkx
   clear hbx hkx cU hf4
   obtain ⟨w5, hw⟩ : ∃ W, W = w4.setCell ⟨g, 7, none⟩ (.bool true) := ⟨_, rfl⟩
   rw [← hw] at oF cM HK5 ⊢
   clear hw
   go_wp2_with fail
   refine (Yec.calls g _ _ _ _ _ _ _ _ _ ⟨#[35]⟩ _ _ _ _ _ _ _ _ _ _ w0 _ HE.out oF.out cM.out eE.out).mono ?_
   rintro e w6 ⟨rfl, hix, hbx, hkx⟩
   have zV := Ya.mk hix
   have jH := Ya.mk hbx
   have HK6 := Ya.mk (HK5.out.trans hkx (.inl rfl))
   have HE6 := Ya.mk (HE.out.below hbx)
   clear hix hbx hkx
   go_wp2_with fail
   refine (Yle.calls _ _ _ _ HE6.out HM0.out).mono ?_
   rintro e w7 ⟨rfl, hbx⟩
   have HI7 := Ya.mk (zV.out.below hbx)
   have HB7 := Ya.mk (jH.out.trans (hbx.mono jH.out.size))
   have HK7 := Ya.mk (KeepBut.below' HK6.out hbx)
   clear hbx
   have cR := Yjc HI7.out.1
   have hf7 := Ye HI7.out.1 5
   go_wp2_with fail
   obtain ⟨hbx, hkx⟩ := Yxh (W2 := w7) HB7.out HK7.out HG.out 5 (.string r6)
   have HI8 := Ya.mk (HI7.out.set_5 r6)
   have yY := Ya.mk hbx
   have HK8 := Ya.mk hkx
   clear hbx hkx cR hf7
   obtain ⟨w8, hw⟩ : ∃ W, W = w7.setCell ⟨g, 5, none⟩ (.string r6) := ⟨_, rfl⟩
   rw [← hw] at HI8 yY HK8 ⊢
   clear hw
   have cH : Yme.f (ofL (Yeb l1)) s1 s2 s3 r5 r6 s6 true s8 35 = some ((Ycf (Yeb l1)).isSome, ofL (Yvi (Yeb l1)), s1, s2, s3, r5, r6, s6, true, s8) := by
    have := has_f (Yeb l1) s1 s2 s3 r5 r6 s6 true s8 35 Zk
    rw [show ((35 : UInt8).toNat : Int) = 35 from rfl] at this
    rw [this, Ycr]; rfl
   have zU := Ya.mk cH
   clear cH
   go_wp2_with fail
   refine (Yme.calls g _ _ _ _ _ _ _ _ _ 35 _ _ _ _ _ _ _ _ _ _ w0 _ HE.out HI8.out yY.out zU.out).mono ?_
   rintro e w9 ⟨rfl, hix, hbx, hkx⟩
   have HI9 := Ya.mk hix
   have HB9 := Ya.mk hbx
   have HK9 := Ya.mk (HK8.out.trans hkx (.inl rfl))
   have HE9 := Ya.mk (HE.out.below hbx)
   clear hix hbx hkx
   cases hfo : Ycf (Yeb l1) with
   | none =>
    rw [hfo] at h7 h9
    simp only at h7 h9
    subst h7 h9
    clear hfo
    go_wp2
    go_end0
    exact ⟨rfl, HI9.out, HB9.out, HK9.out⟩
   | some fr =>
    rw [hfo] at h7 h9
    simp only at h7 h9
    have hr : Yvi (Yeb l1) = fr := by
     cases ha : Yeb l1 with
     | nil => rw [ha] at hfo; cases hfo
     | cons b t =>
      rw [ha] at hfo
      simp only [Ycf, Yvi, Yei] at hfo ⊢
      split at hfo
      ·rw [if_pos (by assumption)]; exact Kv hfo
      ·cases hfo
    have hfl : fr.length ≤ 100000000 := by
     have h10 : fr.length ≤ (Yeb l1).length := by
      cases ha : Yeb l1 with
      | nil => rw [ha] at hfo; cases hfo
      | cons b t => rw [← hr, ha]; simp only [Yvi, Yei]; split <;> simp
     omega
    have HIy := Ya.mk HI9.out
    rw [hr] at HIy
    have hm : Yle.f (ofL fr) ⟨#[34, 60, 62, 96]⟩ = some r7 := by
     unfold Yle.f
     rw [if_pos Zda, ← h7]; rfl
    have HM := Ya.mk hm
    replace HI9 := HIy
    have HRr := Ya.mk hr
    clear hm hfo hr h7 HIy
    subst h9
    have hc9 := Yhc HI9.out.1
    have hf9 := Ye HI9.out.1 8
    have hld := Yfc (HI9.out.set_8 true).1
    go_wp2_with fail
    clear hld
    obtain ⟨hbx, hkx⟩ := Yxh (W2 := w9) HB9.out HK9.out HG.out 8 (.bool true)
    have aIM := Ya.mk (HI9.out.set_8 true)
    have aDN := Ya.mk hbx
    have aIN := Ya.mk hkx
    clear hbx hkx hc9 hf9
    obtain ⟨pN, hw⟩ : ∃ W, W = w9.setCell ⟨g, 8, none⟩ (.bool true) := ⟨_, rfl⟩
    rw [← hw] at aIM aDN aIN ⊢
    clear hw
    refine (Yle.calls _ _ _ _ (HE.out.below aDN.out) HM.out).mono ?_
    rintro e w11 ⟨rfl, hbx⟩
    have aFM := Ya.mk (aIM.out.below hbx)
    have aVI := Ya.mk (aDN.out.trans (hbx.mono aDN.out.size))
    have aVJ := Ya.mk (KeepBut.below' aIN.out hbx)
    clear hbx
    have aVK := Ygc aFM.out.1
    have aVL := Ye aFM.out.1 6
    go_wp2_with fail
    obtain ⟨hbx, hkx⟩ := Yxh (W2 := w11) aVI.out aVJ.out HG.out 6 (.string r7)
    have aIO := Ya.mk (aFM.out.set_6 r7)
    have aIP := Ya.mk hbx
    have aIQ := Ya.mk hkx
    clear hbx hkx aVK aVL
    obtain ⟨uS, hw⟩ : ∃ W, W = w11.setCell ⟨g, 6, none⟩ (.string r7) := ⟨_, rfl⟩
    rw [← hw] at aIO aIP aIQ ⊢
    clear hw
    go_end0
    exact ⟨rfl, by rw [HRr.out]; exact aIO.out, aIP.out, aIQ.out⟩
 ·rw [if_neg hs] at h; cases h
end Go.Proofs.YtnmglnglbdpjjaaGreatDoor.X
