import Derived.Test.YtihaeeldgimdiaaGreatDoorIUH3a
set_option linter.all false
namespace Go.Proofs.YtihaeeldgimdiaaGreatDoor.X
open Go.RowKit Go.Lib Go.Shelf Go.Yw.PrintWords Go.Yw.PrintLast Go.Yw.PrintMore
def Yvj : List UInt8 := [34, 60, 62, 35, 39]
def Yhj : List UInt8 := [34, 60, 62, 96]
def Yza (any : List UInt8) (b : UInt8) : Bool := !any.contains b
def Ykj (l : List UInt8) : List UInt8 := l.takeWhile (Yza [63, 35])
def Yce (l : List UInt8) : List UInt8 := l.dropWhile (Yza [63, 35])
def Ydf : List UInt8 → Option (List UInt8)
 | [] => none
 | b :: l => if b = 63 then some (l.takeWhile (Yza [35])) else none
def Ybb : List UInt8 → List UInt8
 | [] => []
 | b :: l => if b = 63 then l.dropWhile (Yza [35]) else b :: l
def Yxj (c : UInt8) : List UInt8 → Bool
 | [] => false
 | b :: _ => b == c
def Ysh (c : UInt8) : List UInt8 → List UInt8
 | [] => []
 | b :: t => if b = c then t else b :: t
def Ypf : List UInt8 → Option (List UInt8)
 | [] => none
 | b :: l => if b = 35 then some l else none
def Ygi (l : List UInt8) : List UInt8 := Ysh 35 l
theorem Yos (l : List UInt8) : (Ydf l).isSome = Yxj 63 l := by
 cases l with
 | nil => rfl
 | cons b t => simp only [Ydf, Yxj]; split <;> simp_all
theorem Yip (l : List UInt8) : (Ypf l).isSome = Yxj 35 l := by
 cases l with
 | nil => rfl
 | cons b t => simp only [Ypf, Yxj]; split <;> simp_all
theorem Yhn (s chars : Y) : s.extract 0 (Ymg s chars) = ofL (s.data.toList.takeWhile (Yza chars.data.toList)) ∧ s.extract (Ymg s chars) s.size = ofL (s.data.toList.dropWhile (Yza chars.data.toList)) := by
 rw [Yxe, Ytc]
 have key : ∀ l : List UInt8, (if Lib.indexAny l chars.data.toList < 0 then l.length else (Lib.indexAny l chars.data.toList).toNat) = (l.takeWhile (Yza chars.data.toList)).length := by
  intro l
  induction l with
  | nil => rfl
  | cons b l ih =>
   rw [Lib.indexAny]
   by_cases h : chars.data.toList.contains b = true
   ·rw [if_pos h, List.takeWhile_cons_of_neg (by simp only [Yza, h]; decide)]; rfl
   ·rw [if_neg h, List.takeWhile_cons_of_pos (by simp only [Yza, Bool.not_eq_true] at h ⊢; rw [h]; rfl)]
    simp only [List.length_cons]
    rw [← ih]
    have hg := Lib.indexAny_ge chars.data.toList l
    by_cases h2 : (Lib.indexAny l chars.data.toList == -1) = true
    ·have h5 := beq_iff_eq.1 h2
     rw [if_pos h2, if_pos Zw, if_pos Zj]
    ·have h4 : ¬ Lib.indexAny l chars.data.toList = -1 := fun e => h2 (beq_iff_eq.2 e)
     have h5 : ¬ Lib.indexAny l chars.data.toList < 0 := by omega
     have h6 : ¬ Lib.indexAny l chars.data.toList + 1 < 0 := by omega
     rw [if_neg h2, if_neg h6, if_neg h5]; omega
 have h1 : Ymg s chars = (s.data.toList.takeWhile (Yza chars.data.toList)).length := by
  rw [← key]; unfold Ymg; rw [Lib.size_eq]
 have h2 := List.takeWhile_append_dropWhile (p := Yza chars.data.toList) (l := s.data.toList)
 rw [h1]
 constructor
 ·have := List.take_left (l₁ := s.data.toList.takeWhile (Yza chars.data.toList)) (l₂ := s.data.toList.dropWhile (Yza chars.data.toList))
  rw [h2] at this
  rw [this]
 ·have := List.drop_left (l₁ := s.data.toList.takeWhile (Yza chars.data.toList)) (l₂ := s.data.toList.dropWhile (Yza chars.data.toList))
  rw [h2] at this
  rw [this]
theorem take_f (s0 s1 s2 : Y) (s3 : Int) (s4 s5 s6 : Y) (s7 s8 : Bool) (any : Y) (ha : Ysg any.data.toList = true) (hs : s0.size ≤ 140737488355328) :
  Yrb.f s0 s1 s2 s3 s4 s5 s6 s7 s8 any = some (ofL (s0.data.toList.takeWhile (Yza any.data.toList)), ofL (s0.data.toList.dropWhile (Yza any.data.toList)), s1, s2, s3, s4, s5, s6, s7, s8) := by
 unfold Yrb.f
 rw [if_pos ⟨ha, hs⟩, (Yhn s0 any).1, (Yhn s0 any).2]
theorem has_f (l : List UInt8) (s1 s2 : Y) (s3 : Int) (s4 s5 s6 : Y) (s7 s8 : Bool) (c : UInt8) (hs : l.length ≤ 140737488355328) :
  Ynd.f (ofL l) s1 s2 s3 s4 s5 s6 s7 s8 (c.toNat : Int) = some (Yxj c l, ofL (Ysh c l), s1, s2, s3, s4, s5, s6, s7, s8) := by
 unfold Ynd.f
 rw [if_pos (by rw [Yfa]; exact hs)]
 cases l with
 | nil => rfl
 | cons b t =>
  have hb : bt (ofL (b :: t)) 0 = (b.toNat : Int) := rfl
  have hsz : (ofL (b :: t)).size = t.length + 1 := by rw [Yfa]; rfl
  simp only [Yxj, Ysh]
  by_cases h : b = c
  ·rw [if_pos h, if_pos ⟨Zj, by rw [hb, h]⟩, Ytc, h]; simp [Ytb]
  ·rw [if_neg h, if_neg]
   ·simp [h]
   ·rintro ⟨_, h2⟩
    rw [hb] at h2
    exact h (UInt8.toNat_inj.1 Zj)
def Yge.f (s0 s1 s2 : Y) (s3 : Int) (s4 s5 s6 : Y) (s7 s8 : Bool) : Option (Y × Y × Y × Int × Y × Y × Y × Bool × Bool) :=
 if s0.size ≤ 100000000 then
  some (ofL (Ygi (Ybb (Yce s0.data.toList))), s1, s2, s3, ofL (Ysj (Ykj s0.data.toList)),
   (match Ydf (Yce s0.data.toList) with | some q => ofL (Ydd Yvj q) | none => s5),
   (match Ypf (Ybb (Yce s0.data.toList)) with | some q => ofL (Ydd Yhj q) | none => s6),
   (match Ydf (Yce s0.data.toList) with | some _ => true | none => s7),
   (match Ypf (Ybb (Yce s0.data.toList)) with | some _ => true | none => s8))
 else none
theorem Yne (p : UInt8 → Bool) (l : List UInt8) : (l.dropWhile p).length ≤ l.length := (List.dropWhile_sublist _).length_le
theorem Yud (p : UInt8 → Bool) (l : List UInt8) : (l.takeWhile p).length ≤ l.length := (List.takeWhile_sublist _).length_le
theorem Ych {w0 w w1 W2 : World} {g : Nat} (hB : Below w0.heap.size w0 w1) (hK : KeepBut w w1 g none) (hg : w0.heap.size ≤ g) (j : Nat) (u : Value) :
  Below w0.heap.size w0 (w1.setCell ⟨g, j, none⟩ u) ∧ KeepBut w (w1.setCell ⟨g, j, none⟩ u) g none := ⟨Yg hB hg, hK.set_ j u⟩
set_option maxHeartbeats 8000000 in
set_option maxRecDepth 100000 in
theorem Yge.calls (g : Nat) (s0 s1 s2 : Y) (s3 : Int) (s4 s5 s6 : Y) (s7 s8 : Bool) (r1 r2 r3 : Y) (r4 : Int) (r5 r6 r7 : Y) (r8 r9 : Bool) (w0 w : World) (hE : EnvOk w0) (hI : IsS75 w0 w g s0 s1 s2 s3 s4 s5 s6 s7 s8) (hB : Below w0.heap.size w0 w) (h : Yge.f s0 s1 s2 s3 s4 s5 s6 s7 s8 = some (r1, r2, r3, r4, r5, r6, r7, r8, r9)) :
  Calls Tryz.prog 47 #[.pointer (some ⟨g, 0, none⟩)] w fun e w' => e = .returned (.tuple #[]) ∧ IsS75 w0 w' g r1 r2 r3 r4 r5 r6 r7 r8 r9 ∧ Below w0.heap.size w0 w' ∧ KeepBut w w' g none := by
 unfold Yge.f at h
 by_cases hs : s0.size ≤ 100000000
 ·rw [if_pos hs] at h
  simp only [Kz, Kaa] at h
  obtain ⟨rfl, rfl, rfl, rfl, h5, h6, h7, h8, h9⟩ := h
  have HE := Ya.mk hE
  have HI := Ya.mk hI
  have HB := Ya.mk hB
  have HG := Ya.mk hI.ge
  have ht1 : Yrb.f s0 s1 s2 s3 s4 s5 s6 s7 s8 ⟨#[63, 35]⟩ = some (ofL (Ykj s0.data.toList), ofL (Yce s0.data.toList), s1, s2, s3, s4, s5, s6, s7, s8) :=
   take_f s0 s1 s2 s3 s4 s5 s6 s7 s8 ⟨#[63, 35]⟩ rfl Zj
  have HT1 := Ya.mk ht1
  have hp : Yli.f (ofL (Ykj s0.data.toList)) = some r5 := by
   unfold Yli.f
   rw [if_pos (by rw [Yfa]; have := Yud (Yza [63, 35]) s0.data.toList; rw [← Lib.size_eq] at this; unfold Ykj; omega), Ytb, h5]
  have HP := Ya.mk hp
  have jK : (Yce s0.data.toList).length ≤ 100000000 := by
   have := Yne (Yza [63, 35]) s0.data.toList; rw [← Lib.size_eq] at this; unfold Yce; omega
  obtain ⟨l1, hl1e⟩ : ∃ l1, l1 = Yce s0.data.toList := ⟨_, rfl⟩
  rw [← hl1e] at HT1 h6 h7 h8 h9 jK ⊢
  have hl3 : (Ybb l1).length ≤ 100000000 := by
   unfold Ybb
   cases l1 with
   | nil => simp
   | cons b t =>
    simp only
    split
    ·have := Yne (Yza [35]) t; simp only [List.length_cons] at jK; omega
    ·exact jK
  clear hE hI hB ht1 hp hl1e h5
  go_enter Tryz.func47, Tryz.ntmps47
  go_wp2_with fail
  refine (Yrb.calls g s0 s1 s2 s3 s4 s5 s6 s7 s8 ⟨#[63, 35]⟩ _ _ _ _ _ _ _ _ _ _ w0 _ HE.out HI.out HB.out HT1.out).mono ?_
  rintro e w1 ⟨rfl, hi1, qY, mM⟩
  have hY := Ya.mk qY
  have HI1 := Ya.mk hi1
  have cC := Ya.mk mM
  have mN := Ya.mk (HE.out.below qY)
  clear hi1 qY mM
  go_wp2_with fail
  refine (Yli.calls _ _ _ mN.out HP.out).mono ?_
  rintro e w2 ⟨rfl, cJ⟩
  have HI2 := Ya.mk (HI1.out.below cJ)
  have fJ := Ya.mk (hY.out.trans (cJ.mono hY.out.size))
  have kU := Ya.mk (KeepBut.below' cC.out cJ)
  have gU := Yzb HI2.out.1
  have zK := Ye HI2.out.1 4
  clear cJ
  go_wp2_with fail
  obtain ⟨hbx, hkx⟩ := Ych (W2 := w2) fJ.out kU.out HG.out 4 (.string r5)
  have nY := Ya.mk (HI2.out.set_4 r5)
  have cZ := Ya.mk hbx
  have qX := Ya.mk hkx
  clear hbx hkx gU zK
  obtain ⟨w3, hw⟩ : ∃ W, W = w2.setCell ⟨g, 4, none⟩ (.string r5) := ⟨_, rfl⟩
  rw [← hw] at nY cZ qX ⊢
  clear hw
  have hq : Ynd.f (ofL l1) s1 s2 s3 r5 s5 s6 s7 s8 63 = some ((Ydf l1).isSome, ofL (Ysh 63 l1), s1, s2, s3, r5, s5, s6, s7, s8) := by
   have := has_f l1 s1 s2 s3 r5 s5 s6 s7 s8 63 Zj
   rw [show ((63 : UInt8).toNat : Int) = 63 from rfl] at this
   rw [this, Yos]
  have HQ := Ya.mk hq
  clear hq
  go_wp2_with fail
  refine (Ynd.calls g _ _ _ _ _ _ _ _ _ 63 _ _ _ _ _ _ _ _ _ _ w0 _ HE.out nY.out cZ.out HQ.out).mono ?_
  rintro e w4 ⟨rfl, hix, hbx, hkx⟩
  have vJ := Ya.mk hix
  have cU := Ya.mk hbx
  have HK4 := Ya.mk (qX.out.trans hkx (.inl rfl))
  have HE4 := Ya.mk (HE.out.below hbx)
  clear hix hbx hkx
  cases hqo : Ydf l1 with
  | none =>
   rw [hqo] at h6 h8
   simp only at h6 h8
   have ha : Ysh 63 l1 = Ybb l1 := by
    cases l1 with
    | nil => rfl
    | cons b t =>
     simp only [Ydf, Ybb, Ysh] at hqo ⊢
     split at hqo
     ·cases hqo
     ·rw [if_neg (by assumption), if_neg (by assumption)]
   rw [ha] at vJ
   clear ha hqo
   subst h6 h8
   have cP : Ynd.f (ofL (Ybb l1)) s1 s2 s3 r5 s5 s6 s7 s8 35 = some ((Ypf (Ybb l1)).isSome, ofL (Ygi (Ybb l1)), s1, s2, s3, r5, s5, s6, s7, s8) := by
    have := has_f (Ybb l1) s1 s2 s3 r5 s5 s6 s7 s8 35 Zj
    rw [show ((35 : UInt8).toNat : Int) = 35 from rfl] at this
    rw [this, Yip]; rfl
   have uB := Ya.mk cP
   clear cP
   go_wp2_with fail
   refine (Ynd.calls g _ _ _ _ _ _ _ _ _ 35 _ _ _ _ _ _ _ _ _ _ w0 _ HE.out vJ.out cU.out uB.out).mono ?_
   rintro e w5 ⟨rfl, hix, hbx, hkx⟩
   have nZ := Ya.mk hix
   have cH := Ya.mk hbx
   have HK5 := Ya.mk (HK4.out.trans hkx (.inl rfl))
   have HE5 := Ya.mk (HE.out.below hbx)
   clear hix hbx hkx
   cases hfo : Ypf (Ybb l1) with
   | none =>
    rw [hfo] at h7 h9
    simp only at h7 h9
    subst h7 h9
    clear hfo
    go_wp2
    go_end0
    exact ⟨rfl, nZ.out, cH.out, HK5.out⟩
   | some fr =>
    rw [hfo] at h7 h9
    simp only at h7 h9
    have hr : Ygi (Ybb l1) = fr := by
     cases ha : Ybb l1 with
     | nil => rw [ha] at hfo; cases hfo
     | cons b t =>
      rw [ha] at hfo
      simp only [Ypf, Ygi, Ysh] at hfo ⊢
      split at hfo
      ·rw [if_pos (by assumption)]; exact Kr hfo
      ·cases hfo
    have hfl : fr.length ≤ 100000000 := by
     have oI : fr.length ≤ (Ybb l1).length := by
      cases ha : Ybb l1 with
      | nil => rw [ha] at hfo; cases hfo
      | cons b t => rw [← hr, ha]; simp only [Ygi, Ysh]; split <;> simp
     omega
    have HIy := Ya.mk nZ.out
    rw [hr] at HIy
    have hm : Yid.f (ofL fr) ⟨#[34, 60, 62, 96]⟩ = some r7 := by
     unfold Yid.f
     rw [if_pos Zha, ← h7]; rfl
    have HM := Ya.mk hm
    replace nZ := HIy
    have HRr := Ya.mk hr
    clear hm hfo hr h7 HIy
    subst h9
    have kS := Yub nZ.out.1
    have hf5 := Ye nZ.out.1 8
    have hld := Ysb (nZ.out.set_8 true).1
    go_wp2_with fail
    clear hld
    obtain ⟨hbx, hkx⟩ := Ych (W2 := w5) cH.out HK5.out HG.out 8 (.bool true)
    have zM := Ya.mk (nZ.out.set_8 true)
    have jG := Ya.mk hbx
    have HK6 := Ya.mk hkx
    clear hbx hkx kS hf5
    obtain ⟨w6, hw⟩ : ∃ W, W = w5.setCell ⟨g, 8, none⟩ (.bool true) := ⟨_, rfl⟩
    rw [← hw] at zM jG HK6 ⊢
    clear hw
    refine (Yid.calls _ _ _ _ (HE.out.below jG.out) HM.out).mono ?_
    rintro e w7 ⟨rfl, hbx⟩
    have HI7 := Ya.mk (zM.out.below hbx)
    have yN := Ya.mk (jG.out.trans (hbx.mono jG.out.size))
    have HK7 := Ya.mk (KeepBut.below' HK6.out hbx)
    clear hbx
    have lQ := Yvb HI7.out.1
    have hf7 := Ye HI7.out.1 6
    go_wp2_with fail
    obtain ⟨hbx, hkx⟩ := Ych (W2 := w7) yN.out HK7.out HG.out 6 (.string r7)
    have HI8 := Ya.mk (HI7.out.set_6 r7)
    have HB8 := Ya.mk hbx
    have HK8 := Ya.mk hkx
    clear hbx hkx lQ hf7
    obtain ⟨w8, hw⟩ : ∃ W, W = w7.setCell ⟨g, 6, none⟩ (.string r7) := ⟨_, rfl⟩
    rw [← hw] at HI8 HB8 HK8 ⊢
    clear hw
    go_end0
    exact ⟨rfl, by rw [HRr.out]; exact HI8.out, HB8.out, HK8.out⟩
  | some qu =>
   rw [hqo] at h6 h8
   simp only at h6 h8
   obtain ⟨l2, hl2, hqu, haf⟩ : ∃ l2, Ysh 63 l1 = l2 ∧ l2.takeWhile (Yza [35]) = qu ∧ Ybb l1 = l2.dropWhile (Yza [35]) ∧ l2.length ≤ 100000000 := by
    cases l1 with
    | nil => cases hqo
    | cons b t =>
     simp only [Ydf, Ybb, Ysh] at hqo ⊢
     split at hqo
     ·refine ⟨t, by rw [if_pos (by assumption)], Kr hqo, by rw [if_pos (by assumption)], ?_⟩
      simp only [List.length_cons] at jK; omega
     ·cases hqo
   obtain ⟨haf, hl2l⟩ := haf
   rw [hl2] at vJ
   have ht2 : Yrb.f (ofL l2) s1 s2 s3 r5 s5 s6 true s8 ⟨#[35]⟩ = some (ofL qu, ofL (Ybb l1), s1, s2, s3, r5, s5, s6, true, s8) := by
    rw [take_f _ _ _ _ _ _ _ _ _ ⟨#[35]⟩ rfl Zha, haf, ← hqu]; rfl
   have dT := Ya.mk ht2
   have hm0 : Yid.f (ofL qu) ⟨#[34, 60, 62, 35, 39]⟩ = some r6 := by
    unfold Yid.f
    rw [if_pos (by rw [Yfa, ← hqu]; have := Yud (Yza [35]) l2; omega), ← h6]; rfl
   have HM0 := Ya.mk hm0
   clear ht2 hm0 hl2 haf hqu hqo h6
   subst h8
   have kT := Ybc vJ.out.1
   have hf4 := Ye vJ.out.1 7
   go_wp2_with fail
   obtain ⟨hbx, hkx⟩ := Ych (W2 := w4) cU.out HK4.out HG.out 7 (.bool true)
   have nZ := Ya.mk (vJ.out.set_7 true)
   have cH := Ya.mk hbx
   have HK5 := Ya.mk hkx
   clear hbx hkx kT hf4
   obtain ⟨w5, hw⟩ : ∃ W, W = w4.setCell ⟨g, 7, none⟩ (.bool true) := ⟨_, rfl⟩
   rw [← hw] at nZ cH HK5 ⊢
   clear hw
   go_wp2_with fail
   refine (Yrb.calls g _ _ _ _ _ _ _ _ _ ⟨#[35]⟩ _ _ _ _ _ _ _ _ _ _ w0 _ HE.out nZ.out cH.out dT.out).mono ?_
   rintro e w6 ⟨rfl, hix, hbx, hkx⟩
   have zM := Ya.mk hix
   have jG := Ya.mk hbx
   have HK6 := Ya.mk (HK5.out.trans hkx (.inl rfl))
   have HE6 := Ya.mk (HE.out.below hbx)
   clear hix hbx hkx
   go_wp2_with fail
   refine (Yid.calls _ _ _ _ HE6.out HM0.out).mono ?_
   rintro e w7 ⟨rfl, hbx⟩
   have HI7 := Ya.mk (zM.out.below hbx)
   have yN := Ya.mk (jG.out.trans (hbx.mono jG.out.size))
   have HK7 := Ya.mk (KeepBut.below' HK6.out hbx)
   clear hbx
   have lQ := Yac HI7.out.1
   have hf7 := Ye HI7.out.1 5
   go_wp2_with fail
   obtain ⟨hbx, hkx⟩ := Ych (W2 := w7) yN.out HK7.out HG.out 5 (.string r6)
   have HI8 := Ya.mk (HI7.out.set_5 r6)
   have HB8 := Ya.mk hbx
   have HK8 := Ya.mk hkx
   clear hbx hkx lQ hf7
   obtain ⟨w8, hw⟩ : ∃ W, W = w7.setCell ⟨g, 5, none⟩ (.string r6) := ⟨_, rfl⟩
   rw [← hw] at HI8 HB8 HK8 ⊢
   clear hw
   have cP : Ynd.f (ofL (Ybb l1)) s1 s2 s3 r5 r6 s6 true s8 35 = some ((Ypf (Ybb l1)).isSome, ofL (Ygi (Ybb l1)), s1, s2, s3, r5, r6, s6, true, s8) := by
    have := has_f (Ybb l1) s1 s2 s3 r5 r6 s6 true s8 35 Zj
    rw [show ((35 : UInt8).toNat : Int) = 35 from rfl] at this
    rw [this, Yip]; rfl
   have uB := Ya.mk cP
   clear cP
   go_wp2_with fail
   refine (Ynd.calls g _ _ _ _ _ _ _ _ _ 35 _ _ _ _ _ _ _ _ _ _ w0 _ HE.out HI8.out HB8.out uB.out).mono ?_
   rintro e w9 ⟨rfl, hix, hbx, hkx⟩
   have HI9 := Ya.mk hix
   have HB9 := Ya.mk hbx
   have HK9 := Ya.mk (HK8.out.trans hkx (.inl rfl))
   have HE9 := Ya.mk (HE.out.below hbx)
   clear hix hbx hkx
   cases hfo : Ypf (Ybb l1) with
   | none =>
    rw [hfo] at h7 h9
    simp only at h7 h9
    subst h7 h9
    clear hfo
    go_wp2
    go_end0
    exact ⟨rfl, HI9.out, HB9.out, HK9.out⟩
   | some fr =>
    rw [hfo] at h7 h9
    simp only at h7 h9
    have hr : Ygi (Ybb l1) = fr := by
     cases ha : Ybb l1 with
     | nil => rw [ha] at hfo; cases hfo
     | cons b t =>
      rw [ha] at hfo
      simp only [Ypf, Ygi, Ysh] at hfo ⊢
      split at hfo
      ·rw [if_pos (by assumption)]; exact Kr hfo
      ·cases hfo
    have hfl : fr.length ≤ 100000000 := by
     have oI : fr.length ≤ (Ybb l1).length := by
      cases ha : Ybb l1 with
      | nil => rw [ha] at hfo; cases hfo
      | cons b t => rw [← hr, ha]; simp only [Ygi, Ysh]; split <;> simp
     omega
    have HIy := Ya.mk HI9.out
    rw [hr] at HIy
    have hm : Yid.f (ofL fr) ⟨#[34, 60, 62, 96]⟩ = some r7 := by
     unfold Yid.f
     rw [if_pos Zha, ← h7]; rfl
    have HM := Ya.mk hm
    replace HI9 := HIy
    have HRr := Ya.mk hr
    clear hm hfo hr h7 HIy
    subst h9
    have hc9 := Yub HI9.out.1
    have hf9 := Ye HI9.out.1 8
    have hld := Ysb (HI9.out.set_8 true).1
    go_wp2_with fail
    clear hld
    obtain ⟨hbx, hkx⟩ := Ych (W2 := w9) HB9.out HK9.out HG.out 8 (.bool true)
    have aJY := Ya.mk (HI9.out.set_8 true)
    have aDN := Ya.mk hbx
    have aJZ := Ya.mk hkx
    clear hbx hkx hc9 hf9
    obtain ⟨qZ, hw⟩ : ∃ W, W = w9.setCell ⟨g, 8, none⟩ (.bool true) := ⟨_, rfl⟩
    rw [← hw] at aJY aDN aJZ ⊢
    clear hw
    refine (Yid.calls _ _ _ _ (HE.out.below aDN.out) HM.out).mono ?_
    rintro e mV ⟨rfl, hbx⟩
    have aFN := Ya.mk (aJY.out.below hbx)
    have aXm := Ya.mk (aDN.out.trans (hbx.mono aDN.out.size))
    have aXn := Ya.mk (KeepBut.below' aJZ.out hbx)
    clear hbx
    have aBu := Yvb aFN.out.1
    have aXo := Ye aFN.out.1 6
    go_wp2_with fail
    obtain ⟨hbx, hkx⟩ := Ych (W2 := mV) aXm.out aXn.out HG.out 6 (.string r7)
    have aKa := Ya.mk (aFN.out.set_6 r7)
    have aKb := Ya.mk hbx
    have aKc := Ya.mk hkx
    clear hbx hkx aBu aXo
    obtain ⟨uA, hw⟩ : ∃ W, W = mV.setCell ⟨g, 6, none⟩ (.string r7) := ⟨_, rfl⟩
    rw [← hw] at aKa aKb aKc ⊢
    clear hw
    go_end0
    exact ⟨rfl, by rw [HRr.out]; exact aKa.out, aKb.out, aKc.out⟩
 ·rw [if_neg hs] at h; cases h
end Go.Proofs.YtihaeeldgimdiaaGreatDoor.X
