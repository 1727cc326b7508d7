/- The parser's tail: the path, the query and the fragment. -/
import Derived.Test.YtnmglnglbdpjjaaGreatDoorUlWords
import Derived.Test.YtnmglnglbdpjjaaGreatDoorUlH3a
namespace Go.Proofs.YtnmglnglbdpjjaaGreatDoor.X
open Go.RowKit Go.Lib Go.Shelf Go.Yw.PrintWords Go.Yw.PrintLast Go.Yw.PrintMore
set_option linter.unusedVariables false
set_option linter.unusedSimpArgs false
def Yhg : List UInt8 := [34, 60, 62, 35, 39]
def Yug : List UInt8 := [34, 60, 62, 96]
def Ycb (any : List UInt8) (b : UInt8) : Bool := !any.contains b
def Yui (l : List UInt8) : List UInt8 := l.takeWhile (Ycb [63, 35])
def Yud (l : List UInt8) : List UInt8 := l.dropWhile (Ycb [63, 35])
def Ywe : List UInt8 → Option (List UInt8)
 | [] => none
 | b :: l => if b = 63 then some (l.takeWhile (Ycb [35])) else none
def Ygb : List UInt8 → List UInt8
 | [] => []
 | b :: l => if b = 63 then l.dropWhile (Ycb [35]) else b :: l
def Yok (c : UInt8) : List UInt8 → Bool
 | [] => false
 | b :: _ => b == c
def Ydi (c : UInt8) : List UInt8 → List UInt8
 | [] => []
 | b :: t => if b = c then t else b :: t
def Yif : List UInt8 → Option (List UInt8)
 | [] => none
 | b :: l => if b = 35 then some l else none
def Yoi (l : List UInt8) : List UInt8 := Ydi 35 l
theorem Yxt (l : List UInt8) : (Ywe l).isSome = Yok 63 l := by
 cases l with
 | nil => rfl
 | cons b t => simp only [Ywe, Yok]; split <;> simp_all
theorem Ysp (l : List UInt8) : (Yif l).isSome = Yok 35 l := by
 cases l with
 | nil => rfl
 | cons b t => simp only [Yif, Yok]; split <;> simp_all
theorem Yoo (s chars : ByteArray) : s.extract 0 (Ytg s chars) = ofL (s.data.toList.takeWhile (Ycb chars.data.toList)) ∧ s.extract (Ytg s chars) s.size = ofL (s.data.toList.dropWhile (Ycb chars.data.toList)) := by
 rw [Yfe, Yuc]
 have key : ∀ l : List UInt8, (if Lib.indexAny l chars.data.toList < 0 then l.length else (Lib.indexAny l chars.data.toList).toNat) = (l.takeWhile (Ycb chars.data.toList)).length := by
  intro l
  induction l with
  | nil => rfl
  | cons b l ih =>
   rw [Lib.indexAny]
   by_cases h : chars.data.toList.contains b = true
   ·rw [if_pos h, List.takeWhile_cons_of_neg (by simp only [Ycb, h]; decide)]; rfl
   ·rw [if_neg h, List.takeWhile_cons_of_pos (by simp only [Ycb, Bool.not_eq_true] at h ⊢; rw [h]; rfl)]
    simp only [List.length_cons]
    rw [← ih]
    have hg := Lib.indexAny_ge chars.data.toList l
    by_cases h2 : (Lib.indexAny l chars.data.toList == -1) = true
    ·have h5 := beq_iff_eq.1 h2
     rw [if_pos h2, if_pos Zda, if_pos Zk]
    ·have h4 : ¬ Lib.indexAny l chars.data.toList = -1 := fun e => h2 (beq_iff_eq.2 e)
     have h5 : ¬ Lib.indexAny l chars.data.toList < 0 := by omega
     have h6 : ¬ Lib.indexAny l chars.data.toList + 1 < 0 := by omega
     rw [if_neg h2, if_neg h6, if_neg h5]; omega
 have h1 : Ytg s chars = (s.data.toList.takeWhile (Ycb chars.data.toList)).length := by
  rw [← key]; unfold Ytg; rw [Lib.size_eq]
 have h2 := List.takeWhile_append_dropWhile (p := Ycb chars.data.toList) (l := s.data.toList)
 rw [h1]
 constructor
 ·have := List.take_left (l₁ := s.data.toList.takeWhile (Ycb chars.data.toList)) (l₂ := s.data.toList.dropWhile (Ycb chars.data.toList))
  rw [h2] at this
  rw [this]
 ·have := List.drop_left (l₁ := s.data.toList.takeWhile (Ycb chars.data.toList)) (l₂ := s.data.toList.dropWhile (Ycb chars.data.toList))
  rw [h2] at this
  rw [this]
theorem take_f (s0 s1 s2 : ByteArray) (s3 : Int) (s4 s5 s6 : ByteArray) (s7 s8 : Bool) (any : ByteArray) (ha : Yph any.data.toList = true) (hs : s0.size ≤ 140737488355328) :
  Yfc.f s0 s1 s2 s3 s4 s5 s6 s7 s8 any = some (ofL (s0.data.toList.takeWhile (Ycb any.data.toList)), ofL (s0.data.toList.dropWhile (Ycb any.data.toList)), s1, s2, s3, s4, s5, s6, s7, s8) := by
 unfold Yfc.f
 rw [if_pos ⟨ha, hs⟩, (Yoo s0 any).1, (Yoo s0 any).2]
theorem has_f (l : List UInt8) (s1 s2 : ByteArray) (s3 : Int) (s4 s5 s6 : ByteArray) (s7 s8 : Bool) (c : UInt8) (hs : l.length ≤ 140737488355328) :
  Yle.f (ofL l) s1 s2 s3 s4 s5 s6 s7 s8 (c.toNat : Int) = some (Yok c l, ofL (Ydi c l), s1, s2, s3, s4, s5, s6, s7, s8) := by
 unfold Yle.f
 rw [if_pos (by rw [Yx]; exact hs)]
 cases l with
 | nil => rfl
 | cons b t =>
  have hb : bt (ofL (b :: t)) 0 = (b.toNat : Int) := rfl
  have hsz : (ofL (b :: t)).size = t.length + 1 := by rw [Yx]; rfl
  simp only [Yok, Ydi]
  by_cases h : b = c
  ·rw [if_pos h, if_pos ⟨Zk, by rw [hb, h]⟩, Yuc, h]; simp [Yfb]
  ·rw [if_neg h, if_neg]
   ·simp [h]
   ·rintro ⟨_, h2⟩
    rw [hb] at h2
    exact h (UInt8.toNat_inj.1 Zk)
def Ysd.f (s0 s1 s2 : ByteArray) (s3 : Int) (s4 s5 s6 : ByteArray) (s7 s8 : Bool) : Option (ByteArray × ByteArray × ByteArray × Int × ByteArray × ByteArray × ByteArray × Bool × Bool) :=
 if s0.size ≤ 100000000 then
  some (ofL (Yoi (Ygb (Yud s0.data.toList))), s1, s2, s3, ofL (Yef (Yui s0.data.toList)),
   (match Ywe (Yud s0.data.toList) with | some q => ofL (Yoc Yhg q) | none => s5),
   (match Yif (Ygb (Yud s0.data.toList)) with | some q => ofL (Yoc Yug q) | none => s6),
   (match Ywe (Yud s0.data.toList) with | some _ => true | none => s7),
   (match Yif (Ygb (Yud s0.data.toList)) with | some _ => true | none => s8))
 else none
theorem Yse (p : UInt8 → Bool) (l : List UInt8) : (l.dropWhile p).length ≤ l.length := (List.dropWhile_sublist _).length_le
theorem Ype (p : UInt8 → Bool) (l : List UInt8) : (l.takeWhile p).length ≤ l.length := (List.takeWhile_sublist _).length_le
theorem Ysh {w0 w w1 W2 : World} {g : Nat} (hB : Below w0.heap.size w0 w1) (hK : KeepBut w w1 g none) (hg : w0.heap.size ≤ g) (j : Nat) (u : Value) :
  Below w0.heap.size w0 (w1.setCell ⟨g, j, none⟩ u) ∧ KeepBut w (w1.setCell ⟨g, j, none⟩ u) g none := ⟨Yg hB hg, hK.set_ j u⟩
set_option maxHeartbeats 8000000 in
set_option maxRecDepth 100000 in
theorem Ysd.calls (g : Nat) (s0 s1 s2 : ByteArray) (s3 : Int) (s4 s5 s6 : ByteArray) (s7 s8 : Bool) (r1 r2 r3 : ByteArray) (r4 : Int) (r5 r6 r7 : ByteArray) (r8 r9 : Bool) (w0 w : World) (hE : EnvOk w0) (hI : IsS53 w0 w g s0 s1 s2 s3 s4 s5 s6 s7 s8) (hB : Below w0.heap.size w0 w) (h : Ysd.f s0 s1 s2 s3 s4 s5 s6 s7 s8 = some (r1, r2, r3, r4, r5, r6, r7, r8, r9)) :
  Calls Tryz.prog 45 #[.pointer (some ⟨g, 0, none⟩)] w fun e w' => e = .returned (.tuple #[]) ∧ IsS53 w0 w' g r1 r2 r3 r4 r5 r6 r7 r8 r9 ∧ Below w0.heap.size w0 w' ∧ KeepBut w w' g none := by
 unfold Ysd.f at h
 by_cases hs : s0.size ≤ 100000000
 ·rw [if_pos hs] at h
  simp only [Option.some.injEq, Prod.mk.injEq] at h
  obtain ⟨rfl, rfl, rfl, rfl, h5, h6, h7, h8, h9⟩ := h
  have HE := Ya.mk hE
  have HI := Ya.mk hI
  have HB := Ya.mk hB
  have HG := Ya.mk hI.ge
  have ht1 : Yfc.f s0 s1 s2 s3 s4 s5 s6 s7 s8 ⟨#[63, 35]⟩ = some (ofL (Yui s0.data.toList), ofL (Yud s0.data.toList), s1, s2, s3, s4, s5, s6, s7, s8) :=
   take_f s0 s1 s2 s3 s4 s5 s6 s7 s8 ⟨#[63, 35]⟩ rfl Zk
  have HT1 := Ya.mk ht1
  have hp : Ydj.f (ofL (Yui s0.data.toList)) = some r5 := by
   unfold Ydj.f
   rw [if_pos (by rw [Yx]; have := Ype (Ycb [63, 35]) s0.data.toList; rw [← Lib.size_eq] at this; unfold Yui; omega), Yfb, h5]
  have HP := Ya.mk hp
  have jU : (Yud s0.data.toList).length ≤ 100000000 := by
   have := Yse (Ycb [63, 35]) s0.data.toList; rw [← Lib.size_eq] at this; unfold Yud; omega
  obtain ⟨l1, hl1e⟩ : ∃ l1, l1 = Yud s0.data.toList := ⟨_, rfl⟩
  rw [← hl1e] at HT1 h6 h7 h8 h9 jU ⊢
  have hl3 : (Ygb l1).length ≤ 100000000 := by
   unfold Ygb
   cases l1 with
   | nil => simp
   | cons b t =>
    simp only
    split
    ·have := Yse (Ycb [35]) t; simp only [List.length_cons] at jU; omega
    ·exact jU
  clear hE hI hB ht1 hp hl1e h5
  go_enter Tryz.func45, Tryz.ntmps45
  go_wp2_with fail
  refine (Yfc.calls g s0 s1 s2 s3 s4 s5 s6 s7 s8 ⟨#[63, 35]⟩ _ _ _ _ _ _ _ _ _ _ w0 _ HE.out HI.out HB.out HT1.out).mono ?_
  rintro e w1 ⟨rfl, hi1, lM, uM⟩
  have hZ := Ya.mk lM
  have uR := Ya.mk hi1
  have cU := Ya.mk uM
  have lH := Ya.mk (HE.out.below lM)
  clear hi1 lM uM
  go_wp2_with fail
  refine (Ydj.calls _ _ _ lH.out HP.out).mono ?_
  rintro e w2 ⟨rfl, bU⟩
  have HI2 := Ya.mk (uR.out.below bU)
  have eK := Ya.mk (hZ.out.trans (bU.mono hZ.out.size))
  have jT := Ya.mk (KeepBut.below' cU.out bU)
  have cV := Ygc HI2.out.1
  have uO := Ye HI2.out.1 4
  clear bU
  go_wp2_with fail
  obtain ⟨hbx, hkx⟩ := Ysh (W2 := w2) eK.out jT.out HG.out 4 (.string r5)
  have nY := Ya.mk (HI2.out.set_4 r5)
  have eE := Ya.mk hbx
  have sH := Ya.mk hkx
  clear hbx hkx cV uO
  obtain ⟨w3, hw⟩ : ∃ W, W = w2.setCell ⟨g, 4, none⟩ (.string r5) := ⟨_, rfl⟩
  rw [← hw] at nY eE sH ⊢
  clear hw
  have hq : Yle.f (ofL l1) s1 s2 s3 r5 s5 s6 s7 s8 63 = some ((Ywe l1).isSome, ofL (Ydi 63 l1), s1, s2, s3, r5, s5, s6, s7, s8) := by
   have := has_f l1 s1 s2 s3 r5 s5 s6 s7 s8 63 Zk
   rw [show ((63 : UInt8).toNat : Int) = 63 from rfl] at this
   rw [this, Yxt]
  have HQ := Ya.mk hq
  clear hq
  go_wp2_with fail
  refine (Yle.calls g _ _ _ _ _ _ _ _ _ 63 _ _ _ _ _ _ _ _ _ _ w0 _ HE.out nY.out eE.out HQ.out).mono ?_
  rintro e w4 ⟨rfl, hix, hbx, hkx⟩
  have uT := Ya.mk hix
  have dL := Ya.mk hbx
  have HK4 := Ya.mk (sH.out.trans hkx (.inl rfl))
  have HE4 := Ya.mk (HE.out.below hbx)
  clear hix hbx hkx
  cases hqo : Ywe l1 with
  | none =>
   rw [hqo] at h6 h8
   simp only at h6 h8
   have ha : Ydi 63 l1 = Ygb l1 := by
    cases l1 with
    | nil => rfl
    | cons b t =>
     simp only [Ywe, Ygb, Ydi] at hqo ⊢
     split at hqo
     ·cases hqo
     ·rw [if_neg (by assumption), if_neg (by assumption)]
   rw [ha] at uT
   clear ha hqo
   subst h6 h8
   have cN : Yle.f (ofL (Ygb l1)) s1 s2 s3 r5 s5 s6 s7 s8 35 = some ((Yif (Ygb l1)).isSome, ofL (Yoi (Ygb l1)), s1, s2, s3, r5, s5, s6, s7, s8) := by
    have := has_f (Ygb l1) s1 s2 s3 r5 s5 s6 s7 s8 35 Zk
    rw [show ((35 : UInt8).toNat : Int) = 35 from rfl] at this
    rw [this, Ysp]; rfl
   have zN := Ya.mk cN
   clear cN
   go_wp2_with fail
   refine (Yle.calls g _ _ _ _ _ _ _ _ _ 35 _ _ _ _ _ _ _ _ _ _ w0 _ HE.out uT.out dL.out zN.out).mono ?_
   rintro e w5 ⟨rfl, hix, hbx, hkx⟩
   have nZ := Ya.mk hix
   have cK := Ya.mk hbx
   have HK5 := Ya.mk (HK4.out.trans hkx (.inl rfl))
   have HE5 := Ya.mk (HE.out.below hbx)
   clear hix hbx hkx
   cases hfo : Yif (Ygb l1) with
   | none =>
    rw [hfo] at h7 h9
    simp only at h7 h9
    subst h7 h9
    clear hfo
    go_wp2
    go_end0
    exact ⟨rfl, nZ.out, cK.out, HK5.out⟩
   | some fr =>
    rw [hfo] at h7 h9
    simp only at h7 h9
    have hr : Yoi (Ygb l1) = fr := by
     cases ha : Ygb l1 with
     | nil => rw [ha] at hfo; cases hfo
     | cons b t =>
      rw [ha] at hfo
      simp only [Yif, Yoi, Ydi] at hfo ⊢
      split at hfo
      ·rw [if_pos (by assumption)]; exact Option.some.inj hfo
      ·cases hfo
    have hfl : fr.length ≤ 100000000 := by
     have h10 : fr.length ≤ (Ygb l1).length := by
      cases ha : Ygb l1 with
      | nil => rw [ha] at hfo; cases hfo
      | cons b t => rw [← hr, ha]; simp only [Yoi, Ydi]; split <;> simp
     omega
    have HIy := Ya.mk nZ.out
    rw [hr] at HIy
    have hm : Yhe.f (ofL fr) ⟨#[34, 60, 62, 96]⟩ = some r7 := by
     unfold Yhe.f
     rw [if_pos Zba, ← h7]; rfl
    have HM := Ya.mk hm
    replace nZ := HIy
    have HRr := Ya.mk hr
    clear hm hfo hr h7 HIy
    subst h9
    have cY := Yec nZ.out.1
    have hf5 := Ye nZ.out.1 8
    have hld := Ydc (nZ.out.set_8 true).1
    go_wp2_with fail
    clear hld
    obtain ⟨hbx, hkx⟩ := Ysh (W2 := w5) cK.out HK5.out HG.out 8 (.bool true)
    have zO := Ya.mk (nZ.out.set_8 true)
    have jD := Ya.mk hbx
    have HK6 := Ya.mk hkx
    clear hbx hkx cY hf5
    obtain ⟨w6, hw⟩ : ∃ W, W = w5.setCell ⟨g, 8, none⟩ (.bool true) := ⟨_, rfl⟩
    rw [← hw] at zO jD HK6 ⊢
    clear hw
    refine (Yhe.calls _ _ _ _ (HE.out.below jD.out) HM.out).mono ?_
    rintro e w7 ⟨rfl, hbx⟩
    have HI7 := Ya.mk (zO.out.below hbx)
    have HB7 := Ya.mk (jD.out.trans (hbx.mono jD.out.size))
    have HK7 := Ya.mk (KeepBut.below' HK6.out hbx)
    clear hbx
    have cX := Ycc HI7.out.1
    have hf7 := Ye HI7.out.1 6
    go_wp2_with fail
    obtain ⟨hbx, hkx⟩ := Ysh (W2 := w7) HB7.out HK7.out HG.out 6 (.string r7)
    have HI8 := Ya.mk (HI7.out.set_6 r7)
    have HB8 := Ya.mk hbx
    have HK8 := Ya.mk hkx
    clear hbx hkx cX hf7
    obtain ⟨w8, hw⟩ : ∃ W, W = w7.setCell ⟨g, 6, none⟩ (.string r7) := ⟨_, rfl⟩
    rw [← hw] at HI8 HB8 HK8 ⊢
    clear hw
    go_end0
    exact ⟨rfl, by rw [HRr.out]; exact HI8.out, HB8.out, HK8.out⟩
  | some qu =>
   rw [hqo] at h6 h8
   simp only at h6 h8
   obtain ⟨l2, hl2, hqu, haf⟩ : ∃ l2, Ydi 63 l1 = l2 ∧ l2.takeWhile (Ycb [35]) = qu ∧ Ygb l1 = l2.dropWhile (Ycb [35]) ∧ l2.length ≤ 100000000 := by
    cases l1 with
    | nil => cases hqo
    | cons b t =>
     simp only [Ywe, Ygb, Ydi] at hqo ⊢
     split at hqo
     ·refine ⟨t, by rw [if_pos (by assumption)], Option.some.inj hqo, by rw [if_pos (by assumption)], ?_⟩
      simp only [List.length_cons] at jU; omega
     ·cases hqo
   obtain ⟨haf, hl2l⟩ := haf
   rw [hl2] at uT
   have ht2 : Yfc.f (ofL l2) s1 s2 s3 r5 s5 s6 true s8 ⟨#[35]⟩ = some (ofL qu, ofL (Ygb l1), s1, s2, s3, r5, s5, s6, true, s8) := by
    rw [take_f _ _ _ _ _ _ _ _ _ ⟨#[35]⟩ rfl Zba, haf, ← hqu]; rfl
   have eD := Ya.mk ht2
   have hm0 : Yhe.f (ofL qu) ⟨#[34, 60, 62, 35, 39]⟩ = some r6 := by
    unfold Yhe.f
    rw [if_pos (by rw [Yx, ← hqu]; have := Ype (Ycb [35]) l2; omega), ← h6]; rfl
   have HM0 := Ya.mk hm0
   clear ht2 hm0 hl2 haf hqu hqo h6
   subst h8
   have cZ := Yhc uT.out.1
   have hf4 := Ye uT.out.1 7
   go_wp2_with fail
   obtain ⟨hbx, hkx⟩ := Ysh (W2 := w4) dL.out HK4.out HG.out 7 (.bool true)
   have nZ := Ya.mk (uT.out.set_7 true)
   have cK := Ya.mk hbx
   have HK5 := Ya.mk hkx
   clear hbx hkx cZ hf4
   obtain ⟨w5, hw⟩ : ∃ W, W = w4.setCell ⟨g, 7, none⟩ (.bool true) := ⟨_, rfl⟩
   rw [← hw] at nZ cK HK5 ⊢
   clear hw
   go_wp2_with fail
   refine (Yfc.calls g _ _ _ _ _ _ _ _ _ ⟨#[35]⟩ _ _ _ _ _ _ _ _ _ _ w0 _ HE.out nZ.out cK.out eD.out).mono ?_
   rintro e w6 ⟨rfl, hix, hbx, hkx⟩
   have zO := Ya.mk hix
   have jD := Ya.mk hbx
   have HK6 := Ya.mk (HK5.out.trans hkx (.inl rfl))
   have HE6 := Ya.mk (HE.out.below hbx)
   clear hix hbx hkx
   go_wp2_with fail
   refine (Yhe.calls _ _ _ _ HE6.out HM0.out).mono ?_
   rintro e w7 ⟨rfl, hbx⟩
   have HI7 := Ya.mk (zO.out.below hbx)
   have HB7 := Ya.mk (jD.out.trans (hbx.mono jD.out.size))
   have HK7 := Ya.mk (KeepBut.below' HK6.out hbx)
   clear hbx
   have cX := Yic HI7.out.1
   have hf7 := Ye HI7.out.1 5
   go_wp2_with fail
   obtain ⟨hbx, hkx⟩ := Ysh (W2 := w7) HB7.out HK7.out HG.out 5 (.string r6)
   have HI8 := Ya.mk (HI7.out.set_5 r6)
   have HB8 := Ya.mk hbx
   have HK8 := Ya.mk hkx
   clear hbx hkx cX hf7
   obtain ⟨w8, hw⟩ : ∃ W, W = w7.setCell ⟨g, 5, none⟩ (.string r6) := ⟨_, rfl⟩
   rw [← hw] at HI8 HB8 HK8 ⊢
   clear hw
   have cN : Yle.f (ofL (Ygb l1)) s1 s2 s3 r5 r6 s6 true s8 35 = some ((Yif (Ygb l1)).isSome, ofL (Yoi (Ygb l1)), s1, s2, s3, r5, r6, s6, true, s8) := by
    have := has_f (Ygb l1) s1 s2 s3 r5 r6 s6 true s8 35 Zk
    rw [show ((35 : UInt8).toNat : Int) = 35 from rfl] at this
    rw [this, Ysp]; rfl
   have zN := Ya.mk cN
   clear cN
   go_wp2_with fail
   refine (Yle.calls g _ _ _ _ _ _ _ _ _ 35 _ _ _ _ _ _ _ _ _ _ w0 _ HE.out HI8.out HB8.out zN.out).mono ?_
   rintro e w9 ⟨rfl, hix, hbx, hkx⟩
   have HI9 := Ya.mk hix
   have HB9 := Ya.mk hbx
   have HK9 := Ya.mk (HK8.out.trans hkx (.inl rfl))
   have HE9 := Ya.mk (HE.out.below hbx)
   clear hix hbx hkx
   cases hfo : Yif (Ygb l1) with
   | none =>
    rw [hfo] at h7 h9
    simp only at h7 h9
    subst h7 h9
    clear hfo
    go_wp2
    go_end0
    exact ⟨rfl, HI9.out, HB9.out, HK9.out⟩
   | some fr =>
    rw [hfo] at h7 h9
    simp only at h7 h9
    have hr : Yoi (Ygb l1) = fr := by
     cases ha : Ygb l1 with
     | nil => rw [ha] at hfo; cases hfo
     | cons b t =>
      rw [ha] at hfo
      simp only [Yif, Yoi, Ydi] at hfo ⊢
      split at hfo
      ·rw [if_pos (by assumption)]; exact Option.some.inj hfo
      ·cases hfo
    have hfl : fr.length ≤ 100000000 := by
     have h10 : fr.length ≤ (Ygb l1).length := by
      cases ha : Ygb l1 with
      | nil => rw [ha] at hfo; cases hfo
      | cons b t => rw [← hr, ha]; simp only [Yoi, Ydi]; split <;> simp
     omega
    have HIy := Ya.mk HI9.out
    rw [hr] at HIy
    have hm : Yhe.f (ofL fr) ⟨#[34, 60, 62, 96]⟩ = some r7 := by
     unfold Yhe.f
     rw [if_pos Zba, ← h7]; rfl
    have HM := Ya.mk hm
    replace HI9 := HIy
    have HRr := Ya.mk hr
    clear hm hfo hr h7 HIy
    subst h9
    have hc9 := Yec HI9.out.1
    have hf9 := Ye HI9.out.1 8
    have hld := Ydc (HI9.out.set_8 true).1
    go_wp2_with fail
    clear hld
    obtain ⟨hbx, hkx⟩ := Ysh (W2 := w9) HB9.out HK9.out HG.out 8 (.bool true)
    have aIA := Ya.mk (HI9.out.set_8 true)
    have aDI := Ya.mk hbx
    have aIB := Ya.mk hkx
    clear hbx hkx hc9 hf9
    obtain ⟨pJ, hw⟩ : ∃ W, W = w9.setCell ⟨g, 8, none⟩ (.bool true) := ⟨_, rfl⟩
    rw [← hw] at aIA aDI aIB ⊢
    clear hw
    refine (Yhe.calls _ _ _ _ (HE.out.below aDI.out) HM.out).mono ?_
    rintro e w11 ⟨rfl, hbx⟩
    have aFI := Ya.mk (aIA.out.below hbx)
    have aVn := Ya.mk (aDI.out.trans (hbx.mono aDI.out.size))
    have aVo := Ya.mk (KeepBut.below' aIB.out hbx)
    clear hbx
    have aVp := Ycc aFI.out.1
    have aVq := Ye aFI.out.1 6
    go_wp2_with fail
    obtain ⟨hbx, hkx⟩ := Ysh (W2 := w11) aVn.out aVo.out HG.out 6 (.string r7)
    have aIC := Ya.mk (aFI.out.set_6 r7)
    have aID := Ya.mk hbx
    have aIE := Ya.mk hkx
    clear hbx hkx aVp aVq
    obtain ⟨uN, hw⟩ : ∃ W, W = w11.setCell ⟨g, 6, none⟩ (.string r7) := ⟨_, rfl⟩
    rw [← hw] at aIC aID aIE ⊢
    clear hw
    go_end0
    exact ⟨rfl, by rw [HRr.out]; exact aIC.out, aID.out, aIE.out⟩
 ·rw [if_neg hs] at h; cases h
end Go.Proofs.YtnmglnglbdpjjaaGreatDoor.X
