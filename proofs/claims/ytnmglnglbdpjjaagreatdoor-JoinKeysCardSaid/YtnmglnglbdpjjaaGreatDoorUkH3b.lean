/- The parser's tail: the path, the query and the fragment. -/
import Derived.Test.YtnmglnglbdpjjaaGreatDoorUkWords
import Derived.Test.YtnmglnglbdpjjaaGreatDoorUkH3a
namespace Go.Proofs.YtnmglnglbdpjjaaGreatDoor.X
open Go.RowKit Go.Lib Go.Shelf Go.Yw.PrintWords Go.Yw.PrintLast Go.Yw.PrintMore
set_option linter.unusedVariables false
set_option linter.unusedSimpArgs false
def Yog : List UInt8 := [34, 60, 62, 35, 39]
def Yzg : List UInt8 := [34, 60, 62, 96]
def Ybb (any : List UInt8) (b : UInt8) : Bool := !any.contains b
def Ywi (l : List UInt8) : List UInt8 := l.takeWhile (Ybb [63, 35])
def Yfe (l : List UInt8) : List UInt8 := l.dropWhile (Ybb [63, 35])
def Ybf : List UInt8 → Option (List UInt8)
 | [] => none
 | b :: l => if b = 63 then some (l.takeWhile (Ybb [35])) else none
def Yfb : List UInt8 → List UInt8
 | [] => []
 | b :: l => if b = 63 then l.dropWhile (Ybb [35]) else b :: l
def Yok (c : UInt8) : List UInt8 → Bool
 | [] => false
 | b :: _ => b == c
def Ybi (c : UInt8) : List UInt8 → List UInt8
 | [] => []
 | b :: t => if b = c then t else b :: t
def Yrf : List UInt8 → Option (List UInt8)
 | [] => none
 | b :: l => if b = 35 then some l else none
def Yni (l : List UInt8) : List UInt8 := Ybi 35 l
theorem Ydt (l : List UInt8) : (Ybf l).isSome = Yok 63 l := by
 cases l with
 | nil => rfl
 | cons b t => simp only [Ybf, Yok]; split <;> simp_all
theorem Yvp (l : List UInt8) : (Yrf l).isSome = Yok 35 l := by
 cases l with
 | nil => rfl
 | cons b t => simp only [Yrf, Yok]; split <;> simp_all
theorem Yyo (s chars : ByteArray) : s.extract 0 (Ych s chars) = ofL (s.data.toList.takeWhile (Ybb chars.data.toList)) ∧ s.extract (Ych s chars) s.size = ofL (s.data.toList.dropWhile (Ybb chars.data.toList)) := by
 rw [Yye, Yyc]
 have key : ∀ l : List UInt8, (if Lib.indexAny l chars.data.toList < 0 then l.length else (Lib.indexAny l chars.data.toList).toNat) = (l.takeWhile (Ybb chars.data.toList)).length := by
  intro l
  induction l with
  | nil => rfl
  | cons b l ih =>
   rw [Lib.indexAny]
   by_cases h : chars.data.toList.contains b = true
   ·rw [if_pos h, List.takeWhile_cons_of_neg (by simp only [Ybb, h]; decide)]; rfl
   ·rw [if_neg h, List.takeWhile_cons_of_pos (by simp only [Ybb, Bool.not_eq_true] at h ⊢; rw [h]; rfl)]
    simp only [List.length_cons]
    rw [← ih]
    have hg := Lib.indexAny_ge chars.data.toList l
    by_cases h2 : (Lib.indexAny l chars.data.toList == -1) = true
    ·have h5 := beq_iff_eq.1 h2
     rw [if_pos h2, if_pos Zea, if_pos Zl]
    ·have h4 : ¬ Lib.indexAny l chars.data.toList = -1 := fun e => h2 (beq_iff_eq.2 e)
     have h5 : ¬ Lib.indexAny l chars.data.toList < 0 := by omega
     have h6 : ¬ Lib.indexAny l chars.data.toList + 1 < 0 := by omega
     rw [if_neg h2, if_neg h6, if_neg h5]; omega
 have h1 : Ych s chars = (s.data.toList.takeWhile (Ybb chars.data.toList)).length := by
  rw [← key]; unfold Ych; rw [Lib.size_eq]
 have h2 := List.takeWhile_append_dropWhile (p := Ybb chars.data.toList) (l := s.data.toList)
 rw [h1]
 constructor
 ·have := List.take_left (l₁ := s.data.toList.takeWhile (Ybb chars.data.toList)) (l₂ := s.data.toList.dropWhile (Ybb chars.data.toList))
  rw [h2] at this
  rw [this]
 ·have := List.drop_left (l₁ := s.data.toList.takeWhile (Ybb chars.data.toList)) (l₂ := s.data.toList.dropWhile (Ybb chars.data.toList))
  rw [h2] at this
  rw [this]
theorem take_f (s0 s1 s2 : ByteArray) (s3 : Int) (s4 s5 s6 : ByteArray) (s7 s8 : Bool) (any : ByteArray) (ha : Ysh any.data.toList = true) (hs : s0.size ≤ 140737488355328) :
  Yvb.f s0 s1 s2 s3 s4 s5 s6 s7 s8 any = some (ofL (s0.data.toList.takeWhile (Ybb any.data.toList)), ofL (s0.data.toList.dropWhile (Ybb any.data.toList)), s1, s2, s3, s4, s5, s6, s7, s8) := by
 unfold Yvb.f
 rw [if_pos ⟨ha, hs⟩, (Yyo s0 any).1, (Yyo s0 any).2]
theorem has_f (l : List UInt8) (s1 s2 : ByteArray) (s3 : Int) (s4 s5 s6 : ByteArray) (s7 s8 : Bool) (c : UInt8) (hs : l.length ≤ 140737488355328) :
  Yqe.f (ofL l) s1 s2 s3 s4 s5 s6 s7 s8 (c.toNat : Int) = some (Yok c l, ofL (Ybi c l), s1, s2, s3, s4, s5, s6, s7, s8) := by
 unfold Yqe.f
 rw [if_pos (by rw [Yea]; exact hs)]
 cases l with
 | nil => rfl
 | cons b t =>
  have hb : bt (ofL (b :: t)) 0 = (b.toNat : Int) := rfl
  have hsz : (ofL (b :: t)).size = t.length + 1 := by rw [Yea]; rfl
  simp only [Yok, Ybi]
  by_cases h : b = c
  ·rw [if_pos h, if_pos ⟨Zl, by rw [hb, h]⟩, Yyc, h]; simp [Ygb]
  ·rw [if_neg h, if_neg]
   ·simp [h]
   ·rintro ⟨_, h2⟩
    rw [hb] at h2
    exact h (UInt8.toNat_inj.1 Zl)
def Ytd.f (s0 s1 s2 : ByteArray) (s3 : Int) (s4 s5 s6 : ByteArray) (s7 s8 : Bool) : Option (ByteArray × ByteArray × ByteArray × Int × ByteArray × ByteArray × ByteArray × Bool × Bool) :=
 if s0.size ≤ 100000000 then
  some (ofL (Yni (Yfb (Yfe s0.data.toList))), s1, s2, s3, ofL (Ydf (Ywi s0.data.toList)),
   (match Ybf (Yfe s0.data.toList) with | some q => ofL (Yoc Yog q) | none => s5),
   (match Yrf (Yfb (Yfe s0.data.toList)) with | some q => ofL (Yoc Yzg q) | none => s6),
   (match Ybf (Yfe s0.data.toList) with | some _ => true | none => s7),
   (match Yrf (Yfb (Yfe s0.data.toList)) with | some _ => true | none => s8))
 else none
theorem Yue (p : UInt8 → Bool) (l : List UInt8) : (l.dropWhile p).length ≤ l.length := (List.dropWhile_sublist _).length_le
theorem Yxe (p : UInt8 → Bool) (l : List UInt8) : (l.takeWhile p).length ≤ l.length := (List.takeWhile_sublist _).length_le
theorem Ywh {w0 w w1 W2 : World} {g : Nat} (hB : Below w0.heap.size w0 w1) (hK : KeepBut w w1 g none) (hg : w0.heap.size ≤ g) (j : Nat) (u : Value) :
  Below w0.heap.size w0 (w1.setCell ⟨g, j, none⟩ u) ∧ KeepBut w (w1.setCell ⟨g, j, none⟩ u) g none := ⟨Yg hB hg, hK.set_ j u⟩
set_option maxHeartbeats 8000000 in
set_option maxRecDepth 100000 in
theorem Ytd.calls (g : Nat) (s0 s1 s2 : ByteArray) (s3 : Int) (s4 s5 s6 : ByteArray) (s7 s8 : Bool) (r1 r2 r3 : ByteArray) (r4 : Int) (r5 r6 r7 : ByteArray) (r8 r9 : Bool) (w0 w : World) (hE : EnvOk w0) (hI : IsS53 w0 w g s0 s1 s2 s3 s4 s5 s6 s7 s8) (hB : Below w0.heap.size w0 w) (h : Ytd.f s0 s1 s2 s3 s4 s5 s6 s7 s8 = some (r1, r2, r3, r4, r5, r6, r7, r8, r9)) :
  Calls Tryz.prog 45 #[.pointer (some ⟨g, 0, none⟩)] w fun e w' => e = .returned (.tuple #[]) ∧ IsS53 w0 w' g r1 r2 r3 r4 r5 r6 r7 r8 r9 ∧ Below w0.heap.size w0 w' ∧ KeepBut w w' g none := by
 unfold Ytd.f at h
 by_cases hs : s0.size ≤ 100000000
 ·rw [if_pos hs] at h
  simp only [Option.some.injEq, Prod.mk.injEq] at h
  obtain ⟨rfl, rfl, rfl, rfl, h5, h6, h7, h8, h9⟩ := h
  have HE := Ya.mk hE
  have HI := Ya.mk hI
  have HB := Ya.mk hB
  have HG := Ya.mk hI.ge
  have ht1 : Yvb.f s0 s1 s2 s3 s4 s5 s6 s7 s8 ⟨#[63, 35]⟩ = some (ofL (Ywi s0.data.toList), ofL (Yfe s0.data.toList), s1, s2, s3, s4, s5, s6, s7, s8) :=
   take_f s0 s1 s2 s3 s4 s5 s6 s7 s8 ⟨#[63, 35]⟩ rfl Zl
  have HT1 := Ya.mk ht1
  have hp : Ydj.f (ofL (Ywi s0.data.toList)) = some r5 := by
   unfold Ydj.f
   rw [if_pos (by rw [Yea]; have := Yxe (Ybb [63, 35]) s0.data.toList; rw [← Lib.size_eq] at this; unfold Ywi; omega), Ygb, h5]
  have HP := Ya.mk hp
  have lB : (Yfe s0.data.toList).length ≤ 100000000 := by
   have := Yue (Ybb [63, 35]) s0.data.toList; rw [← Lib.size_eq] at this; unfold Yfe; omega
  obtain ⟨l1, hl1e⟩ : ∃ l1, l1 = Yfe s0.data.toList := ⟨_, rfl⟩
  rw [← hl1e] at HT1 h6 h7 h8 h9 lB ⊢
  have hl3 : (Yfb l1).length ≤ 100000000 := by
   unfold Yfb
   cases l1 with
   | nil => simp
   | cons b t =>
    simp only
    split
    ·have := Yue (Ybb [35]) t; simp only [List.length_cons] at lB; omega
    ·exact lB
  clear hE hI hB ht1 hp hl1e h5
  go_enter Tryz.func45, Tryz.ntmps45
  go_wp2_with fail
  refine (Yvb.calls g s0 s1 s2 s3 s4 s5 s6 s7 s8 ⟨#[63, 35]⟩ _ _ _ _ _ _ _ _ _ _ w0 _ HE.out HI.out HB.out HT1.out).mono ?_
  rintro e w1 ⟨rfl, hi1, lW, vF⟩
  have iE := Ya.mk lW
  have vK := Ya.mk hi1
  have dD := Ya.mk vF
  have lR := Ya.mk (HE.out.below lW)
  clear hi1 lW vF
  go_wp2_with fail
  refine (Ydj.calls _ _ _ lR.out HP.out).mono ?_
  rintro e w2 ⟨rfl, cC⟩
  have HI2 := Ya.mk (vK.out.below cC)
  have eM := Ya.mk (iE.out.trans (cC.mono iE.out.size))
  have kB := Ya.mk (KeepBut.below' dD.out cC)
  have bO := Yac HI2.out.1
  have sZ := Ye HI2.out.1 4
  clear cC
  go_wp2_with fail
  obtain ⟨hbx, hkx⟩ := Ywh (W2 := w2) eM.out kB.out HG.out 4 (.string r5)
  have oJ := Ya.mk (HI2.out.set_4 r5)
  have eG := Ya.mk hbx
  have sW := Ya.mk hkx
  clear hbx hkx bO sZ
  obtain ⟨w3, hw⟩ : ∃ W, W = w2.setCell ⟨g, 4, none⟩ (.string r5) := ⟨_, rfl⟩
  rw [← hw] at oJ eG sW ⊢
  clear hw
  have hq : Yqe.f (ofL l1) s1 s2 s3 r5 s5 s6 s7 s8 63 = some ((Ybf l1).isSome, ofL (Ybi 63 l1), s1, s2, s3, r5, s5, s6, s7, s8) := by
   have := has_f l1 s1 s2 s3 r5 s5 s6 s7 s8 63 Zl
   rw [show ((63 : UInt8).toNat : Int) = 63 from rfl] at this
   rw [this, Ydt]
  have HQ := Ya.mk hq
  clear hq
  go_wp2_with fail
  refine (Yqe.calls g _ _ _ _ _ _ _ _ _ 63 _ _ _ _ _ _ _ _ _ _ w0 _ HE.out oJ.out eG.out HQ.out).mono ?_
  rintro e w4 ⟨rfl, hix, hbx, hkx⟩
  have vM := Ya.mk hix
  have dO := Ya.mk hbx
  have HK4 := Ya.mk (sW.out.trans hkx (.inl rfl))
  have HE4 := Ya.mk (HE.out.below hbx)
  clear hix hbx hkx
  cases hqo : Ybf l1 with
  | none =>
   rw [hqo] at h6 h8
   simp only at h6 h8
   have ha : Ybi 63 l1 = Yfb l1 := by
    cases l1 with
    | nil => rfl
    | cons b t =>
     simp only [Ybf, Yfb, Ybi] at hqo ⊢
     split at hqo
     ·cases hqo
     ·rw [if_neg (by assumption), if_neg (by assumption)]
   rw [ha] at vM
   clear ha hqo
   subst h6 h8
   have cV : Yqe.f (ofL (Yfb l1)) s1 s2 s3 r5 s5 s6 s7 s8 35 = some ((Yrf (Yfb l1)).isSome, ofL (Yni (Yfb l1)), s1, s2, s3, r5, s5, s6, s7, s8) := by
    have := has_f (Yfb l1) s1 s2 s3 r5 s5 s6 s7 s8 35 Zl
    rw [show ((35 : UInt8).toNat : Int) = 35 from rfl] at this
    rw [this, Yvp]; rfl
   have HQ2 := Ya.mk cV
   clear cV
   go_wp2_with fail
   refine (Yqe.calls g _ _ _ _ _ _ _ _ _ 35 _ _ _ _ _ _ _ _ _ _ w0 _ HE.out vM.out dO.out HQ2.out).mono ?_
   rintro e w5 ⟨rfl, hix, hbx, hkx⟩
   have oK := Ya.mk hix
   have cU := Ya.mk hbx
   have HK5 := Ya.mk (HK4.out.trans hkx (.inl rfl))
   have HE5 := Ya.mk (HE.out.below hbx)
   clear hix hbx hkx
   cases hfo : Yrf (Yfb l1) with
   | none =>
    rw [hfo] at h7 h9
    simp only at h7 h9
    subst h7 h9
    clear hfo
    go_wp2
    go_end0
    exact ⟨rfl, oK.out, cU.out, HK5.out⟩
   | some fr =>
    rw [hfo] at h7 h9
    simp only at h7 h9
    have hr : Yni (Yfb l1) = fr := by
     cases ha : Yfb l1 with
     | nil => rw [ha] at hfo; cases hfo
     | cons b t =>
      rw [ha] at hfo
      simp only [Yrf, Yni, Ybi] at hfo ⊢
      split at hfo
      ·rw [if_pos (by assumption)]; exact Option.some.inj hfo
      ·cases hfo
    have hfl : fr.length ≤ 100000000 := by
     have h10 : fr.length ≤ (Yfb l1).length := by
      cases ha : Yfb l1 with
      | nil => rw [ha] at hfo; cases hfo
      | cons b t => rw [← hr, ha]; simp only [Yni, Ybi]; split <;> simp
     omega
    have HIy := Ya.mk oK.out
    rw [hr] at HIy
    have hm : Yke.f (ofL fr) ⟨#[34, 60, 62, 96]⟩ = some r7 := by
     unfold Yke.f
     rw [if_pos Zha, ← h7]; rfl
    have HM := Ya.mk hm
    replace oK := HIy
    have HRr := Ya.mk hr
    clear hm hfo hr h7 HIy
    subst h9
    have bQ := Yxb oK.out.1
    have hf5 := Ye oK.out.1 8
    have hld := Ywb (oK.out.set_8 true).1
    go_wp2_with fail
    clear hld
    obtain ⟨hbx, hkx⟩ := Ywh (W2 := w5) cU.out HK5.out HG.out 8 (.bool true)
    have HI6 := Ya.mk (oK.out.set_8 true)
    have jJ := Ya.mk hbx
    have HK6 := Ya.mk hkx
    clear hbx hkx bQ hf5
    obtain ⟨w6, hw⟩ : ∃ W, W = w5.setCell ⟨g, 8, none⟩ (.bool true) := ⟨_, rfl⟩
    rw [← hw] at HI6 jJ HK6 ⊢
    clear hw
    refine (Yke.calls _ _ _ _ (HE.out.below jJ.out) HM.out).mono ?_
    rintro e w7 ⟨rfl, hbx⟩
    have HI7 := Ya.mk (HI6.out.below hbx)
    have HB7 := Ya.mk (jJ.out.trans (hbx.mono jJ.out.size))
    have HK7 := Ya.mk (KeepBut.below' HK6.out hbx)
    clear hbx
    have bP := Yyb HI7.out.1
    have hf7 := Ye HI7.out.1 6
    go_wp2_with fail
    obtain ⟨hbx, hkx⟩ := Ywh (W2 := w7) HB7.out HK7.out HG.out 6 (.string r7)
    have HI8 := Ya.mk (HI7.out.set_6 r7)
    have HB8 := Ya.mk hbx
    have HK8 := Ya.mk hkx
    clear hbx hkx bP hf7
    obtain ⟨w8, hw⟩ : ∃ W, W = w7.setCell ⟨g, 6, none⟩ (.string r7) := ⟨_, rfl⟩
    rw [← hw] at HI8 HB8 HK8 ⊢
    clear hw
    go_end0
    exact ⟨rfl, by rw [HRr.out]; exact HI8.out, HB8.out, HK8.out⟩
  | some qu =>
   rw [hqo] at h6 h8
   simp only at h6 h8
   obtain ⟨l2, hl2, hqu, haf⟩ : ∃ l2, Ybi 63 l1 = l2 ∧ l2.takeWhile (Ybb [35]) = qu ∧ Yfb l1 = l2.dropWhile (Ybb [35]) ∧ l2.length ≤ 100000000 := by
    cases l1 with
    | nil => cases hqo
    | cons b t =>
     simp only [Ybf, Yfb, Ybi] at hqo ⊢
     split at hqo
     ·refine ⟨t, by rw [if_pos (by assumption)], Option.some.inj hqo, by rw [if_pos (by assumption)], ?_⟩
      simp only [List.length_cons] at lB; omega
     ·cases hqo
   obtain ⟨haf, hl2l⟩ := haf
   rw [hl2] at vM
   have ht2 : Yvb.f (ofL l2) s1 s2 s3 r5 s5 s6 true s8 ⟨#[35]⟩ = some (ofL qu, ofL (Yfb l1), s1, s2, s3, r5, s5, s6, true, s8) := by
    rw [take_f _ _ _ _ _ _ _ _ _ ⟨#[35]⟩ rfl Zha, haf, ← hqu]; rfl
   have eF := Ya.mk ht2
   have hm0 : Yke.f (ofL qu) ⟨#[34, 60, 62, 35, 39]⟩ = some r6 := by
    unfold Yke.f
    rw [if_pos (by rw [Yea, ← hqu]; have := Yxe (Ybb [35]) l2; omega), ← h6]; rfl
   have HM0 := Ya.mk hm0
   clear ht2 hm0 hl2 haf hqu hqo h6
   subst h8
   have bR := Ybc vM.out.1
   have hf4 := Ye vM.out.1 7
   go_wp2_with fail
   obtain ⟨hbx, hkx⟩ := Ywh (W2 := w4) dO.out HK4.out HG.out 7 (.bool true)
   have oK := Ya.mk (vM.out.set_7 true)
   have cU := Ya.mk hbx
   have HK5 := Ya.mk hkx
   clear hbx hkx bR hf4
   obtain ⟨w5, hw⟩ : ∃ W, W = w4.setCell ⟨g, 7, none⟩ (.bool true) := ⟨_, rfl⟩
   rw [← hw] at oK cU HK5 ⊢
   clear hw
   go_wp2_with fail
   refine (Yvb.calls g _ _ _ _ _ _ _ _ _ ⟨#[35]⟩ _ _ _ _ _ _ _ _ _ _ w0 _ HE.out oK.out cU.out eF.out).mono ?_
   rintro e w6 ⟨rfl, hix, hbx, hkx⟩
   have HI6 := Ya.mk hix
   have jJ := Ya.mk hbx
   have HK6 := Ya.mk (HK5.out.trans hkx (.inl rfl))
   have HE6 := Ya.mk (HE.out.below hbx)
   clear hix hbx hkx
   go_wp2_with fail
   refine (Yke.calls _ _ _ _ HE6.out HM0.out).mono ?_
   rintro e w7 ⟨rfl, hbx⟩
   have HI7 := Ya.mk (HI6.out.below hbx)
   have HB7 := Ya.mk (jJ.out.trans (hbx.mono jJ.out.size))
   have HK7 := Ya.mk (KeepBut.below' HK6.out hbx)
   clear hbx
   have bP := Ydc HI7.out.1
   have hf7 := Ye HI7.out.1 5
   go_wp2_with fail
   obtain ⟨hbx, hkx⟩ := Ywh (W2 := w7) HB7.out HK7.out HG.out 5 (.string r6)
   have HI8 := Ya.mk (HI7.out.set_5 r6)
   have HB8 := Ya.mk hbx
   have HK8 := Ya.mk hkx
   clear hbx hkx bP hf7
   obtain ⟨w8, hw⟩ : ∃ W, W = w7.setCell ⟨g, 5, none⟩ (.string r6) := ⟨_, rfl⟩
   rw [← hw] at HI8 HB8 HK8 ⊢
   clear hw
   have cV : Yqe.f (ofL (Yfb l1)) s1 s2 s3 r5 r6 s6 true s8 35 = some ((Yrf (Yfb l1)).isSome, ofL (Yni (Yfb l1)), s1, s2, s3, r5, r6, s6, true, s8) := by
    have := has_f (Yfb l1) s1 s2 s3 r5 r6 s6 true s8 35 Zl
    rw [show ((35 : UInt8).toNat : Int) = 35 from rfl] at this
    rw [this, Yvp]; rfl
   have HQ2 := Ya.mk cV
   clear cV
   go_wp2_with fail
   refine (Yqe.calls g _ _ _ _ _ _ _ _ _ 35 _ _ _ _ _ _ _ _ _ _ w0 _ HE.out HI8.out HB8.out HQ2.out).mono ?_
   rintro e w9 ⟨rfl, hix, hbx, hkx⟩
   have HI9 := Ya.mk hix
   have HB9 := Ya.mk hbx
   have HK9 := Ya.mk (HK8.out.trans hkx (.inl rfl))
   have HE9 := Ya.mk (HE.out.below hbx)
   clear hix hbx hkx
   cases hfo : Yrf (Yfb l1) with
   | none =>
    rw [hfo] at h7 h9
    simp only at h7 h9
    subst h7 h9
    clear hfo
    go_wp2
    go_end0
    exact ⟨rfl, HI9.out, HB9.out, HK9.out⟩
   | some fr =>
    rw [hfo] at h7 h9
    simp only at h7 h9
    have hr : Yni (Yfb l1) = fr := by
     cases ha : Yfb l1 with
     | nil => rw [ha] at hfo; cases hfo
     | cons b t =>
      rw [ha] at hfo
      simp only [Yrf, Yni, Ybi] at hfo ⊢
      split at hfo
      ·rw [if_pos (by assumption)]; exact Option.some.inj hfo
      ·cases hfo
    have hfl : fr.length ≤ 100000000 := by
     have h10 : fr.length ≤ (Yfb l1).length := by
      cases ha : Yfb l1 with
      | nil => rw [ha] at hfo; cases hfo
      | cons b t => rw [← hr, ha]; simp only [Yni, Ybi]; split <;> simp
     omega
    have HIy := Ya.mk HI9.out
    rw [hr] at HIy
    have hm : Yke.f (ofL fr) ⟨#[34, 60, 62, 96]⟩ = some r7 := by
     unfold Yke.f
     rw [if_pos Zha, ← h7]; rfl
    have HM := Ya.mk hm
    replace HI9 := HIy
    have HRr := Ya.mk hr
    clear hm hfo hr h7 HIy
    subst h9
    have hc9 := Yxb HI9.out.1
    have hf9 := Ye HI9.out.1 8
    have hld := Ywb (HI9.out.set_8 true).1
    go_wp2_with fail
    clear hld
    obtain ⟨hbx, hkx⟩ := Ywh (W2 := w9) HB9.out HK9.out HG.out 8 (.bool true)
    have aJj := Ya.mk (HI9.out.set_8 true)
    have aEc := Ya.mk hbx
    have aJk := Ya.mk hkx
    clear hbx hkx hc9 hf9
    obtain ⟨qE, hw⟩ : ∃ W, W = w9.setCell ⟨g, 8, none⟩ (.bool true) := ⟨_, rfl⟩
    rw [← hw] at aJj aEc aJk ⊢
    clear hw
    refine (Yke.calls _ _ _ _ (HE.out.below aEc.out) HM.out).mono ?_
    rintro e w11 ⟨rfl, hbx⟩
    have aGc := Ya.mk (aJj.out.below hbx)
    have aVW := Ya.mk (aEc.out.trans (hbx.mono aEc.out.size))
    have aVX := Ya.mk (KeepBut.below' aJk.out hbx)
    clear hbx
    have aVY := Yyb aGc.out.1
    have aVZ := Ye aGc.out.1 6
    go_wp2_with fail
    obtain ⟨hbx, hkx⟩ := Ywh (W2 := w11) aVW.out aVX.out HG.out 6 (.string r7)
    have aJl := Ya.mk (aGc.out.set_6 r7)
    have aJm := Ya.mk hbx
    have aJn := Ya.mk hkx
    clear hbx hkx aVY aVZ
    obtain ⟨vG, hw⟩ : ∃ W, W = w11.setCell ⟨g, 6, none⟩ (.string r7) := ⟨_, rfl⟩
    rw [← hw] at aJl aJm aJn ⊢
    clear hw
    go_end0
    exact ⟨rfl, by rw [HRr.out]; exact aJl.out, aJm.out, aJn.out⟩
 ·rw [if_neg hs] at h; cases h
end Go.Proofs.YtnmglnglbdpjjaaGreatDoor.X
