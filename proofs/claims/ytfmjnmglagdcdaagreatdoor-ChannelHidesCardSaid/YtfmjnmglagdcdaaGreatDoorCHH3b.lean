/- The parser's tail: the path, the query and the fragment. -/
import Derived.Test.YtfmjnmglagdcdaaGreatDoorCHWords
import Derived.Test.YtfmjnmglagdcdaaGreatDoorCHH3a
namespace Go.Proofs.YtfmjnmglagdcdaaGreatDoor.X
open Go.RowKit Go.Lib Go.Shelf Go.Yw.PrintWords Go.Yw.PrintLast Go.Yw.PrintMore
set_option linter.unusedVariables false
set_option linter.unusedSimpArgs false
def Ypd : List UInt8 := [34, 60, 62, 35, 39]
def Yre : List UInt8 := [34, 60, 62, 96]
def Ycb (any : List UInt8) (b : UInt8) : Bool := !any.contains b
def Yjh (l : List UInt8) : List UInt8 := l.takeWhile (Ycb [63, 35])
def Ywb (l : List UInt8) : List UInt8 := l.dropWhile (Ycb [63, 35])
def Yyc : List UInt8 → Option (List UInt8)
 | [] => none
 | b :: l => if b = 63 then some (l.takeWhile (Ycb [35])) else none
def Yv : List UInt8 → List UInt8
 | [] => []
 | b :: l => if b = 63 then l.dropWhile (Ycb [35]) else b :: l
def Yah (c : UInt8) : List UInt8 → Bool
 | [] => false
 | b :: _ => b == c
def Yxe (c : UInt8) : List UInt8 → List UInt8
 | [] => []
 | b :: t => if b = c then t else b :: t
def Yjd : List UInt8 → Option (List UInt8)
 | [] => none
 | b :: l => if b = 35 then some l else none
def Ypf (l : List UInt8) : List UInt8 := Yxe 35 l
theorem Yoo (l : List UInt8) : (Yyc l).isSome = Yah 63 l := by
 cases l with
 | nil => rfl
 | cons b t => simp only [Yyc, Yah]; split <;> simp_all
theorem Yil (l : List UInt8) : (Yjd l).isSome = Yah 35 l := by
 cases l with
 | nil => rfl
 | cons b t => simp only [Yjd, Yah]; split <;> simp_all
theorem Ymk (s chars : ByteArray) : s.extract 0 (Ysd s chars) = ofL (s.data.toList.takeWhile (Ycb chars.data.toList)) ∧ s.extract (Ysd s chars) s.size = ofL (s.data.toList.dropWhile (Ycb chars.data.toList)) := by
 rw [Yuh, Yeg]
 have key : ∀ l : List UInt8, (if Lib.indexAny l chars.data.toList < 0 then l.length else (Lib.indexAny l chars.data.toList).toNat) = (l.takeWhile (Ycb chars.data.toList)).length := by
  intro l
  induction l with
  | nil => rfl
  | cons b l ih =>
   rw [Lib.indexAny]
   by_cases h : chars.data.toList.contains b = true
   ·rw [if_pos h, List.takeWhile_cons_of_neg (by simp only [Ycb, h]; decide)]; rfl
   ·rw [if_neg h, List.takeWhile_cons_of_pos (by simp only [Ycb, Bool.not_eq_true] at h ⊢; rw [h]; rfl)]
    simp only [List.length_cons]
    rw [← ih]
    have hg := Lib.indexAny_ge chars.data.toList l
    by_cases h2 : (Lib.indexAny l chars.data.toList == -1) = true
    ·have h5 := beq_iff_eq.1 h2
     rw [if_pos h2, if_pos Zq, if_pos Zk]
    ·have h4 : ¬ Lib.indexAny l chars.data.toList = -1 := fun e => h2 (beq_iff_eq.2 e)
     have h5 : ¬ Lib.indexAny l chars.data.toList < 0 := by omega
     have h6 : ¬ Lib.indexAny l chars.data.toList + 1 < 0 := by omega
     rw [if_neg h2, if_neg h6, if_neg h5]; omega
 have h1 : Ysd s chars = (s.data.toList.takeWhile (Ycb chars.data.toList)).length := by
  rw [← key]; unfold Ysd; rw [Lib.size_eq]
 have h2 := List.takeWhile_append_dropWhile (p := Ycb chars.data.toList) (l := s.data.toList)
 rw [h1]
 constructor
 ·have := List.take_left (l₁ := s.data.toList.takeWhile (Ycb chars.data.toList)) (l₂ := s.data.toList.dropWhile (Ycb chars.data.toList))
  rw [h2] at this
  rw [this]
 ·have := List.drop_left (l₁ := s.data.toList.takeWhile (Ycb chars.data.toList)) (l₂ := s.data.toList.dropWhile (Ycb chars.data.toList))
  rw [h2] at this
  rw [this]
theorem take_f (s0 s1 s2 : ByteArray) (s3 : Int) (s4 s5 s6 : ByteArray) (s7 s8 : Bool) (any : ByteArray) (ha : Yee any.data.toList = true) (hs : s0.size ≤ 140737488355328) :
  Yma.f s0 s1 s2 s3 s4 s5 s6 s7 s8 any = some (ofL (s0.data.toList.takeWhile (Ycb any.data.toList)), ofL (s0.data.toList.dropWhile (Ycb any.data.toList)), s1, s2, s3, s4, s5, s6, s7, s8) := by
 unfold Yma.f
 rw [if_pos ⟨ha, hs⟩, (Ymk s0 any).1, (Ymk s0 any).2]
theorem has_f (l : List UInt8) (s1 s2 : ByteArray) (s3 : Int) (s4 s5 s6 : ByteArray) (s7 s8 : Bool) (c : UInt8) (hs : l.length ≤ 140737488355328) :
  Ypb.f (ofL l) s1 s2 s3 s4 s5 s6 s7 s8 (c.toNat : Int) = some (Yah c l, ofL (Yxe c l), s1, s2, s3, s4, s5, s6, s7, s8) := by
 unfold Ypb.f
 rw [if_pos (by rw [Yta]; exact hs)]
 cases l with
 | nil => rfl
 | cons b t =>
  have hb : bt (ofL (b :: t)) 0 = (b.toNat : Int) := rfl
  have hsz : (ofL (b :: t)).size = t.length + 1 := by rw [Yta]; rfl
  simp only [Yah, Yxe]
  by_cases h : b = c
  ·rw [if_pos h, if_pos ⟨Zk, by rw [hb, h]⟩, Yeg, h]; simp [Yob]
  ·rw [if_neg h, if_neg]
   ·simp [h]
   ·rintro ⟨_, h2⟩
    rw [hb] at h2
    exact h (UInt8.toNat_inj.1 Zk)
def Yyb.f (s0 s1 s2 : ByteArray) (s3 : Int) (s4 s5 s6 : ByteArray) (s7 s8 : Bool) : Option (ByteArray × ByteArray × ByteArray × Int × ByteArray × ByteArray × ByteArray × Bool × Bool) :=
 if s0.size ≤ 100000000 then
  some (ofL (Ypf (Yv (Ywb s0.data.toList))), s1, s2, s3, ofL (Ypc (Yjh s0.data.toList)),
   (match Yyc (Ywb s0.data.toList) with | some q => ofL (Ydb Ypd q) | none => s5),
   (match Yjd (Yv (Ywb s0.data.toList)) with | some q => ofL (Ydb Yre q) | none => s6),
   (match Yyc (Ywb s0.data.toList) with | some _ => true | none => s7),
   (match Yjd (Yv (Ywb s0.data.toList)) with | some _ => true | none => s8))
 else none
theorem Yae (p : UInt8 → Bool) (l : List UInt8) : (l.dropWhile p).length ≤ l.length := (List.dropWhile_sublist _).length_le
theorem Ymd (p : UInt8 → Bool) (l : List UInt8) : (l.takeWhile p).length ≤ l.length := (List.takeWhile_sublist _).length_le
theorem Yoe {w0 w w1 W2 : World} {g : Nat} (hB : Below w0.heap.size w0 w1) (hK : KeepBut w w1 g none) (hg : w0.heap.size ≤ g) (j : Nat) (u : Value) :
  Below w0.heap.size w0 (w1.setCell ⟨g, j, none⟩ u) ∧ KeepBut w (w1.setCell ⟨g, j, none⟩ u) g none := ⟨Yh hB hg, hK.set_ j u⟩
set_option maxHeartbeats 8000000 in
set_option maxRecDepth 100000 in
theorem Yyb.calls (g : Nat) (s0 s1 s2 : ByteArray) (s3 : Int) (s4 s5 s6 : ByteArray) (s7 s8 : Bool) (r1 r2 r3 : ByteArray) (r4 : Int) (r5 r6 r7 : ByteArray) (r8 r9 : Bool) (w0 w : World) (hE : EnvOk w0) (hI : IsS101 w0 w g s0 s1 s2 s3 s4 s5 s6 s7 s8) (hB : Below w0.heap.size w0 w) (h : Yyb.f s0 s1 s2 s3 s4 s5 s6 s7 s8 = some (r1, r2, r3, r4, r5, r6, r7, r8, r9)) :
  Calls Tryz.prog 57 #[.pointer (some ⟨g, 0, none⟩)] w fun e w' => e = .returned (.tuple #[]) ∧ IsS101 w0 w' g r1 r2 r3 r4 r5 r6 r7 r8 r9 ∧ Below w0.heap.size w0 w' ∧ KeepBut w w' g none := by
 unfold Yyb.f at h
 by_cases hs : s0.size ≤ 100000000
 ·rw [if_pos hs] at h
  simp only [Option.some.injEq, Prod.mk.injEq] at h
  obtain ⟨rfl, rfl, rfl, rfl, h5, h6, h7, h8, h9⟩ := h
  have HE := Ya.mk hE
  have HI := Ya.mk hI
  have HB := Ya.mk hB
  have HG := Ya.mk hI.ge
  have ht1 : Yma.f s0 s1 s2 s3 s4 s5 s6 s7 s8 ⟨#[63, 35]⟩ = some (ofL (Yjh s0.data.toList), ofL (Ywb s0.data.toList), s1, s2, s3, s4, s5, s6, s7, s8) :=
   take_f s0 s1 s2 s3 s4 s5 s6 s7 s8 ⟨#[63, 35]⟩ rfl Zk
  have HT1 := Ya.mk ht1
  have hp : Ytf.f (ofL (Yjh s0.data.toList)) = some r5 := by
   unfold Ytf.f
   rw [if_pos (by rw [Yta]; have := Ymd (Ycb [63, 35]) s0.data.toList; rw [← Lib.size_eq] at this; unfold Yjh; omega), Yob, h5]
  have HP := Ya.mk hp
  have hl1 : (Ywb s0.data.toList).length ≤ 100000000 := by
   have := Yae (Ycb [63, 35]) s0.data.toList; rw [← Lib.size_eq] at this; unfold Ywb; omega
  obtain ⟨l1, hl1e⟩ : ∃ l1, l1 = Ywb s0.data.toList := ⟨_, rfl⟩
  rw [← hl1e] at HT1 h6 h7 h8 h9 hl1 ⊢
  have hl3 : (Yv l1).length ≤ 100000000 := by
   unfold Yv
   cases l1 with
   | nil => simp
   | cons b t =>
    simp only
    split
    ·have := Yae (Ycb [35]) t; simp only [List.length_cons] at hl1; omega
    ·exact hl1
  clear hE hI hB ht1 hp hl1e h5
  go_enter Tryz.func57, Tryz.ntmps57
  go_wp2_with fail
  refine (Yma.calls g s0 s1 s2 s3 s4 s5 s6 s7 s8 ⟨#[63, 35]⟩ _ _ _ _ _ _ _ _ _ _ w0 _ HE.out HI.out HB.out HT1.out).mono ?_
  rintro e w1 ⟨rfl, hi1, hb1, hk1⟩
  have HB1 := Ya.mk hb1
  have HI1 := Ya.mk hi1
  have HK1 := Ya.mk hk1
  have HE1 := Ya.mk (HE.out.below hb1)
  clear hi1 hb1 hk1
  go_wp2_with fail
  refine (Ytf.calls _ _ _ HE1.out HP.out).mono ?_
  rintro e w2 ⟨rfl, hb2⟩
  have HI2 := Ya.mk (HI1.out.below hb2)
  have HB2 := Ya.mk (HB1.out.trans (hb2.mono HB1.out.size))
  have HK2 := Ya.mk (KeepBut.below' HK1.out hb2)
  have hc2 := Yga HI2.out.1
  have hf2 := Yc HI2.out.1 4
  clear hb2
  go_wp2_with fail
  obtain ⟨hbx, hkx⟩ := Yoe (W2 := w2) HB2.out HK2.out HG.out 4 (.string r5)
  have HI3 := Ya.mk (HI2.out.set_4 r5)
  have HB3 := Ya.mk hbx
  have HK3 := Ya.mk hkx
  clear hbx hkx hc2 hf2
  obtain ⟨w3, hw⟩ : ∃ W, W = w2.setCell ⟨g, 4, none⟩ (.string r5) := ⟨_, rfl⟩
  rw [← hw] at HI3 HB3 HK3 ⊢
  clear hw
  have hq : Ypb.f (ofL l1) s1 s2 s3 r5 s5 s6 s7 s8 63 = some ((Yyc l1).isSome, ofL (Yxe 63 l1), s1, s2, s3, r5, s5, s6, s7, s8) := by
   have := has_f l1 s1 s2 s3 r5 s5 s6 s7 s8 63 Zk
   rw [show ((63 : UInt8).toNat : Int) = 63 from rfl] at this
   rw [this, Yoo]
  have HQ := Ya.mk hq
  clear hq
  go_wp2_with fail
  refine (Ypb.calls g _ _ _ _ _ _ _ _ _ 63 _ _ _ _ _ _ _ _ _ _ w0 _ HE.out HI3.out HB3.out HQ.out).mono ?_
  rintro e w4 ⟨rfl, hix, hbx, hkx⟩
  have HI4 := Ya.mk hix
  have HB4 := Ya.mk hbx
  have HK4 := Ya.mk (HK3.out.trans hkx (.inl rfl))
  have HE4 := Ya.mk (HE.out.below hbx)
  clear hix hbx hkx
  cases hqo : Yyc l1 with
  | none =>
   rw [hqo] at h6 h8
   simp only at h6 h8
   have ha : Yxe 63 l1 = Yv l1 := by
    cases l1 with
    | nil => rfl
    | cons b t =>
     simp only [Yyc, Yv, Yxe] at hqo ⊢
     split at hqo
     ·cases hqo
     ·rw [if_neg (by assumption), if_neg (by assumption)]
   rw [ha] at HI4
   clear ha hqo
   subst h6 h8
   have hq2 : Ypb.f (ofL (Yv l1)) s1 s2 s3 r5 s5 s6 s7 s8 35 = some ((Yjd (Yv l1)).isSome, ofL (Ypf (Yv l1)), s1, s2, s3, r5, s5, s6, s7, s8) := by
    have := has_f (Yv l1) s1 s2 s3 r5 s5 s6 s7 s8 35 Zk
    rw [show ((35 : UInt8).toNat : Int) = 35 from rfl] at this
    rw [this, Yil]; rfl
   have HQ2 := Ya.mk hq2
   clear hq2
   go_wp2_with fail
   refine (Ypb.calls g _ _ _ _ _ _ _ _ _ 35 _ _ _ _ _ _ _ _ _ _ w0 _ HE.out HI4.out HB4.out HQ2.out).mono ?_
   rintro e w5 ⟨rfl, hix, hbx, hkx⟩
   have HI5 := Ya.mk hix
   have HB5 := Ya.mk hbx
   have HK5 := Ya.mk (HK4.out.trans hkx (.inl rfl))
   have HE5 := Ya.mk (HE.out.below hbx)
   clear hix hbx hkx
   cases hfo : Yjd (Yv l1) with
   | none =>
    rw [hfo] at h7 h9
    simp only at h7 h9
    subst h7 h9
    clear hfo
    go_wp2
    go_end0
    exact ⟨rfl, HI5.out, HB5.out, HK5.out⟩
   | some fr =>
    rw [hfo] at h7 h9
    simp only at h7 h9
    have hr : Ypf (Yv l1) = fr := by
     cases ha : Yv l1 with
     | nil => rw [ha] at hfo; cases hfo
     | cons b t =>
      rw [ha] at hfo
      simp only [Yjd, Ypf, Yxe] at hfo ⊢
      split at hfo
      ·rw [if_pos (by assumption)]; exact Option.some.inj hfo
      ·cases hfo
    have hfl : fr.length ≤ 100000000 := by
     have h10 : fr.length ≤ (Yv l1).length := by
      cases ha : Yv l1 with
      | nil => rw [ha] at hfo; cases hfo
      | cons b t => rw [← hr, ha]; simp only [Ypf, Yxe]; split <;> simp
     omega
    have HIy := Ya.mk HI5.out
    rw [hr] at HIy
    have hm : Ylb.f (ofL fr) ⟨#[34, 60, 62, 96]⟩ = some r7 := by
     unfold Ylb.f
     rw [if_pos Zqa, ← h7]; rfl
    have HM := Ya.mk hm
    replace HI5 := HIy
    have HRr := Ya.mk hr
    clear hm hfo hr h7 HIy
    subst h9
    have hc5 := Yba HI5.out.1
    have hf5 := Yc HI5.out.1 8
    have hld := Yy (HI5.out.set_8 true).1
    go_wp2_with fail
    clear hld
    obtain ⟨hbx, hkx⟩ := Yoe (W2 := w5) HB5.out HK5.out HG.out 8 (.bool true)
    have HI6 := Ya.mk (HI5.out.set_8 true)
    have HB6 := Ya.mk hbx
    have HK6 := Ya.mk hkx
    clear hbx hkx hc5 hf5
    obtain ⟨w6, hw⟩ : ∃ W, W = w5.setCell ⟨g, 8, none⟩ (.bool true) := ⟨_, rfl⟩
    rw [← hw] at HI6 HB6 HK6 ⊢
    clear hw
    refine (Ylb.calls _ _ _ _ (HE.out.below HB6.out) HM.out).mono ?_
    rintro e w7 ⟨rfl, hbx⟩
    have HI7 := Ya.mk (HI6.out.below hbx)
    have HB7 := Ya.mk (HB6.out.trans (hbx.mono HB6.out.size))
    have HK7 := Ya.mk (KeepBut.below' HK6.out hbx)
    clear hbx
    have hc7 := Yaa HI7.out.1
    have hf7 := Yc HI7.out.1 6
    go_wp2_with fail
    obtain ⟨hbx, hkx⟩ := Yoe (W2 := w7) HB7.out HK7.out HG.out 6 (.string r7)
    have HI8 := Ya.mk (HI7.out.set_6 r7)
    have HB8 := Ya.mk hbx
    have HK8 := Ya.mk hkx
    clear hbx hkx hc7 hf7
    obtain ⟨w8, hw⟩ : ∃ W, W = w7.setCell ⟨g, 6, none⟩ (.string r7) := ⟨_, rfl⟩
    rw [← hw] at HI8 HB8 HK8 ⊢
    clear hw
    go_end0
    exact ⟨rfl, by rw [HRr.out]; exact HI8.out, HB8.out, HK8.out⟩
  | some qu =>
   rw [hqo] at h6 h8
   simp only at h6 h8
   obtain ⟨l2, hl2, hqu, haf⟩ : ∃ l2, Yxe 63 l1 = l2 ∧ l2.takeWhile (Ycb [35]) = qu ∧ Yv l1 = l2.dropWhile (Ycb [35]) ∧ l2.length ≤ 100000000 := by
    cases l1 with
    | nil => cases hqo
    | cons b t =>
     simp only [Yyc, Yv, Yxe] at hqo ⊢
     split at hqo
     ·refine ⟨t, by rw [if_pos (by assumption)], Option.some.inj hqo, by rw [if_pos (by assumption)], ?_⟩
      simp only [List.length_cons] at hl1; omega
     ·cases hqo
   obtain ⟨haf, hl2l⟩ := haf
   rw [hl2] at HI4
   have ht2 : Yma.f (ofL l2) s1 s2 s3 r5 s5 s6 true s8 ⟨#[35]⟩ = some (ofL qu, ofL (Yv l1), s1, s2, s3, r5, s5, s6, true, s8) := by
    rw [take_f _ _ _ _ _ _ _ _ _ ⟨#[35]⟩ rfl Zqa, haf, ← hqu]; rfl
   have HT2 := Ya.mk ht2
   have hm0 : Ylb.f (ofL qu) ⟨#[34, 60, 62, 35, 39]⟩ = some r6 := by
    unfold Ylb.f
    rw [if_pos (by rw [Yta, ← hqu]; have := Ymd (Ycb [35]) l2; omega), ← h6]; rfl
   have HM0 := Ya.mk hm0
   clear ht2 hm0 hl2 haf hqu hqo h6
   subst h8
   have hc4 := Yda HI4.out.1
   have hf4 := Yc HI4.out.1 7
   go_wp2_with fail
   obtain ⟨hbx, hkx⟩ := Yoe (W2 := w4) HB4.out HK4.out HG.out 7 (.bool true)
   have HI5 := Ya.mk (HI4.out.set_7 true)
   have HB5 := Ya.mk hbx
   have HK5 := Ya.mk hkx
   clear hbx hkx hc4 hf4
   obtain ⟨w5, hw⟩ : ∃ W, W = w4.setCell ⟨g, 7, none⟩ (.bool true) := ⟨_, rfl⟩
   rw [← hw] at HI5 HB5 HK5 ⊢
   clear hw
   go_wp2_with fail
   refine (Yma.calls g _ _ _ _ _ _ _ _ _ ⟨#[35]⟩ _ _ _ _ _ _ _ _ _ _ w0 _ HE.out HI5.out HB5.out HT2.out).mono ?_
   rintro e w6 ⟨rfl, hix, hbx, hkx⟩
   have HI6 := Ya.mk hix
   have HB6 := Ya.mk hbx
   have HK6 := Ya.mk (HK5.out.trans hkx (.inl rfl))
   have HE6 := Ya.mk (HE.out.below hbx)
   clear hix hbx hkx
   go_wp2_with fail
   refine (Ylb.calls _ _ _ _ HE6.out HM0.out).mono ?_
   rintro e w7 ⟨rfl, hbx⟩
   have HI7 := Ya.mk (HI6.out.below hbx)
   have HB7 := Ya.mk (HB6.out.trans (hbx.mono HB6.out.size))
   have HK7 := Ya.mk (KeepBut.below' HK6.out hbx)
   clear hbx
   have hc7 := Yea HI7.out.1
   have hf7 := Yc HI7.out.1 5
   go_wp2_with fail
   obtain ⟨hbx, hkx⟩ := Yoe (W2 := w7) HB7.out HK7.out HG.out 5 (.string r6)
   have HI8 := Ya.mk (HI7.out.set_5 r6)
   have HB8 := Ya.mk hbx
   have HK8 := Ya.mk hkx
   clear hbx hkx hc7 hf7
   obtain ⟨w8, hw⟩ : ∃ W, W = w7.setCell ⟨g, 5, none⟩ (.string r6) := ⟨_, rfl⟩
   rw [← hw] at HI8 HB8 HK8 ⊢
   clear hw
   have hq2 : Ypb.f (ofL (Yv l1)) s1 s2 s3 r5 r6 s6 true s8 35 = some ((Yjd (Yv l1)).isSome, ofL (Ypf (Yv l1)), s1, s2, s3, r5, r6, s6, true, s8) := by
    have := has_f (Yv l1) s1 s2 s3 r5 r6 s6 true s8 35 Zk
    rw [show ((35 : UInt8).toNat : Int) = 35 from rfl] at this
    rw [this, Yil]; rfl
   have HQ2 := Ya.mk hq2
   clear hq2
   go_wp2_with fail
   refine (Ypb.calls g _ _ _ _ _ _ _ _ _ 35 _ _ _ _ _ _ _ _ _ _ w0 _ HE.out HI8.out HB8.out HQ2.out).mono ?_
   rintro e w9 ⟨rfl, hix, hbx, hkx⟩
   have HI9 := Ya.mk hix
   have HB9 := Ya.mk hbx
   have HK9 := Ya.mk (HK8.out.trans hkx (.inl rfl))
   have HE9 := Ya.mk (HE.out.below hbx)
   clear hix hbx hkx
   cases hfo : Yjd (Yv l1) with
   | none =>
    rw [hfo] at h7 h9
    simp only at h7 h9
    subst h7 h9
    clear hfo
    go_wp2
    go_end0
    exact ⟨rfl, HI9.out, HB9.out, HK9.out⟩
   | some fr =>
    rw [hfo] at h7 h9
    simp only at h7 h9
    have hr : Ypf (Yv l1) = fr := by
     cases ha : Yv l1 with
     | nil => rw [ha] at hfo; cases hfo
     | cons b t =>
      rw [ha] at hfo
      simp only [Yjd, Ypf, Yxe] at hfo ⊢
      split at hfo
      ·rw [if_pos (by assumption)]; exact Option.some.inj hfo
      ·cases hfo
    have hfl : fr.length ≤ 100000000 := by
     have h10 : fr.length ≤ (Yv l1).length := by
      cases ha : Yv l1 with
      | nil => rw [ha] at hfo; cases hfo
      | cons b t => rw [← hr, ha]; simp only [Ypf, Yxe]; split <;> simp
     omega
    have HIy := Ya.mk HI9.out
    rw [hr] at HIy
    have hm : Ylb.f (ofL fr) ⟨#[34, 60, 62, 96]⟩ = some r7 := by
     unfold Ylb.f
     rw [if_pos Zqa, ← h7]; rfl
    have HM := Ya.mk hm
    replace HI9 := HIy
    have HRr := Ya.mk hr
    clear hm hfo hr h7 HIy
    subst h9
    have hc9 := Yba HI9.out.1
    have hf9 := Yc HI9.out.1 8
    have hld := Yy (HI9.out.set_8 true).1
    go_wp2_with fail
    clear hld
    obtain ⟨hbx, hkx⟩ := Yoe (W2 := w9) HB9.out HK9.out HG.out 8 (.bool true)
    have HI10 := Ya.mk (HI9.out.set_8 true)
    have HB10 := Ya.mk hbx
    have HK10 := Ya.mk hkx
    clear hbx hkx hc9 hf9
    obtain ⟨w10, hw⟩ : ∃ W, W = w9.setCell ⟨g, 8, none⟩ (.bool true) := ⟨_, rfl⟩
    rw [← hw] at HI10 HB10 HK10 ⊢
    clear hw
    refine (Ylb.calls _ _ _ _ (HE.out.below HB10.out) HM.out).mono ?_
    rintro e w11 ⟨rfl, hbx⟩
    have HI11 := Ya.mk (HI10.out.below hbx)
    have HB11 := Ya.mk (HB10.out.trans (hbx.mono HB10.out.size))
    have HK11 := Ya.mk (KeepBut.below' HK10.out hbx)
    clear hbx
    have hc11 := Yaa HI11.out.1
    have hf11 := Yc HI11.out.1 6
    go_wp2_with fail
    obtain ⟨hbx, hkx⟩ := Yoe (W2 := w11) HB11.out HK11.out HG.out 6 (.string r7)
    have HI12 := Ya.mk (HI11.out.set_6 r7)
    have HB12 := Ya.mk hbx
    have HK12 := Ya.mk hkx
    clear hbx hkx hc11 hf11
    obtain ⟨w12, hw⟩ : ∃ W, W = w11.setCell ⟨g, 6, none⟩ (.string r7) := ⟨_, rfl⟩
    rw [← hw] at HI12 HB12 HK12 ⊢
    clear hw
    go_end0
    exact ⟨rfl, by rw [HRr.out]; exact HI12.out, HB12.out, HK12.out⟩
 ·rw [if_neg hs] at h; cases h
end Go.Proofs.YtfmjnmglagdcdaaGreatDoor.X
