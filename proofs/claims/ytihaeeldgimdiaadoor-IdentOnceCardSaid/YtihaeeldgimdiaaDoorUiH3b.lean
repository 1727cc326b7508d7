/- The parser's tail: the path, the query and the fragment. -/
import Derived.Test.YtihaeeldgimdiaaDoorUiH3a
namespace Go.Proofs.YtihaeeldgimdiaaDoor.X
open Go.RowKit Go.Lib Go.Shelf Go.Proofs.YtihaeeldgimdiaaDoorW.PrintWords Go.Proofs.YtihaeeldgimdiaaDoorW.PrintLast Go.Proofs.YtihaeeldgimdiaaDoorW.PrintMore
set_option linter.unusedVariables false
set_option linter.unusedSimpArgs false
def forQueryB : List UInt8 := [34, 60, 62, 35, 39]
def forFragB : List UInt8 := [34, 60, 62, 96]
def notIn (any : List UInt8) (b : UInt8) : Bool := !any.contains b
def headL (l : List UInt8) : List UInt8 := l.takeWhile (notIn [63, 35])
def behindL (l : List UInt8) : List UInt8 := l.dropWhile (notIn [63, 35])
def queryOf : List UInt8 → Option (List UInt8)
 | [] => none
 | b :: l => if b = 63 then some (l.takeWhile (notIn [35])) else none
def afterQuery : List UInt8 → List UInt8
 | [] => []
 | b :: l => if b = 63 then l.dropWhile (notIn [35]) else b :: l
def hasHead (c : UInt8) : List UInt8 → Bool
 | [] => false
 | b :: _ => b == c
def stripB (c : UInt8) : List UInt8 → List UInt8
 | [] => []
 | b :: t => if b = c then t else b :: t
def fragOf : List UInt8 → Option (List UInt8)
 | [] => none
 | b :: l => if b = 35 then some l else none
def restOf (l : List UInt8) : List UInt8 := stripB 35 l
theorem query_some (l : List UInt8) : (queryOf l).isSome = hasHead 63 l := by
 cases l with
 | nil => rfl
 | cons b t => simp only [queryOf, hasHead]; split <;> simp_all
theorem frag_some (l : List UInt8) : (fragOf l).isSome = hasHead 35 l := by
 cases l with
 | nil => rfl
 | cons b t => simp only [fragOf, hasHead]; split <;> simp_all
theorem until_take (s chars : ByteArray) : s.extract 0 (untilLen s chars) = ofL (s.data.toList.takeWhile (notIn chars.data.toList)) ∧ s.extract (untilLen s chars) s.size = ofL (s.data.toList.dropWhile (notIn chars.data.toList)) := by
 rw [extract_head, extract_tail]
 have key : ∀ l : List UInt8, (if Lib.indexAny l chars.data.toList < 0 then l.length else (Lib.indexAny l chars.data.toList).toNat) = (l.takeWhile (notIn chars.data.toList)).length := by
  intro l
  induction l with
  | nil => rfl
  | cons b l ih =>
   rw [Lib.indexAny]
   by_cases h : chars.data.toList.contains b = true
   ·rw [if_pos h, List.takeWhile_cons_of_neg (by simp only [notIn, h]; decide)]; rfl
   ·rw [if_neg h, List.takeWhile_cons_of_pos (by simp only [notIn, Bool.not_eq_true] at h ⊢; rw [h]; rfl)]
    simp only [List.length_cons]
    rw [← ih]
    have hg := Lib.indexAny_ge chars.data.toList l
    by_cases h2 : (Lib.indexAny l chars.data.toList == -1) = true
    ·have h5 := beq_iff_eq.1 h2
     rw [if_pos h2, if_pos (by decide), if_pos (by omega)]
    ·have h4 : ¬ Lib.indexAny l chars.data.toList = -1 := fun e => h2 (beq_iff_eq.2 e)
     have h5 : ¬ Lib.indexAny l chars.data.toList < 0 := by omega
     have h6 : ¬ Lib.indexAny l chars.data.toList + 1 < 0 := by omega
     rw [if_neg h2, if_neg h6, if_neg h5]; omega
 have h1 : untilLen s chars = (s.data.toList.takeWhile (notIn chars.data.toList)).length := by
  rw [← key]; unfold untilLen; rw [Lib.size_eq]
 have h2 := List.takeWhile_append_dropWhile (p := notIn chars.data.toList) (l := s.data.toList)
 rw [h1]
 constructor
 ·have := List.take_left (l₁ := s.data.toList.takeWhile (notIn chars.data.toList)) (l₂ := s.data.toList.dropWhile (notIn chars.data.toList))
  rw [h2] at this
  rw [this]
 ·have := List.drop_left (l₁ := s.data.toList.takeWhile (notIn chars.data.toList)) (l₂ := s.data.toList.dropWhile (notIn chars.data.toList))
  rw [h2] at this
  rw [this]
theorem take_f (s0 s1 s2 : ByteArray) (s3 : Int) (s4 s5 s6 : ByteArray) (s7 s8 : Bool) (any : ByteArray) (ha : isAscii any.data.toList = true) (hs : s0.size ≤ 140737488355328) :
  url_rest_take.f s0 s1 s2 s3 s4 s5 s6 s7 s8 any = some (ofL (s0.data.toList.takeWhile (notIn any.data.toList)), ofL (s0.data.toList.dropWhile (notIn any.data.toList)), s1, s2, s3, s4, s5, s6, s7, s8) := by
 unfold url_rest_take.f
 rw [if_pos ⟨ha, hs⟩, (until_take s0 any).1, (until_take s0 any).2]
theorem has_f (l : List UInt8) (s1 s2 : ByteArray) (s3 : Int) (s4 s5 s6 : ByteArray) (s7 s8 : Bool) (c : UInt8) (hs : l.length ≤ 140737488355328) :
  url_rest_has.f (ofL l) s1 s2 s3 s4 s5 s6 s7 s8 (c.toNat : Int) = some (hasHead c l, ofL (stripB c l), s1, s2, s3, s4, s5, s6, s7, s8) := by
 unfold url_rest_has.f
 rw [if_pos (by rw [ofL_size]; exact hs)]
 cases l with
 | nil => rfl
 | cons b t =>
  have hb : bt (ofL (b :: t)) 0 = (b.toNat : Int) := rfl
  have hsz : (ofL (b :: t)).size = t.length + 1 := by rw [ofL_size]; rfl
  simp only [hasHead, stripB]
  by_cases h : b = c
  ·rw [if_pos h, if_pos ⟨by omega, by rw [hb, h]⟩, extract_tail, h]; simp [ofL_data]
  ·rw [if_neg h, if_neg]
   ·simp [h]
   ·rintro ⟨_, h2⟩
    rw [hb] at h2
    exact h (UInt8.toNat_inj.1 (by omega))
def url_parser_tail.f (s0 s1 s2 : ByteArray) (s3 : Int) (s4 s5 s6 : ByteArray) (s7 s8 : Bool) : Option (ByteArray × ByteArray × ByteArray × Int × ByteArray × ByteArray × ByteArray × Bool × Bool) :=
 if s0.size ≤ 100000000 then
  some (ofL (restOf (afterQuery (behindL s0.data.toList))), s1, s2, s3, ofL (pathL (headL s0.data.toList)),
   (match queryOf (behindL s0.data.toList) with | some q => ofL (partL forQueryB q) | none => s5),
   (match fragOf (afterQuery (behindL s0.data.toList)) with | some q => ofL (partL forFragB q) | none => s6),
   (match queryOf (behindL s0.data.toList) with | some _ => true | none => s7),
   (match fragOf (afterQuery (behindL s0.data.toList)) with | some _ => true | none => s8))
 else none
theorem dropWhile_le (p : UInt8 → Bool) (l : List UInt8) : (l.dropWhile p).length ≤ l.length := (List.dropWhile_sublist _).length_le
theorem takeWhile_le (p : UInt8 → Bool) (l : List UInt8) : (l.takeWhile p).length ≤ l.length := (List.takeWhile_sublist _).length_le
theorem state_set {w0 w w1 W2 : World} {g : Nat} (hB : Below w0.heap.size w0 w1) (hK : KeepBut w w1 g none) (hg : w0.heap.size ≤ g) (j : Nat) (u : Value) :
  Below w0.heap.size w0 (w1.setCell ⟨g, j, none⟩ u) ∧ KeepBut w (w1.setCell ⟨g, j, none⟩ u) g none := ⟨below_set hB hg, hK.set_ j u⟩
set_option maxHeartbeats 8000000 in
set_option maxRecDepth 100000 in
theorem url_parser_tail.calls (g : Nat) (s0 s1 s2 : ByteArray) (s3 : Int) (s4 s5 s6 : ByteArray) (s7 s8 : Bool) (r1 r2 r3 : ByteArray) (r4 : Int) (r5 r6 r7 : ByteArray) (r8 r9 : Bool) (w0 w : World) (hE : EnvOk w0) (hI : IsS57 w0 w g s0 s1 s2 s3 s4 s5 s6 s7 s8) (hB : Below w0.heap.size w0 w) (h : url_parser_tail.f s0 s1 s2 s3 s4 s5 s6 s7 s8 = some (r1, r2, r3, r4, r5, r6, r7, r8, r9)) :
  Calls Tryd.prog 23 #[.pointer (some ⟨g, 0, none⟩)] w fun e w' => e = .returned (.tuple #[]) ∧ IsS57 w0 w' g r1 r2 r3 r4 r5 r6 r7 r8 r9 ∧ Below w0.heap.size w0 w' ∧ KeepBut w w' g none := by
 unfold url_parser_tail.f at h
 by_cases hs : s0.size ≤ 100000000
 ·rw [if_pos hs] at h
  simp only [Option.some.injEq, Prod.mk.injEq] at h
  obtain ⟨rfl, rfl, rfl, rfl, h5, h6, h7, h8, h9⟩ := h
  have HE := Aside0.mk hE
  have HI := Aside0.mk hI
  have HB := Aside0.mk hB
  have HG := Aside0.mk hI.ge
  have ht1 : url_rest_take.f s0 s1 s2 s3 s4 s5 s6 s7 s8 ⟨#[63, 35]⟩ = some (ofL (headL s0.data.toList), ofL (behindL s0.data.toList), s1, s2, s3, s4, s5, s6, s7, s8) :=
   take_f s0 s1 s2 s3 s4 s5 s6 s7 s8 ⟨#[63, 35]⟩ rfl (by omega)
  have HT1 := Aside0.mk ht1
  have hp : url_Path.f (ofL (headL s0.data.toList)) = some r5 := by
   unfold url_Path.f
   rw [if_pos (by rw [ofL_size]; have := takeWhile_le (notIn [63, 35]) s0.data.toList; rw [← Lib.size_eq] at this; unfold headL; omega), ofL_data, h5]
  have HP := Aside0.mk hp
  have hl1 : (behindL s0.data.toList).length ≤ 100000000 := by
   have := dropWhile_le (notIn [63, 35]) s0.data.toList; rw [← Lib.size_eq] at this; unfold behindL; omega
  obtain ⟨l1, hl1e⟩ : ∃ l1, l1 = behindL s0.data.toList := ⟨_, rfl⟩
  rw [← hl1e] at HT1 h6 h7 h8 h9 hl1 ⊢
  have hl3 : (afterQuery l1).length ≤ 100000000 := by
   unfold afterQuery
   cases l1 with
   | nil => simp
   | cons b t =>
    simp only
    split
    ·have := dropWhile_le (notIn [35]) t; simp only [List.length_cons] at hl1; omega
    ·exact hl1
  clear hE hI hB ht1 hp hl1e h5
  go_enter Tryd.func23, Tryd.ntmps23
  go_wp2_with fail
  refine (url_rest_take.calls g s0 s1 s2 s3 s4 s5 s6 s7 s8 ⟨#[63, 35]⟩ _ _ _ _ _ _ _ _ _ _ w0 _ HE.out HI.out HB.out HT1.out).mono ?_
  rintro e w1 ⟨rfl, hi1, hb1, hk1⟩
  have HB1 := Aside0.mk hb1
  have HI1 := Aside0.mk hi1
  have HK1 := Aside0.mk hk1
  have HE1 := Aside0.mk (HE.out.below hb1)
  clear hi1 hb1 hk1
  go_wp2_with fail
  refine (url_Path.calls _ _ _ HE1.out HP.out).mono ?_
  rintro e w2 ⟨rfl, hb2⟩
  have HI2 := Aside0.mk (HI1.out.below hb2)
  have HB2 := Aside0.mk (HB1.out.trans (hb2.mono HB1.out.size))
  have HK2 := Aside0.mk (KeepBut.below' HK1.out hb2)
  have hc2 := cellS57_4 HI2.out.1
  have hf2 := blk_frozen HI2.out.1 4
  clear hb2
  go_wp2_with fail
  obtain ⟨hbx, hkx⟩ := state_set (W2 := w2) HB2.out HK2.out HG.out 4 (.string r5)
  have HI3 := Aside0.mk (HI2.out.set_4 r5)
  have HB3 := Aside0.mk hbx
  have HK3 := Aside0.mk hkx
  clear hbx hkx hc2 hf2
  obtain ⟨w3, hw⟩ : ∃ W, W = w2.setCell ⟨g, 4, none⟩ (.string r5) := ⟨_, rfl⟩
  rw [← hw] at HI3 HB3 HK3 ⊢
  clear hw
  have hq : url_rest_has.f (ofL l1) s1 s2 s3 r5 s5 s6 s7 s8 63 = some ((queryOf l1).isSome, ofL (stripB 63 l1), s1, s2, s3, r5, s5, s6, s7, s8) := by
   have := has_f l1 s1 s2 s3 r5 s5 s6 s7 s8 63 (by omega)
   rw [show ((63 : UInt8).toNat : Int) = 63 from rfl] at this
   rw [this, query_some]
  have HQ := Aside0.mk hq
  clear hq
  go_wp2_with fail
  refine (url_rest_has.calls g _ _ _ _ _ _ _ _ _ 63 _ _ _ _ _ _ _ _ _ _ w0 _ HE.out HI3.out HB3.out HQ.out).mono ?_
  rintro e w4 ⟨rfl, hix, hbx, hkx⟩
  have HI4 := Aside0.mk hix
  have HB4 := Aside0.mk hbx
  have HK4 := Aside0.mk (HK3.out.trans hkx (.inl rfl))
  have HE4 := Aside0.mk (HE.out.below hbx)
  clear hix hbx hkx
  cases hqo : queryOf l1 with
  | none =>
   rw [hqo] at h6 h8
   simp only at h6 h8
   have ha : stripB 63 l1 = afterQuery l1 := by
    cases l1 with
    | nil => rfl
    | cons b t =>
     simp only [queryOf, afterQuery, stripB] at hqo ⊢
     split at hqo
     ·cases hqo
     ·rw [if_neg (by assumption), if_neg (by assumption)]
   rw [ha] at HI4
   clear ha hqo
   subst h6 h8
   have hq2 : url_rest_has.f (ofL (afterQuery l1)) s1 s2 s3 r5 s5 s6 s7 s8 35 = some ((fragOf (afterQuery l1)).isSome, ofL (restOf (afterQuery l1)), s1, s2, s3, r5, s5, s6, s7, s8) := by
    have := has_f (afterQuery l1) s1 s2 s3 r5 s5 s6 s7 s8 35 (by omega)
    rw [show ((35 : UInt8).toNat : Int) = 35 from rfl] at this
    rw [this, frag_some]; rfl
   have HQ2 := Aside0.mk hq2
   clear hq2
   go_wp2_with fail
   refine (url_rest_has.calls g _ _ _ _ _ _ _ _ _ 35 _ _ _ _ _ _ _ _ _ _ w0 _ HE.out HI4.out HB4.out HQ2.out).mono ?_
   rintro e w5 ⟨rfl, hix, hbx, hkx⟩
   have HI5 := Aside0.mk hix
   have HB5 := Aside0.mk hbx
   have HK5 := Aside0.mk (HK4.out.trans hkx (.inl rfl))
   have HE5 := Aside0.mk (HE.out.below hbx)
   clear hix hbx hkx
   cases hfo : fragOf (afterQuery l1) with
   | none =>
    rw [hfo] at h7 h9
    simp only at h7 h9
    subst h7 h9
    clear hfo
    go_wp2
    go_end0
    exact ⟨rfl, HI5.out, HB5.out, HK5.out⟩
   | some fr =>
    rw [hfo] at h7 h9
    simp only at h7 h9
    have hr : restOf (afterQuery l1) = fr := by
     cases ha : afterQuery l1 with
     | nil => rw [ha] at hfo; cases hfo
     | cons b t =>
      rw [ha] at hfo
      simp only [fragOf, restOf, stripB] at hfo ⊢
      split at hfo
      ·rw [if_pos (by assumption)]; exact Option.some.inj hfo
      ·cases hfo
    have hfl : fr.length ≤ 100000000 := by
     have h10 : fr.length ≤ (afterQuery l1).length := by
      cases ha : afterQuery l1 with
      | nil => rw [ha] at hfo; cases hfo
      | cons b t => rw [← hr, ha]; simp only [restOf, stripB]; split <;> simp
     omega
    have HIy := Aside0.mk HI5.out
    rw [hr] at HIy
    have hm : url_marked.f (ofL fr) ⟨#[34, 60, 62, 96]⟩ = some r7 := by
     unfold url_marked.f
     rw [if_pos (by rw [ofL_size]; omega), ← h7]; rfl
    have HM := Aside0.mk hm
    replace HI5 := HIy
    have HRr := Aside0.mk hr
    clear hm hfo hr h7 HIy
    subst h9
    have hc5 := cellS57_8 HI5.out.1
    have hf5 := blk_frozen HI5.out.1 8
    have hld := cellS57_0 (HI5.out.set_8 true).1
    go_wp2_with fail
    clear hld
    obtain ⟨hbx, hkx⟩ := state_set (W2 := w5) HB5.out HK5.out HG.out 8 (.bool true)
    have HI6 := Aside0.mk (HI5.out.set_8 true)
    have HB6 := Aside0.mk hbx
    have HK6 := Aside0.mk hkx
    clear hbx hkx hc5 hf5
    obtain ⟨w6, hw⟩ : ∃ W, W = w5.setCell ⟨g, 8, none⟩ (.bool true) := ⟨_, rfl⟩
    rw [← hw] at HI6 HB6 HK6 ⊢
    clear hw
    refine (url_marked.calls _ _ _ _ (HE.out.below HB6.out) HM.out).mono ?_
    rintro e w7 ⟨rfl, hbx⟩
    have HI7 := Aside0.mk (HI6.out.below hbx)
    have HB7 := Aside0.mk (HB6.out.trans (hbx.mono HB6.out.size))
    have HK7 := Aside0.mk (KeepBut.below' HK6.out hbx)
    clear hbx
    have hc7 := cellS57_6 HI7.out.1
    have hf7 := blk_frozen HI7.out.1 6
    go_wp2_with fail
    obtain ⟨hbx, hkx⟩ := state_set (W2 := w7) HB7.out HK7.out HG.out 6 (.string r7)
    have HI8 := Aside0.mk (HI7.out.set_6 r7)
    have HB8 := Aside0.mk hbx
    have HK8 := Aside0.mk hkx
    clear hbx hkx hc7 hf7
    obtain ⟨w8, hw⟩ : ∃ W, W = w7.setCell ⟨g, 6, none⟩ (.string r7) := ⟨_, rfl⟩
    rw [← hw] at HI8 HB8 HK8 ⊢
    clear hw
    go_end0
    exact ⟨rfl, by rw [HRr.out]; exact HI8.out, HB8.out, HK8.out⟩
  | some qu =>
   rw [hqo] at h6 h8
   simp only at h6 h8
   obtain ⟨l2, hl2, hqu, haf⟩ : ∃ l2, stripB 63 l1 = l2 ∧ l2.takeWhile (notIn [35]) = qu ∧ afterQuery l1 = l2.dropWhile (notIn [35]) ∧ l2.length ≤ 100000000 := by
    cases l1 with
    | nil => cases hqo
    | cons b t =>
     simp only [queryOf, afterQuery, stripB] at hqo ⊢
     split at hqo
     ·refine ⟨t, by rw [if_pos (by assumption)], Option.some.inj hqo, by rw [if_pos (by assumption)], ?_⟩
      simp only [List.length_cons] at hl1; omega
     ·cases hqo
   obtain ⟨haf, hl2l⟩ := haf
   rw [hl2] at HI4
   have ht2 : url_rest_take.f (ofL l2) s1 s2 s3 r5 s5 s6 true s8 ⟨#[35]⟩ = some (ofL qu, ofL (afterQuery l1), s1, s2, s3, r5, s5, s6, true, s8) := by
    rw [take_f _ _ _ _ _ _ _ _ _ ⟨#[35]⟩ rfl (by rw [ofL_size]; omega), haf, ← hqu]; rfl
   have HT2 := Aside0.mk ht2
   have hm0 : url_marked.f (ofL qu) ⟨#[34, 60, 62, 35, 39]⟩ = some r6 := by
    unfold url_marked.f
    rw [if_pos (by rw [ofL_size, ← hqu]; have := takeWhile_le (notIn [35]) l2; omega), ← h6]; rfl
   have HM0 := Aside0.mk hm0
   clear ht2 hm0 hl2 haf hqu hqo h6
   subst h8
   have hc4 := cellS57_7 HI4.out.1
   have hf4 := blk_frozen HI4.out.1 7
   go_wp2_with fail
   obtain ⟨hbx, hkx⟩ := state_set (W2 := w4) HB4.out HK4.out HG.out 7 (.bool true)
   have HI5 := Aside0.mk (HI4.out.set_7 true)
   have HB5 := Aside0.mk hbx
   have HK5 := Aside0.mk hkx
   clear hbx hkx hc4 hf4
   obtain ⟨w5, hw⟩ : ∃ W, W = w4.setCell ⟨g, 7, none⟩ (.bool true) := ⟨_, rfl⟩
   rw [← hw] at HI5 HB5 HK5 ⊢
   clear hw
   go_wp2_with fail
   refine (url_rest_take.calls g _ _ _ _ _ _ _ _ _ ⟨#[35]⟩ _ _ _ _ _ _ _ _ _ _ w0 _ HE.out HI5.out HB5.out HT2.out).mono ?_
   rintro e w6 ⟨rfl, hix, hbx, hkx⟩
   have HI6 := Aside0.mk hix
   have HB6 := Aside0.mk hbx
   have HK6 := Aside0.mk (HK5.out.trans hkx (.inl rfl))
   have HE6 := Aside0.mk (HE.out.below hbx)
   clear hix hbx hkx
   go_wp2_with fail
   refine (url_marked.calls _ _ _ _ HE6.out HM0.out).mono ?_
   rintro e w7 ⟨rfl, hbx⟩
   have HI7 := Aside0.mk (HI6.out.below hbx)
   have HB7 := Aside0.mk (HB6.out.trans (hbx.mono HB6.out.size))
   have HK7 := Aside0.mk (KeepBut.below' HK6.out hbx)
   clear hbx
   have hc7 := cellS57_5 HI7.out.1
   have hf7 := blk_frozen HI7.out.1 5
   go_wp2_with fail
   obtain ⟨hbx, hkx⟩ := state_set (W2 := w7) HB7.out HK7.out HG.out 5 (.string r6)
   have HI8 := Aside0.mk (HI7.out.set_5 r6)
   have HB8 := Aside0.mk hbx
   have HK8 := Aside0.mk hkx
   clear hbx hkx hc7 hf7
   obtain ⟨w8, hw⟩ : ∃ W, W = w7.setCell ⟨g, 5, none⟩ (.string r6) := ⟨_, rfl⟩
   rw [← hw] at HI8 HB8 HK8 ⊢
   clear hw
   have hq2 : url_rest_has.f (ofL (afterQuery l1)) s1 s2 s3 r5 r6 s6 true s8 35 = some ((fragOf (afterQuery l1)).isSome, ofL (restOf (afterQuery l1)), s1, s2, s3, r5, r6, s6, true, s8) := by
    have := has_f (afterQuery l1) s1 s2 s3 r5 r6 s6 true s8 35 (by omega)
    rw [show ((35 : UInt8).toNat : Int) = 35 from rfl] at this
    rw [this, frag_some]; rfl
   have HQ2 := Aside0.mk hq2
   clear hq2
   go_wp2_with fail
   refine (url_rest_has.calls g _ _ _ _ _ _ _ _ _ 35 _ _ _ _ _ _ _ _ _ _ w0 _ HE.out HI8.out HB8.out HQ2.out).mono ?_
   rintro e w9 ⟨rfl, hix, hbx, hkx⟩
   have HI9 := Aside0.mk hix
   have HB9 := Aside0.mk hbx
   have HK9 := Aside0.mk (HK8.out.trans hkx (.inl rfl))
   have HE9 := Aside0.mk (HE.out.below hbx)
   clear hix hbx hkx
   cases hfo : fragOf (afterQuery l1) with
   | none =>
    rw [hfo] at h7 h9
    simp only at h7 h9
    subst h7 h9
    clear hfo
    go_wp2
    go_end0
    exact ⟨rfl, HI9.out, HB9.out, HK9.out⟩
   | some fr =>
    rw [hfo] at h7 h9
    simp only at h7 h9
    have hr : restOf (afterQuery l1) = fr := by
     cases ha : afterQuery l1 with
     | nil => rw [ha] at hfo; cases hfo
     | cons b t =>
      rw [ha] at hfo
      simp only [fragOf, restOf, stripB] at hfo ⊢
      split at hfo
      ·rw [if_pos (by assumption)]; exact Option.some.inj hfo
      ·cases hfo
    have hfl : fr.length ≤ 100000000 := by
     have h10 : fr.length ≤ (afterQuery l1).length := by
      cases ha : afterQuery l1 with
      | nil => rw [ha] at hfo; cases hfo
      | cons b t => rw [← hr, ha]; simp only [restOf, stripB]; split <;> simp
     omega
    have HIy := Aside0.mk HI9.out
    rw [hr] at HIy
    have hm : url_marked.f (ofL fr) ⟨#[34, 60, 62, 96]⟩ = some r7 := by
     unfold url_marked.f
     rw [if_pos (by rw [ofL_size]; omega), ← h7]; rfl
    have HM := Aside0.mk hm
    replace HI9 := HIy
    have HRr := Aside0.mk hr
    clear hm hfo hr h7 HIy
    subst h9
    have hc9 := cellS57_8 HI9.out.1
    have hf9 := blk_frozen HI9.out.1 8
    have hld := cellS57_0 (HI9.out.set_8 true).1
    go_wp2_with fail
    clear hld
    obtain ⟨hbx, hkx⟩ := state_set (W2 := w9) HB9.out HK9.out HG.out 8 (.bool true)
    have HI10 := Aside0.mk (HI9.out.set_8 true)
    have HB10 := Aside0.mk hbx
    have HK10 := Aside0.mk hkx
    clear hbx hkx hc9 hf9
    obtain ⟨w10, hw⟩ : ∃ W, W = w9.setCell ⟨g, 8, none⟩ (.bool true) := ⟨_, rfl⟩
    rw [← hw] at HI10 HB10 HK10 ⊢
    clear hw
    refine (url_marked.calls _ _ _ _ (HE.out.below HB10.out) HM.out).mono ?_
    rintro e w11 ⟨rfl, hbx⟩
    have HI11 := Aside0.mk (HI10.out.below hbx)
    have HB11 := Aside0.mk (HB10.out.trans (hbx.mono HB10.out.size))
    have HK11 := Aside0.mk (KeepBut.below' HK10.out hbx)
    clear hbx
    have hc11 := cellS57_6 HI11.out.1
    have hf11 := blk_frozen HI11.out.1 6
    go_wp2_with fail
    obtain ⟨hbx, hkx⟩ := state_set (W2 := w11) HB11.out HK11.out HG.out 6 (.string r7)
    have HI12 := Aside0.mk (HI11.out.set_6 r7)
    have HB12 := Aside0.mk hbx
    have HK12 := Aside0.mk hkx
    clear hbx hkx hc11 hf11
    obtain ⟨w12, hw⟩ : ∃ W, W = w11.setCell ⟨g, 6, none⟩ (.string r7) := ⟨_, rfl⟩
    rw [← hw] at HI12 HB12 HK12 ⊢
    clear hw
    go_end0
    exact ⟨rfl, by rw [HRr.out]; exact HI12.out, HB12.out, HK12.out⟩
 ·rw [if_neg hs] at h; cases h
end Go.Proofs.YtihaeeldgimdiaaDoor.X
