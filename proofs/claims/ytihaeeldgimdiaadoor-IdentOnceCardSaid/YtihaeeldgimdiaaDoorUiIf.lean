/- far: entries that are not far are few, and their texts are texts that can be told. -/
import Derived.Test.YtihaeeldgimdiaaDoorUiIo
import Derived.Test.YtihaeeldgimdiaaDoorUiX1
namespace Go.Proofs.YtihaeeldgimdiaaDoor.X
open Go.RowKit Go.Lib Go.Proofs.YtihaeeldgimdiaaDoorW.PrintWords Go.Proofs.YtihaeeldgimdiaaDoorW.PrintLast Go.Proofs.YtihaeeldgimdiaaDoorW.PrintMore
set_option linter.unusedVariables false
set_option linter.unusedSimpArgs false
theorem mn_le_l (a b : Int) : mn a b ≤ a := by unfold mn; split <;> omega
theorem mn_le_r (a b : Int) : mn a b ≤ b := by unfold mn; split <;> omega
theorem mn_ge {a b : Int} (h1 : 0 ≤ a) (h2 : 0 ≤ b) : 0 ≤ mn a b := by unfold mn; split <;> omega
def lsum : List ByteArray → Int
 | [] => 0
 | s :: r => mn (s.size : Int) 5000 + lsum r
theorem lsum_le : ∀ l : List ByteArray, 0 ≤ lsum l ∧ lsum l ≤ 5000 * l.length
 | [] => by simp [lsum]
 | s :: r => by
  have := lsum_le r
  have q1 := mn_le_r (s.size : Int) 5000
  have q2 := mn_ge (show 0 ≤ (s.size : Int) by omega) (show (0 : Int) ≤ 5000 by decide)
  simp only [lsum, List.length_cons]
  omega
theorem size_l1 (ls : List (List ByteArray)) (lz j : Int) (x5 x47 : List ByteArray) (hz : x47.length ≤ 50) :
  ∀ (d i : Nat) (x3 : Int), i + d = x47.length → 0 ≤ x3 → x3 ≤ 1000000000000000000 + 5000 * i →
   (x5.length ≤ 50 → ∀ r, EvR (fun k => cringlelaw21_size.l0 k (x3 + lsum (x47.drop i)) ls lz (wrap64 (j + 1))) r → EvR (fun k => cringlelaw21_size.l1 k x3 x5 ls lz j x47 (x47.length : Int) (i : Int)) r) ∧
   (50 < x5.length → EvR (fun k => cringlelaw21_size.l1 k x3 x5 ls lz j x47 (x47.length : Int) (i : Int)) 1048576)
 | 0, i, x3, hi, h0, h1 => by
  rw [List.drop_eq_nil_of_le (show x47.length ≤ i by omega)]
  refine ⟨fun hl r h => ?_, fun hl => ?_⟩
  ·refine EvR.succ (EvR.congr h (fun k => ?_))
   simp only [cringlelaw21_size.l1, lsum, Int.add_zero]
   rw [if_neg (by omega), if_neg (by omega)]
  ·refine EvR.succ (EvR.of fun k => ?_)
   simp only [cringlelaw21_size.l1]
   rw [if_neg (by omega), if_pos (by omega)]
 | d + 1, i, x3, hi, h0, h1 => by
  have hlt : i < x47.length := by omega
  have hrd : rdOf ByteArray.empty x47 (i : Int) = x47[i] := by unfold rdOf; rw [Int.toNat_natCast, List.getD_eq_getElem?_getD, List.getElem?_eq_getElem hlt]; rfl
  have hdrop : x47.drop i = x47[i] :: x47.drop (i + 1) := List.drop_eq_getElem_cons hlt
  have q1 := mn_le_r (x47[i].size : Int) 5000
  have q2 := mn_ge (show 0 ≤ (x47[i].size : Int) by omega) (show (0 : Int) ≤ 5000 by decide)
  have hw : wrap64 (x3 + mn (x47[i].size : Int) 5000) = x3 + mn (x47[i].size : Int) 5000 := by unfold wrap64; omega
  have hw1 : wrap64 ((i : Int) + 1) = ((i + 1 : Nat) : Int) := by unfold wrap64; omega
  obtain ⟨ha, hb⟩ := size_l1 ls lz j x5 x47 hz d (i + 1) (x3 + mn (x47[i].size : Int) 5000) (by omega) (by omega) (by omega)
  rw [hdrop]
  refine ⟨fun hl r h => ?_, fun hl => ?_⟩
  ·refine EvR.succ (EvR.congr (ha hl r (by simp only [lsum] at h; rw [Int.add_assoc]; exact h)) (fun k => ?_))
   simp only [cringlelaw21_size.l1]
   rw [if_pos (by omega), if_pos (by omega), if_pos (by omega), hrd, hw, hw1]
  ·refine EvR.succ (EvR.congr (hb hl) (fun k => ?_))
   simp only [cringlelaw21_size.l1]
   rw [if_pos (by omega), if_pos (by omega), if_pos (by omega), hrd, hw, hw1]
theorem size_l0 (ls : List (List ByteArray)) (hls : ls.length ≤ 100) : ∀ (d j : Nat) (x3 : Int), j + d = ls.length → 0 ≤ x3 → x3 ≤ 800000000000000 + 250000 * j →
  ∃ r, EvR (fun k => cringlelaw21_size.l0 k x3 ls (ls.length : Int) (j : Int)) r ∧ 0 ≤ r ∧ r ≤ 900000000000000 ∧ (r ≤ 12000 → x3 ≤ r ∧ ∀ l ∈ ls.drop j, l.length ≤ 50)
 | 0, j, x3, hj, h0, h1 => by
  refine ⟨x3, EvR.succ (EvR.of fun k => ?_), h0, by omega, fun _ => ⟨by omega, by rw [List.drop_eq_nil_of_le (by omega)]; simp⟩⟩
  simp only [cringlelaw21_size.l0]
  rw [if_neg (by omega)]
 | d + 1, j, x3, hj, h0, h1 => by
  have hlt : j < ls.length := by omega
  have hrd : rd_L1 ls (j : Int) = ls[j] := by unfold rd_L1; rw [Int.toNat_natCast, List.getD_eq_getElem?_getD, List.getElem?_eq_getElem hlt]; rfl
  have hdrop : ls.drop j = ls[j] :: ls.drop (j + 1) := List.drop_eq_getElem_cons hlt
  have hw1 : wrap64 ((j : Int) + 1) = ((j + 1 : Nat) : Int) := by unfold wrap64; omega
  generalize hl : ls[j] = l at hrd hdrop
  have q1 := mn_le_r (l.length : Int) 50
  have q2 := mn_le_l (l.length : Int) 50
  have q3 := mn_ge (show 0 ≤ (l.length : Int) by omega) (show (0 : Int) ≤ 50 by decide)
  have ht : (l.take (mn (l.length : Int) 50).toNat).length ≤ 50 := by rw [List.length_take]; omega
  have hunf : ∀ k, cringlelaw21_size.l0 (k + 1) x3 ls (ls.length : Int) (j : Int) = cringlelaw21_size.l1 k x3 l ls (ls.length : Int) (j : Int) (l.take (mn (l.length : Int) 50).toNat) ((l.take (mn (l.length : Int) 50).toNat).length : Int) ((0 : Nat) : Int) := fun k => by
   simp only [cringlelaw21_size.l0]
   rw [if_pos (by omega), if_pos (by omega), if_pos (by omega), hrd, if_pos q3, if_pos q2]
   rfl
  have hls := lsum_le (l.take (mn (l.length : Int) 50).toNat)
  obtain ⟨ha, hb⟩ := size_l1 ls (ls.length : Int) (j : Int) l (l.take (mn (l.length : Int) 50).toNat) ht (l.take (mn (l.length : Int) 50).toNat).length 0 x3 (by omega) h0 (by omega)
  by_cases hlen : l.length ≤ 50
  ·obtain ⟨r, hr, r0, r1, r2⟩ := size_l0 ls ‹_› d (j + 1) (x3 + lsum (l.take (mn (l.length : Int) 50).toNat)) (by omega) (by omega) (by omega)
   rw [List.drop_zero, hw1] at ha
   refine ⟨r, EvR.succ (EvR.congr (ha hlen r hr) hunf), r0, r1, fun h => ⟨by have := (r2 h).1; omega, ?_⟩⟩
   rw [hdrop]
   intro x hx
   rcases List.mem_cons.1 hx with rfl | hx
   ·exact hlen
   ·exact (r2 h).2 x hx
  ·exact ⟨1048576, EvR.succ (EvR.congr (hb (by omega)) hunf), by omega, by omega, fun h => absurd h (by decide)⟩
structure EntRead (x : S30) : Prop where
 s1 : x.f1.size ≤ 140737488351232
 s2 : x.f2.size ≤ 140737488351232
 s3 : x.f3.size ≤ 140737488351232
 s4 : x.f4.size ≤ 140737488351232
 s5 : x.f5.size ≤ 140737488351232
 hs : ∀ l ∈ [x.f9, x.f10, x.f11, x.f12, x.f13], ∀ s ∈ l, s.size ≤ 140737488351232
theorem size_f (x : S30) (h : EntRead x) : ∃ r, EvR (fun k => cringlelaw21_size.f k x.f0 x.f1 x.f2 x.f3 x.f4 x.f5 x.f6 x.f7 x.f8.f0 x.f8.f1 x.f8.f2 x.f9 x.f10 x.f11 x.f12 x.f13) r ∧ 0 ≤ r ∧ r ≤ 900000000000000 ∧ (r ≤ 12000 → OfOk x) := by
 obtain ⟨s1, s2, s3, s4, s5, hs⟩ := h
 obtain ⟨r, hr, r0, r1, r2⟩ := size_l0 [x.f9, x.f10, x.f11, x.f12, x.f13] (by simp) 5 0 ((x.f1.size : Int) + x.f2.size + x.f3.size + x.f4.size + x.f5.size) rfl (by omega) (by omega)
 refine ⟨r, ?_, r0, r1, fun h => ?_⟩
 ·unfold cringlelaw21_size.f
  have w1 : wrap64 ((x.f1.size : Int) + x.f2.size) = (x.f1.size : Int) + x.f2.size := by unfold wrap64; omega
  have w2 : wrap64 ((x.f1.size : Int) + x.f2.size + x.f3.size) = (x.f1.size : Int) + x.f2.size + x.f3.size := by unfold wrap64; omega
  have w3 : wrap64 ((x.f1.size : Int) + x.f2.size + x.f3.size + x.f4.size) = (x.f1.size : Int) + x.f2.size + x.f3.size + x.f4.size := by unfold wrap64; omega
  have w4 : wrap64 ((x.f1.size : Int) + x.f2.size + x.f3.size + x.f4.size + x.f5.size) = (x.f1.size : Int) + x.f2.size + x.f3.size + x.f4.size + x.f5.size := by unfold wrap64; omega
  simp only [Option.bind_some]
  rw [w1, w2, w3, w4]
  exact hr
 ·obtain ⟨h1, h2⟩ := r2 h
  have hl := fun l hl => h2 l hl
  have hp : ∀ l ∈ [x.f11, x.f12, x.f13, x.f9], l ∈ [x.f9, x.f10, x.f11, x.f12, x.f13] := by
   intro l hm
   simp only [List.mem_cons, List.not_mem_nil, or_false] at hm ⊢
   rcases hm with h | h | h | h <;> simp [h]
  exact ⟨by omega, by omega, by omega, by omega, by omega, fun l hm => by have := h2 l (hp l hm); omega, fun l hm s hs2 => by have := hs l (hp l hm) s hs2; omega⟩
theorem far_l0 (x0 : List S30) (l : List S30) (hl : l.length ≤ 20) (hr : ∀ x ∈ l, EntRead x) : ∀ (d i : Nat) (n : Int), i + d = l.length → 0 ≤ n → n ≤ 140737488355328 + 900000000000000 * i →
  ∃ b, (EvR (fun k => cringlelaw21_far.l0 k x0 n l (l.length : Int) (i : Int)) b) ∧ (b = false → x0.length ≤ 20 ∧ n ≤ 12000 ∧ ∀ x ∈ l.drop i, OfOk x)
 | 0, i, n, hi, h0, h1 => by
  by_cases hn : n > 12000
  ·refine ⟨true, EvR.succ (EvR.of fun k => ?_), fun h => by cases h⟩
   simp only [cringlelaw21_far.l0]
   rw [if_neg (by omega), if_pos hn]
  ·refine ⟨decide ((x0.length : Int) > 20), EvR.succ (EvR.of fun k => ?_), fun h => ⟨by have := of_decide_eq_false h; omega, by omega, by rw [List.drop_eq_nil_of_le (by omega)]; simp⟩⟩
   simp only [cringlelaw21_far.l0]
   rw [if_neg (by omega), if_neg hn]
 | d + 1, i, n, hi, h0, h1 => by
  have hlt : i < l.length := by omega
  have hrd : rd_T30 l (i : Int) = l[i] := by unfold rd_T30; rw [Int.toNat_natCast, List.getD_eq_getElem?_getD, List.getElem?_eq_getElem hlt]; rfl
  have hdrop : l.drop i = l[i] :: l.drop (i + 1) := List.drop_eq_getElem_cons hlt
  have hw1 : wrap64 ((i : Int) + 1) = ((i + 1 : Nat) : Int) := by unfold wrap64; omega
  obtain ⟨r, hz, r0, r1, r2⟩ := size_f l[i] (hr _ (List.getElem_mem hlt))
  have hw : wrap64 (n + r) = n + r := by unfold wrap64; omega
  obtain ⟨b, hb, hf⟩ := far_l0 x0 l hl hr d (i + 1) (n + r) (by omega) (by omega) (by omega)
  refine ⟨b, EvR.succ ?_, fun h => ?_⟩
  ·refine EvR.congr (EvR.bind (g := fun k t => cringlelaw21_far.l0 k x0 (wrap64 (n + t)) l (l.length : Int) ((i + 1 : Nat) : Int)) hz (by rw [hw]; exact hb)) (fun k => ?_)
   simp only [cringlelaw21_far.l0]
   rw [if_pos (by omega), if_pos (by omega), if_pos (by omega), hrd, hw1]
  ·obtain ⟨f1, f2, f3⟩ := hf h
   refine ⟨f1, by omega, fun x hx => ?_⟩
   rw [hdrop] at hx
   rcases List.mem_cons.1 hx with rfl | hx
   ·exact r2 (by omega)
   ·exact f3 x hx
theorem far_f (l : List S30) (ids : List ByteArray) (hr : ∀ x ∈ l, EntRead x) (hi : ids.length ≤ 140737488355328) :
  ∃ b, EvR (fun k => cringlelaw21_far.f k l ids) b ∧ (b = false → l.length ≤ 20 ∧ ids.length ≤ 12000 ∧ ∀ x ∈ l, OfOk x) := by
 have q1 := mn_le_r (l.length : Int) 20
 have q2 := mn_le_l (l.length : Int) 20
 have q3 := mn_ge (show 0 ≤ (l.length : Int) by omega) (show (0 : Int) ≤ 20 by decide)
 obtain ⟨b, hb, hf⟩ := far_l0 l (l.take (mn (l.length : Int) 20).toNat) (by rw [List.length_take]; omega) (fun x hx => hr x (List.mem_of_mem_take hx)) (l.take (mn (l.length : Int) 20).toNat).length 0 (ids.length : Int) (by omega) (by omega) (by omega)
 refine ⟨b, EvR.congr hb (fun k => ?_), fun h => ?_⟩
 ·unfold cringlelaw21_far.f
  rw [if_pos q3, if_pos q2]
  rfl
 ·obtain ⟨f1, f2, f3⟩ := hf h
  refine ⟨f1, by omega, fun x hx => f3 x ?_⟩
  have : mn (l.length : Int) 20 = (l.length : Int) := by unfold mn; split <;> omega
  rw [this, Int.toNat_natCast, List.take_length, List.drop_zero]
  exact hx
end Go.Proofs.YtihaeeldgimdiaaDoor.X
