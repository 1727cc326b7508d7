import Derived.Test.YtihaeeldgimdiaaGreatDoorIUIz
set_option linter.all false
section
namespace Go.Proofs.YtihaeeldgimdiaaGreatDoor.X
open Go.RowKit Go.Lib Go.Shelf Go.Yw.PrintWords Go.Yw.PrintLast Go.Yw.PrintMore
set_option maxHeartbeats 4000000 in
set_option maxRecDepth 100000 in
theorem Yil (A1 : Option Addr) (c1 : Nat) (l : List S32) (w0 w : World) (lV : Below w0.heap.size w0 w) (hE : EnvOk w) (r1 : Kd.C (Kd.fixed k32 w0) w A1 l.length l)
  (hx : ∀ x ∈ l, OfOk x) (hn : l.length ≤ 100000000) :
  Calls Tryz.prog 8 #[.slice A1 l.length c1] w fun e w' => ∃ v, e = .returned v ∧ Kd.R (Kd.fixed k32 w0) 32 w' w.heap.size (fun _ => True) v (Yse [] l) ∧ Below w.heap.size w w' := by
 have HE := Ya.mk hE
 have jT := Ya.mk lV
 clear lV
 have R1 := Ya.mk r1
 have HX := Ya.mk hx
 clear hE r1 hx
 go_enter Tryz.func8, Tryz.ntmps8
 go_wp2_with fail
 refine (Yhm none A1 0 c1 [] l w0 w jT.out HE.out (Kd.C_nil _ _) R1.out Zq HX.out hn Zq).mono ?_
 rintro e w1 ⟨v, rfl, hr, hb⟩
 have HR := Ya.mk hr
 have HB := Ya.mk hb
 clear hr hb
 go_wp2_with fail
 go_ret
 exact ⟨_, rfl, HR.out, HB.out⟩
theorem fixed_C {α : Type} {d : Kd α} {w0 w : World} {A : Option Addr} {n : Nat} {xs : List α} (h : Kd.C (Kd.fixed d w0) w A n xs) (hb : Below w0.heap.size w0 w) : Kd.C d w A n xs := ReadsRow.imp_ h (Below.refl _ _) (fun _ _ hp => d.K_below hb hp)
abbrev en (uid url text : Y) : S32 := ⟨⟨#[]⟩, uid, url, ⟨#[]⟩, text, ⟨#[]⟩, 0, false, ⟨⟨#[]⟩, ⟨#[]⟩, ⟨#[]⟩⟩, [], [], [], [], []⟩
abbrev enC (uid url text : Y) : List Value := [.string ⟨#[]⟩, .string uid, .string url, .string ⟨#[]⟩, .string text, .string ⟨#[]⟩, .int .i64 0, .bool false, .string ⟨#[]⟩, .string ⟨#[]⟩, .string ⟨#[]⟩, .slice none 0 0, .slice none 0 0, .slice none 0 0, .slice none 0 0, .slice none 0 0]
theorem en_K (w : World) (uid url text : Y) : k32.K w (en uid url text) (enC uid url text) :=
 Yuk w (en uid url text) (Ks _) (Kd.C_nil _ _) (Ks _) (Kd.C_nil _ _) (Ks _) (Kd.C_nil _ _) (Ks _) (Kd.C_nil _ _) (Ks _) (Kd.C_nil _ _)
theorem en_ok {uid url text : Y} (h1 : uid.size ≤ 1000) (h2 : url.size ≤ 1000) (h3 : text.size ≤ 1000) : OfOk (en uid url text) := by
 have hz : (⟨#[]⟩ : Y).size = 0 := rfl
 exact ⟨by show uid.size ≤ _; omega, by show url.size ≤ _; omega, by show (⟨#[]⟩ : Y).size ≤ _; omega, by show text.size ≤ _; omega, by show (⟨#[]⟩ : Y).size ≤ _; omega, Zq, Zq, Zq⟩
theorem alive_of1 : ofR (en ⟨#[]⟩ ⟨#[72, 84, 84, 80, 58, 47, 47, 97, 46, 98, 35, 120]⟩ ⟨#[]⟩) = ⟨#[108, 58, 104, 116, 116, 112, 58, 47, 47, 97, 46, 98, 47]⟩ := by kernel_rfl
theorem alive_of2 : ofR (en ⟨#[107]⟩ ⟨#[]⟩ ⟨#[]⟩) = ⟨#[117, 58, 107]⟩ := by kernel_rfl
theorem alive_un : (Yse [] [en ⟨#[107]⟩ ⟨#[]⟩ ⟨#[]⟩, en ⟨#[107]⟩ ⟨#[]⟩ ⟨#[120]⟩]).length = 1 := by kernel_rfl
theorem Yys (w : World) (base : Nat) (ok : Nat → Prop) : Reps ((Kd.fixed k32 w).M w base ok) 16 [en ⟨#[107]⟩ ⟨#[]⟩ ⟨#[]⟩, en ⟨#[107]⟩ ⟨#[]⟩ ⟨#[120]⟩] (enC ⟨#[107]⟩ ⟨#[]⟩ ⟨#[]⟩ ++ enC ⟨#[107]⟩ ⟨#[]⟩ ⟨#[120]⟩) := by
 refine ⟨rfl, fun j p hj => ?_⟩
 rcases j with _ | _ | j
 ·obtain rfl : en ⟨#[107]⟩ ⟨#[]⟩ ⟨#[]⟩ = p := by simpa using hj
  exact en_K w _ _ _
 ·obtain rfl : en ⟨#[107]⟩ ⟨#[]⟩ ⟨#[120]⟩ = p := by simpa using hj
  exact en_K w _ _ _
 ·simp at hj
set_option maxHeartbeats 4000000 in
set_option maxRecDepth 100000 in
theorem Yzm (w : World) (hE : EnvOk w) : Calls Tryz.prog 6 #[] w fun e w' => e = .returned (.bool true) ∧ Below w.heap.size w w' := by
 have HE := Ya.mk hE
 clear hE
 have mT := Tryz.underlying32
 go_enter Tryz.func6, Tryz.ntmps6
 go_wp2_with fail
 refine (Yjj (en ⟨#[]⟩ ⟨#[72, 84, 84, 80, 58, 47, 47, 97, 46, 98, 35, 120]⟩ ⟨#[]⟩) _ _ HE.out (en_K _ _ _ _) (en_ok Zw Zw Zw)).mono ?_
 rintro e w1 ⟨rfl, hb⟩
 have HB := Ya.mk hb
 clear hb
 rw [alive_of1]
 go_wp2_with fail
 refine (Yjj (en ⟨#[107]⟩ ⟨#[]⟩ ⟨#[]⟩) _ _ (HE.out.below HB.out) (en_K _ _ _ _) (en_ok Zw Zw Zw)).mono ?_
 rintro e w2 ⟨rfl, hb⟩
 replace HB := Ya.mk (HB.out.trans (hb.mono HB.out.size))
 clear hb
 rw [alive_of2]
 have HL := Ya.mk (OwnRow.lit (e := 32) w2 w2.heap.size (Yys w2 w2.heap.size (fun _ => True)) (Ks _) Zw)
 have cZ := Ya.mk (HB.out.alloc HB.out.size (.cells (enC ⟨#[107]⟩ ⟨#[]⟩ ⟨#[]⟩ ++ enC ⟨#[107]⟩ ⟨#[]⟩ ⟨#[120]⟩).toArray 32))
 have HC := Ya.mk (fixed_C (Kd.R_reads' (show Kd.R (Kd.fixed k32 w2) 32 _ w2.heap.size (fun _ => True) (.slice (some ⟨w2.heap.size, 0, none⟩) 2 2) [en ⟨#[107]⟩ ⟨#[]⟩ ⟨#[]⟩, en ⟨#[107]⟩ ⟨#[]⟩ ⟨#[120]⟩] from ⟨fun _ _ => trivial, HL.out⟩)).2.2 ((Below.refl w2.heap.size w2).alloc (Ks _) _))
 go_wp2_with fail
 refine (Yil _ 2 _ _ _ (Below.refl _ _) (HE.out.below cZ.out) HC.out (by
  intro x hm
  simp only [List.mem_cons, List.not_mem_nil, or_false] at hm
  rcases hm with rfl | rfl
  ·exact en_ok Zw Zw Zw
  ·exact en_ok Zw Zw Zw) Zw).mono ?_
 rintro e w3 ⟨v, rfl, hr, hb⟩
 replace HB := Ya.mk (cZ.out.trans (hb.mono cZ.out.size))
 obtain ⟨A, c, rfl⟩ := Kd.R_slice hr
 clear hb hr
 rw [alive_un]
 go_wp2_with fail
 go_ret
 exact ⟨rfl, HB.out⟩
end Go.Proofs.YtihaeeldgimdiaaGreatDoor.X
end
section
namespace Go.Proofs.YtihaeeldgimdiaaGreatDoor.X
open Go.RowKit Go.Lib Go.Yw.PrintWords Go.Yw.PrintLast Go.Yw.PrintMore
theorem mn_le_l (a b : Int) : mn a b ≤ a := by unfold mn; split <;> omega
theorem Ybn (a b : Int) : mn a b ≤ b := by unfold mn; split <;> omega
theorem mn_ge {a b : Int} (h1 : 0 ≤ a) (h2 : 0 ≤ b) : 0 ≤ mn a b := by unfold mn; split <;> omega
def lsum : List Y → Int
 | [] => 0
 | s :: r => mn (s.size : Int) 5000 + lsum r
theorem lsum_le : ∀ l : List Y, 0 ≤ lsum l ∧ lsum l ≤ 5000 * l.length
 | [] => by simp [lsum]
 | s :: r => by
  have := lsum_le r
  have q1 := Ybn (s.size : Int) 5000
  have q2 := mn_ge (show 0 ≤ (s.size : Int) by omega) (show (0 : Int) ≤ 5000 by decide)
  simp only [lsum, List.length_cons]
  omega
theorem size_l1 (ls : List (List Y)) (lz j : Int) (x5 nE : List Y) (hz : nE.length ≤ 50) :
  ∀ (d i : Nat) (x3 : Int), i + d = nE.length → 0 ≤ x3 → x3 ≤ 1000000000000000000 + 5000 * i →
   (x5.length ≤ 50 → ∀ r, EvR (fun k => Yca.l0 k (x3 + lsum (nE.drop i)) ls lz (wrap64 (j + 1))) r → EvR (fun k => Yca.l1 k x3 x5 ls lz j nE (nE.length : Int) (i : Int)) r) ∧
   (50 < x5.length → EvR (fun k => Yca.l1 k x3 x5 ls lz j nE (nE.length : Int) (i : Int)) 1048576)
 | 0, i, x3, hi, h0, h1 => by
  rw [List.drop_eq_nil_of_le (show nE.length ≤ i by omega)]
  refine ⟨fun hl r h => ?_, fun hl => ?_⟩
  ·refine EvR.succ (EvR.congr h (fun k => ?_))
   simp only [Yca.l1, lsum, Int.add_zero]
   rw [if_neg Zj, if_neg Zj]
  ·refine EvR.succ (EvR.of fun k => ?_)
   simp only [Yca.l1]
   rw [if_neg Zj, if_pos Zj]
 | d + 1, i, x3, hi, h0, h1 => by
  have hlt : i < nE.length := by omega
  have hrd : rdOf ByteArray.empty nE (i : Int) = nE[i] := by unfold rdOf; rw [Int.toNat_natCast, List.getD_eq_getElem?_getD, List.getElem?_eq_getElem hlt]; rfl
  have hdrop : nE.drop i = nE[i] :: nE.drop (i + 1) := List.drop_eq_getElem_cons hlt
  have q1 := Ybn (nE[i].size : Int) 5000
  have q2 := mn_ge (show 0 ≤ (nE[i].size : Int) by omega) (show (0 : Int) ≤ 5000 by decide)
  have hw : wrap64 (x3 + mn (nE[i].size : Int) 5000) = x3 + mn (nE[i].size : Int) 5000 := by unfold wrap64; omega
  have iN : wrap64 ((i : Int) + 1) = ((i + 1 : Nat) : Int) := by unfold wrap64; omega
  obtain ⟨ha, hb⟩ := size_l1 ls lz j x5 nE hz d (i + 1) (x3 + mn (nE[i].size : Int) 5000) Zj Zj Zj
  rw [hdrop]
  refine ⟨fun hl r h => ?_, fun hl => ?_⟩
  ·refine EvR.succ (EvR.congr (ha hl r (by simp only [lsum] at h; rw [Int.add_assoc]; exact h)) (fun k => ?_))
   simp only [Yca.l1]
   rw [if_pos Zj, if_pos Zj, if_pos Zj, hrd, hw, iN]
  ·refine EvR.succ (EvR.congr (hb hl) (fun k => ?_))
   simp only [Yca.l1]
   rw [if_pos Zj, if_pos Zj, if_pos Zj, hrd, hw, iN]
theorem size_l0 (ls : List (List Y)) (hls : ls.length ≤ 100) : ∀ (d j : Nat) (x3 : Int), j + d = ls.length → 0 ≤ x3 → x3 ≤ 800000000000000 + 250000 * j →
  ∃ r, EvR (fun k => Yca.l0 k x3 ls (ls.length : Int) (j : Int)) r ∧ 0 ≤ r ∧ r ≤ 900000000000000 ∧ (r ≤ 12000 → x3 ≤ r ∧ ∀ l ∈ ls.drop j, l.length ≤ 50)
 | 0, j, x3, hj, h0, h1 => by
  refine ⟨x3, EvR.succ (EvR.of fun k => ?_), h0, Zj, fun _ => ⟨Zj, by rw [List.drop_eq_nil_of_le Zj]; simp⟩⟩
  simp only [Yca.l0]
  rw [if_neg Zj]
 | d + 1, j, x3, hj, h0, h1 => by
  have hlt : j < ls.length := by omega
  have hrd : Ywc ls (j : Int) = ls[j] := by unfold Ywc; rw [Int.toNat_natCast, List.getD_eq_getElem?_getD, List.getElem?_eq_getElem hlt]; rfl
  have hdrop : ls.drop j = ls[j] :: ls.drop (j + 1) := List.drop_eq_getElem_cons hlt
  have iN : wrap64 ((j : Int) + 1) = ((j + 1 : Nat) : Int) := by unfold wrap64; omega
  generalize hl : ls[j] = l at hrd hdrop
  have q1 := Ybn (l.length : Int) 50
  have q2 := mn_le_l (l.length : Int) 50
  have q3 := mn_ge (show 0 ≤ (l.length : Int) by omega) (show (0 : Int) ≤ 50 by decide)
  have ht : (l.take (mn (l.length : Int) 50).toNat).length ≤ 50 := by rw [List.length_take]; omega
  have hunf : ∀ k, Yca.l0 (k + 1) x3 ls (ls.length : Int) (j : Int) = Yca.l1 k x3 l ls (ls.length : Int) (j : Int) (l.take (mn (l.length : Int) 50).toNat) ((l.take (mn (l.length : Int) 50).toNat).length : Int) ((0 : Nat) : Int) := fun k => by
   simp only [Yca.l0]
   rw [if_pos Zj, if_pos Zj, if_pos Zj, hrd, if_pos q3, if_pos q2]
   rfl
  have hls := lsum_le (l.take (mn (l.length : Int) 50).toNat)
  obtain ⟨ha, hb⟩ := size_l1 ls (ls.length : Int) (j : Int) l (l.take (mn (l.length : Int) 50).toNat) ht (l.take (mn (l.length : Int) 50).toNat).length 0 x3 Zj h0 Zj
  by_cases hlen : l.length ≤ 50
  ·obtain ⟨r, hr, r0, r1, r2⟩ := size_l0 ls ‹_› d (j + 1) (x3 + lsum (l.take (mn (l.length : Int) 50).toNat)) Zj Zj Zj
   rw [List.drop_zero, iN] at ha
   refine ⟨r, EvR.succ (EvR.congr (ha hlen r hr) hunf), r0, r1, fun h => ⟨by have := (r2 h).1; omega, ?_⟩⟩
   rw [hdrop]
   intro x hx
   rcases List.mem_cons.1 hx with rfl | hx
   ·exact hlen
   ·exact (r2 h).2 x hx
  ·exact ⟨1048576, EvR.succ (EvR.congr (hb Zj) hunf), Zj, Zj, fun h => absurd h Zw⟩
structure Ysi (x : S32) : Prop where
 s1 : x.f1.size ≤ 140737488351232
 s2 : x.f2.size ≤ 140737488351232
 s3 : x.f3.size ≤ 140737488351232
 s4 : x.f4.size ≤ 140737488351232
 s5 : x.f5.size ≤ 140737488351232
 hs : ∀ l ∈ [x.f9, x.f10, x.f11, x.f12, x.f13], ∀ s ∈ l, s.size ≤ 140737488351232
theorem size_f (x : S32) (h : Ysi x) : ∃ r, EvR (fun k => Yca.f k x.f0 x.f1 x.f2 x.f3 x.f4 x.f5 x.f6 x.f7 x.f8.f0 x.f8.f1 x.f8.f2 x.f9 x.f10 x.f11 x.f12 x.f13) r ∧ 0 ≤ r ∧ r ≤ 900000000000000 ∧ (r ≤ 12000 → OfOk x) := by
 obtain ⟨s1, s2, s3, s4, s5, hs⟩ := h
 obtain ⟨r, hr, r0, r1, r2⟩ := size_l0 [x.f9, x.f10, x.f11, x.f12, x.f13] Zq 5 0 ((x.f1.size : Int) + x.f2.size + x.f3.size + x.f4.size + x.f5.size) rfl Zj Zj
 refine ⟨r, ?_, r0, r1, fun h => ?_⟩
 ·unfold Yca.f
  have w1 : wrap64 ((x.f1.size : Int) + x.f2.size) = (x.f1.size : Int) + x.f2.size := by unfold wrap64; omega
  have w2 : wrap64 ((x.f1.size : Int) + x.f2.size + x.f3.size) = (x.f1.size : Int) + x.f2.size + x.f3.size := by unfold wrap64; omega
  have w3 : wrap64 ((x.f1.size : Int) + x.f2.size + x.f3.size + x.f4.size) = (x.f1.size : Int) + x.f2.size + x.f3.size + x.f4.size := by unfold wrap64; omega
  have w4 : wrap64 ((x.f1.size : Int) + x.f2.size + x.f3.size + x.f4.size + x.f5.size) = (x.f1.size : Int) + x.f2.size + x.f3.size + x.f4.size + x.f5.size := by unfold wrap64; omega
  simp only [Kba]
  rw [w1, w2, w3, w4]
  exact hr
 ·obtain ⟨h1, h2⟩ := r2 h
  have hl := fun l hl => h2 l hl
  have hp : ∀ l ∈ [x.f11, x.f12, x.f13, x.f9], l ∈ [x.f9, x.f10, x.f11, x.f12, x.f13] := by
   intro l hm
   simp only [List.mem_cons, List.not_mem_nil, or_false] at hm ⊢
   rcases hm with h | h | h | h <;> simp [h]
  exact ⟨Zj, Zj, Zj, Zj, Zj, fun l hm => by have := h2 l (hp l hm); omega, fun l hm s uD => by have := hs l (hp l hm) s uD; omega, fun l hm => by have := h2 l hm; omega⟩
theorem far_l0 (x0 : List S32) (l : List S32) (hl : l.length ≤ 20) (hr : ∀ x ∈ l, Ysi x) : ∀ (d i : Nat) (n : Int), i + d = l.length → 0 ≤ n → n ≤ 140737488355328 + 900000000000000 * i →
  ∃ b, (EvR (fun k => Yra.l0 k x0 n l (l.length : Int) (i : Int)) b) ∧ (b = false → x0.length ≤ 20 ∧ n ≤ 12000 ∧ ∀ x ∈ l.drop i, OfOk x)
 | 0, i, n, hi, h0, h1 => by
  by_cases hn : n > 12000
  ·refine ⟨true, EvR.succ (EvR.of fun k => ?_), fun h => by cases h⟩
   simp only [Yra.l0]
   rw [if_neg Zj, if_pos hn]
  ·refine ⟨decide ((x0.length : Int) > 20), EvR.succ (EvR.of fun k => ?_), fun h => ⟨by have := of_decide_eq_false h; omega, Zj, by rw [List.drop_eq_nil_of_le Zj]; simp⟩⟩
   simp only [Yra.l0]
   rw [if_neg Zj, if_neg hn]
 | d + 1, i, n, hi, h0, h1 => by
  have hlt : i < l.length := by omega
  have hrd : Yj l (i : Int) = l[i] := by unfold Yj; rw [Int.toNat_natCast, List.getD_eq_getElem?_getD, List.getElem?_eq_getElem hlt]; rfl
  have hdrop : l.drop i = l[i] :: l.drop (i + 1) := List.drop_eq_getElem_cons hlt
  have iN : wrap64 ((i : Int) + 1) = ((i + 1 : Nat) : Int) := by unfold wrap64; omega
  obtain ⟨r, hz, r0, r1, r2⟩ := size_f l[i] (hr _ (List.getElem_mem hlt))
  have hw : wrap64 (n + r) = n + r := by unfold wrap64; omega
  obtain ⟨b, hb, hf⟩ := far_l0 x0 l hl hr d (i + 1) (n + r) Zj Zj Zj
  refine ⟨b, EvR.succ ?_, fun h => ?_⟩
  ·refine EvR.congr (EvR.bind (g := fun k t => Yra.l0 k x0 (wrap64 (n + t)) l (l.length : Int) ((i + 1 : Nat) : Int)) hz (by rw [hw]; exact hb)) (fun k => ?_)
   simp only [Yra.l0]
   rw [if_pos Zj, if_pos Zj, if_pos Zj, hrd, iN]
  ·obtain ⟨f1, f2, f3⟩ := hf h
   refine ⟨f1, Zj, fun x hx => ?_⟩
   rw [hdrop] at hx
   rcases List.mem_cons.1 hx with rfl | hx
   ·exact r2 Zj
   ·exact f3 x hx
theorem far_f (l : List S32) (ids : List Y) (hr : ∀ x ∈ l, Ysi x) (hi : ids.length ≤ 140737488355328) :
  ∃ b, EvR (fun k => Yra.f k l ids) b ∧ (b = false → l.length ≤ 20 ∧ ids.length ≤ 12000 ∧ ∀ x ∈ l, OfOk x) := by
 have q1 := Ybn (l.length : Int) 20
 have q2 := mn_le_l (l.length : Int) 20
 have q3 := mn_ge (show 0 ≤ (l.length : Int) by omega) (show (0 : Int) ≤ 20 by decide)
 obtain ⟨b, hb, hf⟩ := far_l0 l (l.take (mn (l.length : Int) 20).toNat) (by rw [List.length_take]; omega) (fun x hx => hr x (List.mem_of_mem_take hx)) (l.take (mn (l.length : Int) 20).toNat).length 0 (ids.length : Int) Zj Zj Zj
 refine ⟨b, EvR.congr hb (fun k => ?_), fun h => ?_⟩
 ·unfold Yra.f
  rw [if_pos q3, if_pos q2]
  rfl
 ·obtain ⟨f1, f2, f3⟩ := hf h
  refine ⟨f1, Zj, fun x hx => f3 x ?_⟩
  have : mn (l.length : Int) 20 = (l.length : Int) := by unfold mn; split <;> omega
  rw [this, Int.toNat_natCast, List.take_length, List.drop_zero]
  exact hx
end Go.Proofs.YtihaeeldgimdiaaGreatDoor.X
end
