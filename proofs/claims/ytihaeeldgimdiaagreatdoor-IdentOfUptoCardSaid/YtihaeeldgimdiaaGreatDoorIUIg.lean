import Derived.Test.YtihaeeldgimdiaaGreatDoorIUIz
import Derived.Test.YtihaeeldgimdiaaGreatDoorIUZz
set_option linter.all false
section
namespace Go.Proofs.YtihaeeldgimdiaaGreatDoor.X
open Go.RowKit Go.Lib Go.Yw.PrintWords Go.Yw.PrintLast Go.Yw.PrintMore
abbrev En := S32
theorem Yhr (s : List Y × List En) (x : En) (h : ¬ ofR x ∈ s.1) : Yfd s x = (ofR x :: s.1, s.2 ++ [Yqf x]) := by
 unfold Yfd
 rw [if_neg (fun h2 => h (Yul.1 h2))]
theorem Yvr (s : List Y × List En) (x : En) (h : ofR x ∈ s.1) : Yfd s x = s := by
 unfold Yfd
 rw [if_pos (Yul.2 h)]
structure FoldOk (s0 s : List Y × List En) (l : List En) : Prop where
 old : ∀ y ∈ s0.1, y ∈ s.1
 met : ∀ x ∈ l, ofR x ∈ s.1
 back : ∀ y ∈ s.1, y ∈ s0.1 ∨ y ∈ s.2.map (·.f0)
 new : ∃ r, s.2 = s0.2 ++ r ∧ (∀ z ∈ r, ∃ x ∈ l, z = Yqf x) ∧ (r.map (·.f0)).Nodup ∧ ∀ z ∈ r, ¬ z.f0 ∈ s0.1
theorem Ysk : ∀ (l : List En) (s0 : List Y × List En), FoldOk s0 (l.foldl Yfd s0) l
 | [], s0 => ⟨fun _ h => h, (fun _ h => by cases h), fun y h => .inl h, [], Zq, Zq, Zq, Zq⟩
 | x :: l, s0 => by
  rw [List.foldl_cons]
  by_cases hx : ofR x ∈ s0.1
  ·rw [Yvr s0 x hx]
   obtain ⟨h1, h2, h3, r, h4, h5, h6, h7⟩ := Ysk l s0
   refine ⟨h1, fun y hy => ?_, h3, r, h4, fun z hz => ?_, h6, h7⟩
   ·rcases List.mem_cons.1 hy with rfl | hy
    ·exact h1 _ hx
    ·exact h2 y hy
   ·obtain ⟨y, hy, e⟩ := h5 z hz
    exact ⟨y, List.mem_cons_of_mem _ hy, e⟩
  ·rw [Yhr s0 x hx]
   obtain ⟨h1, h2, h3, r, h4, h5, h6, h7⟩ := Ysk l (ofR x :: s0.1, s0.2 ++ [Yqf x])
   refine ⟨fun y hy => h1 y (List.mem_cons_of_mem _ hy), fun y hy => ?_, fun y hy => ?_, Yqf x :: r, by rw [h4]; simp, fun z hz => ?_, ?_, fun z hz => ?_⟩
   ·rcases List.mem_cons.1 hy with rfl | hy
    ·exact h1 _ List.mem_cons_self
    ·exact h2 y hy
   ·rcases h3 y hy with hy | hy
    ·rcases List.mem_cons.1 hy with rfl | hy
     ·right
      rw [h4]
      simp [Yqf]
     ·exact .inl hy
    ·exact .inr hy
   ·rcases List.mem_cons.1 hz with rfl | hz
    ·exact ⟨x, List.mem_cons_self, rfl⟩
    ·obtain ⟨y, hy, e⟩ := h5 z hz
     exact ⟨y, List.mem_cons_of_mem _ hy, e⟩
   ·rw [List.map_cons, List.nodup_cons]
    refine ⟨fun hm => ?_, h6⟩
    obtain ⟨z, hz, e⟩ := List.mem_map.1 hm
    exact h7 z hz (by rw [e]; exact List.mem_cons_self)
   ·rcases List.mem_cons.1 hz with rfl | hz
    ·exact hx
    ·exact fun h => h7 z hz (List.mem_cons_of_mem _ h)
theorem young_ok (old : List Y) (l : List En) : (∀ z ∈ Yse old l, ∃ x ∈ l, z = Yqf x) ∧ ((Yse old l).map (·.f0)).Nodup ∧ (∀ z ∈ Yse old l, ¬ z.f0 ∈ old) ∧ ∀ x ∈ l, ofR x ∈ old ∨ ofR x ∈ (Yse old l).map (·.f0) := by
 obtain ⟨h1, h2, h3, r, h4, h5, h6, h7⟩ := Ysk l (old.reverse, [])
 have e : Yse old l = r := by unfold Yse Yrj; rw [h4]; rfl
 rw [e]
 refine ⟨h5, h6, fun z hz h => h7 z hz (by simpa using h), fun x hx => ?_⟩
 rcases h3 _ (h2 x hx) with h | h
 ·left
  simpa using h
 ·right
  rw [h4] at h
  simpa using h
end Go.Proofs.YtihaeeldgimdiaaGreatDoor.X
end
section
namespace Go.Proofs.YtihaeeldgimdiaaGreatDoor.X
open Go.RowKit Go.Lib Go.Shelf Go.Yw.PrintWords Go.Yw.PrintLast Go.Yw.PrintMore
theorem Yol {α β : Type} {d : Kd α} {d' : Kd β} {e e' base base' : Nat} {ok ok' : Nat → Prop} {v v' : Value} {xs : List α} {xs' : List β} {w w1 : World} (h : d.R e w base ok v xs) (hr : d'.R e' w base' ok' v' xs') (hg : w.grownBy w1 v'.ownBlock) (ht : ∀ q, q ∈ e :: d.E → q ≠ e') : d.R e w1 base (fun _ => True) v xs :=
 Kd.R_mono (Kd.R_step (Kd.R_bound h) (fun k hk hlt => hg.block k hlt (fun hb => by
  obtain ⟨_, ho⟩ := Kd.R_own hr
  obtain ⟨cells, hc⟩ := Ymi ho k hb.symm
  obtain ⟨_, _, _, q, hq, cells', hc'⟩ := hk
  rw [hc] at hc'
  injection hc' with hc'
  injection hc' with _ hc'
  exact ht q hq hc'.symm))) (fun _ _ => trivial)
theorem ne_str (w : World) : ∀ q, q ∈ 32 :: (Kd.fixed k32 w).E → q ≠ 9 := fun q hq => by rw [List.mem_singleton.1 hq]; decide
theorem str_ne : ∀ q, q ∈ 9 :: Kd.string.E → q ≠ 32 := fun q hq => by rw [List.mem_singleton.1 hq]; decide
theorem has_l0 (l : List Y) (s : Y) (hl : l.length ≤ 1000000000000000000) : ∀ (d i : Nat), i + d = l.length → EvR (fun k => Ywb.l0 k l s (i : Int)) (memB (l.drop i) s)
 | 0, i, hi => by
  refine EvR.succ (EvR.of fun k => ?_)
  simp only [Ywb.l0]
  rw [if_neg Zj, List.drop_eq_nil_of_le Zj]
  rfl
 | d + 1, i, hi => by
  have hlt : i < l.length := by omega
  have hrd : rdOf ByteArray.empty l (i : Int) = l[i] := by unfold rdOf; rw [Int.toNat_natCast, List.getD_eq_getElem?_getD, List.getElem?_eq_getElem hlt]; rfl
  have hdrop : l.drop i = l[i] :: l.drop (i + 1) := List.drop_eq_getElem_cons hlt
  have iN : wrap64 ((i : Int) + 1) = ((i + 1 : Nat) : Int) := by unfold wrap64; omega
  rw [hdrop, Yxl]
  by_cases h : l[i].toList = s.toList
  ·have h2 : (l[i].data.toList == s.data.toList) = true := by rw [beq_iff_eq, ← Lib.toList_data, ← Lib.toList_data]; exact h
   rw [h2, Bool.true_or]
   refine EvR.succ (EvR.of fun k => ?_)
   simp only [Ywb.l0]
   rw [if_pos Zj, if_pos Zj, hrd, if_pos h]
  ·have h2 : (l[i].data.toList == s.data.toList) = false := by rw [beq_eq_false_iff_ne, ← Lib.toList_data, ← Lib.toList_data]; exact h
   rw [h2, Bool.false_or]
   refine EvR.succ (EvR.congr (has_l0 l s hl d (i + 1) Zj) (fun k => ?_))
   simp only [Ywb.l0]
   rw [if_pos Zj, if_pos Zj, hrd, if_neg h, iN]
theorem rhas_f (l : List Y) (s : Y) (hl : l.length ≤ 1000000000000000000) : EvR (fun k => Ywb.f k l s) (memB l s) := has_l0 l s hl l.length 0 Zj
def Yyg (s : List Y × List En) (x : En) : List Y × List En := if memB s.1 (ofR x) = true then s else (s.1 ++ [ofR x], s.2 ++ [Yqf x])
theorem Yun : ∀ (l : List En) (s t : List Y × List En), (∀ y, y ∈ s.1 ↔ y ∈ t.1) → s.2 = t.2 → (l.foldl Yyg s).2 = (l.foldl Yfd t).2
 | [], s, t, _, h => h
 | x :: l, s, t, h1, h2 => by
  rw [List.foldl_cons, List.foldl_cons]
  by_cases hx : ofR x ∈ t.1
  ·have hs : memB s.1 (ofR x) = true := Yul.2 ((h1 _).2 hx)
   rw [Yvr t x hx, show Yyg s x = s by unfold Yyg; rw [if_pos hs]]
   exact Yun l s t h1 h2
  ·have hs : ¬ memB s.1 (ofR x) = true := fun h => hx ((h1 _).1 (Yul.1 h))
   rw [Yhr t x hx, show Yyg s x = (s.1 ++ [ofR x], s.2 ++ [Yqf x]) by unfold Yyg; rw [if_neg hs]]
   refine Yun l _ _ (fun y => ?_) (by simp [h2])
   simp only [List.mem_append, List.mem_singleton, List.mem_cons, List.not_mem_nil, or_false, h1 y]
   exact or_comm
theorem Ybp : ∀ (l : List En) (s : List Y × List En), (l.foldl Yyg s).1.length ≤ s.1.length + l.length ∧ (l.foldl Yyg s).2.length ≤ s.2.length + l.length
 | [], s => by simp
 | x :: l, s => by
  have h := Ybp l (Yyg s x)
  have h2 : (Yyg s x).1.length ≤ s.1.length + 1 ∧ (Yyg s x).2.length ≤ s.2.length + 1 := by unfold Yyg; split <;> simp
  rw [List.foldl_cons, List.length_cons]
  omega
set_option maxHeartbeats 8000000 in
set_option maxRecDepth 100000 in
theorem Ykl (A0 A1 : Option Addr) (c0 c1 : Nat) (old : List Y) (l : List En) (w0 w : World) (lV : Below w0.heap.size w0 w) (hE : EnvOk w) (r0 : Kd.C Kd.string w A0 old.length old) (r1 : Kd.C (Kd.fixed k32 w0) w A1 l.length l)
  (hx : ∀ x ∈ l, Yom x) (hn : l.length ≤ 100000000) (uC : old.length ≤ 100000000) :
  Calls Tryz.prog 11 #[.slice A0 old.length c0, .slice A1 l.length c1] w fun e w' => ∃ v, e = .returned v ∧ Kd.R (Kd.fixed k32 w0) 32 w' w.heap.size (fun _ => True) v (Yse old l) ∧ Below w.heap.size w w' := by
 have HE := Ya.mk hE
 have jT := Ya.mk lV
 have R0 := Ya.mk r0
 have R1 := Ya.mk r1
 have HX := Ya.mk hx
 clear hE lV r0 r1 hx
 have hu := Tryz.underlying32
 have jK : l.length ≤ 9223372036854775807 := by omega
 have hl0 : old.length ≤ 9223372036854775807 := by omega
 have HBR := Ya.mk (Below.refl w.heap.size w)
 go_enter Tryz.func11, Tryz.ntmps11
 go_wp2_with ((with_reducible refine Ybd (N := 10) rfl ?_); at_builtin; refine Kd.R_append_rows Kd.string (Rr := Kd.string.K w) (w0 := w) w.heap.size rfl (.const (.slice none 0 0)) (.tmp 9) 23 9 (.string ⟨#[]⟩) 16 rfl Tryz.underlying23 Ype rfl Zw Zw _ [] old _ _ _ (fun _ => True) (fun _ => False) rfl rfl (Kd.R_nil _ _ _ _ _) R0.out (fun _ _ h => h) (fun _ hk => hk.elim) (fun _ _ => trivial) HBR.out HBR.out.size Zfb ?_; intro v1 w2 hR hB2 hg2 aYI; have HR := Ya.mk hR; have HB := Ya.mk hB2; clear hR hB2 hg2 aYI)
 rw [List.nil_append] at HR
 go_loopg [5, 6, 7] l.length (fun gk v5 v6 v7 wx => ∃ (i : Nat) (L : List Y) (out : List En), i + gk = l.length ∧ v7 = .int .i64 (i : Int) ∧ Ya ((l.take i).foldl Yyg (old, []) = (L, out)) ∧ Ya (Kd.R Kd.string 9 wx w.heap.size (fun _ => True) v5 L) ∧ Ya (Kd.R (Kd.fixed k32 w0) 32 wx w.heap.size (fun _ => True) v6 out) ∧ Ya (Below w.heap.size w wx))
 case atStart => exact ⟨0, old, [], Zj, rfl, ⟨rfl⟩, HR, ⟨Kd.R_nil _ _ _ _ _⟩, HB⟩
 case round =>
  clear HR HB
  obtain ⟨i, L, out, hi1, rfl, HF, HR, HRO, HB⟩ := hrel
  cases gk with
  | zero =>
   obtain rfl : i = l.length := by omega
   rw [List.take_length] at HF
   go_wp2_with fail
   go_ret
   refine ⟨_, rfl, ?_, HB.out⟩
   have e1 : Yse old l = out := by
    unfold Yse Yrj
    rw [← Yun l (old, []) (old.reverse, []) (fun y => by simp) rfl, HF.out]
   rw [e1]
   exact HRO.out
  | succ g1 =>
   have hlt : i < l.length := by omega
   have c0_ : decide ((i : Int) < (l.length : Int)) = true := Kn Zj
   have c1_ : decide (i < l.length) = true := Kn hlt
   have p5 : 0 ≤ (i : Int) := by omega
   have p6 : (i : Int) < (l.length : Int) := by omega
   have hrd : Yj l (i : Int) = l[i] := by unfold Yj; rw [Int.toNat_natCast, List.getD_eq_getElem?_getD, List.getElem?_eq_getElem hlt]; rfl
   obtain ⟨ad, cA, bK, bW, bT, cB, cI, eF, cD, dW, bN, e5, q0, q1, q2, q3, q4, q5, q6, q7, q8, q9, iQ, fG, rE, iP, fP, rF, jW, nC, jX, mL, jY, lW, uH, nJ, uI, mR⟩ := at_fx R1.out (i : Int) p5 p6
   have hok : Yom (Yj l (i : Int)) := by rw [hrd]; exact HX.out _ (List.getElem_mem hlt)
   have hts : (l.take (i + 1)).foldl Yyg (old, []) = Yyg (L, out) (Yj l (i : Int)) := by
    rw [hrd, List.take_add_one, List.getElem?_eq_getElem hlt, Option.toList_some, List.foldl_append, HF.out]; rfl
   have hlen := Ybp (l.take i) (old, [])
   rw [HF.out, List.length_take] at hlen
   have HLN := Ya.mk (show L.length ≤ 200000000 ∧ out.length ≤ 200000000 by simp only [List.length_nil] at hlen; omega)
   have HTS := Ya.mk hts
   have HOK := Ya.mk hok
   clear hts hrd hok hlen
   replace q0 := (HB.out.cell (World.block_lt_of_cell? w _ q0)).trans q0
   replace q1 := (HB.out.cell (World.block_lt_of_cell? w _ q1)).trans q1
   replace q2 := (HB.out.cell (World.block_lt_of_cell? w _ q2)).trans q2
   replace q3 := (HB.out.cell (World.block_lt_of_cell? w _ q3)).trans q3
   replace q4 := (HB.out.cell (World.block_lt_of_cell? w _ q4)).trans q4
   replace q5 := (HB.out.cell (World.block_lt_of_cell? w _ q5)).trans q5
   replace q6 := (HB.out.cell (World.block_lt_of_cell? w _ q6)).trans q6
   replace q7 := (HB.out.cell (World.block_lt_of_cell? w _ q7)).trans q7
   replace q8 := (HB.out.cell (World.block_lt_of_cell? w _ q8)).trans q8
   replace q9 := (HB.out.cell (World.block_lt_of_cell? w _ q9)).trans q9
   replace iQ := (HB.out.cell (World.block_lt_of_cell? w _ iQ)).trans iQ
   replace fG := (HB.out.cell (World.block_lt_of_cell? w _ fG)).trans fG
   replace rE := (HB.out.cell (World.block_lt_of_cell? w _ rE)).trans rE
   replace iP := (HB.out.cell (World.block_lt_of_cell? w _ iP)).trans iP
   replace fP := (HB.out.cell (World.block_lt_of_cell? w _ fP)).trans fP
   replace rF := (HB.out.cell (World.block_lt_of_cell? w _ rF)).trans rF
   subst e5
   rw [Int.toNat_natCast] at q0 q1 q2 q3 q4 q5 q6 q7 q8 q9 iQ fG rE iP fP rF
   generalize Yj l (i : Int) = x at *
   have HK := Ya.mk (Yuk w0 x jW nC jX mL jY lW uH nJ uI mR)
   have HKN := Ya.mk (Yuk w0 (Yqf x) jW nC jX mL jY lW uH nJ uI mR)
   clear jW nC jX mL jY lW uH nJ uI mR
   have iN : wrap64 ((i : Int) + 1) = ((i + 1 : Nat) : Int) := by unfold wrap64; omega
   have HW := Ya.mk iN
   clear iN
   obtain ⟨A5, a5, rfl, hl5, hC5⟩ := Kd.R_reads HR.out
   have HL5 := Ya.mk hl5
   clear hl5 hC5
   have BE := Ya.mk (heap_alloc_new wr (.cells (ec x.f0 x.f1 x.f2 x.f3 x.f4 x.f5 x.f6 x.f7 x.f8.f0 x.f8.f1 x.f8.f2 (.slice cA x.f9.length bK) (.slice bW x.f10.length bT) (.slice cB x.f11.length cI) (.slice eF x.f12.length cD) (.slice dW x.f13.length bN)) 32))
   have HG2 := Ya.mk HB.out.size
   have rM := Ya.mk (Kd.R_alloc HR.out (.cells (ec x.f0 x.f1 x.f2 x.f3 x.f4 x.f5 x.f6 x.f7 x.f8.f0 x.f8.f1 x.f8.f2 (.slice cA x.f9.length bK) (.slice bW x.f10.length bT) (.slice cB x.f11.length cI) (.slice eF x.f12.length cD) (.slice dW x.f13.length bN)) 32))
   have aMQ := Ya.mk (Kd.R_alloc (Kd.R_mono (Kd.R_bound HRO.out) (ok' := fun k => k < wr.heap.size) (fun k hk => hk.2.2.1)) (.cells (ec x.f0 x.f1 x.f2 x.f3 x.f4 x.f5 x.f6 x.f7 x.f8.f0 x.f8.f1 x.f8.f2 (.slice cA x.f9.length bK) (.slice bW x.f10.length bT) (.slice cB x.f11.length cI) (.slice eF x.f12.length cD) (.slice dW x.f13.length bN)) 32))
   have hY := Ya.mk (HB.out.alloc HB.out.size (.cells (ec x.f0 x.f1 x.f2 x.f3 x.f4 x.f5 x.f6 x.f7 x.f8.f0 x.f8.f1 x.f8.f2 (.slice cA x.f9.length bK) (.slice bW x.f10.length bT) (.slice cB x.f11.length cI) (.slice eF x.f12.length cD) (.slice dW x.f13.length bN)) 32))
   go_wp2_with fail
   clear q0 q1 q2 q3 q4 q5 q6 q7 q8 q9 iQ fG rE iP fP rF
   refine (Yyl x _ _ (HE.out.below hY.out) (k32.K_below (jT.out.trans (hY.out.mono jT.out.size)) HK.out) HOK.out).mono ?_
   rintro e w3 ⟨rfl, hb⟩
   obtain ⟨nid, hnid⟩ : ∃ n, ofR x = n := ⟨_, rfl⟩
   have HN := Ya.mk hnid
   rw [hnid]
   clear hnid
   replace BE := Ya.mk (Ycb BE.out hb)
   have wG := Ya.mk (Kd.R_below rM.out hb)
   have aMR := Ya.mk (Kd.R_below aMQ.out hb)
   have cZ := Ya.mk (hY.out.trans (hb.mono hY.out.size))
   clear hb rM aMQ hY
   have hq0 := (Yf BE.out 0).trans rfl
   have hfz := Ye BE.out 0
   have jO := Ya.mk (Kd.R_set wG.out BE.out (by intro q hq; rw [List.mem_singleton.1 hq]; decide) 0 (.string nid))
   have aMS := Ya.mk (Kd.R_far (p := ⟨wr.heap.size, 0, none⟩) aMR.out (fun k hk => Nat.ne_of_lt hk) (.string nid))
   have cU := Ya.mk (cZ.out.setCell (p := ⟨wr.heap.size, 0, none⟩) HG2.out (.string nid))
   have BE4 := Ya.mk (Yeb BE.out 0 (.string nid) rfl)
   have eE := (Yf BE4.out 0).trans rfl
   go_wp2_with fail
   clear hq0 hfz eE
   have hLL := HLN.out
   obtain ⟨kh, hkh⟩ := rhas_f L nid Zj
   refine (Ywb.calls kh A5 a5 L nid _ _ (HE.out.below cU.out) (Kd.R_reads' jO.out).2.2 HL5.out (hkh kh (Ks _))).mono ?_
   clear hkh hLL
   rintro e w5 ⟨rfl, hd⟩
   have hb := hd.below
   clear hd
   have BE5 := Ya.mk (Ycb BE4.out hb)
   have yQ := Ya.mk (Kd.R_below jO.out hb)
   have aMT := Ya.mk (Kd.R_below aMS.out hb)
   have cH := Ya.mk (cU.out.trans (hb.mono cU.out.size))
   clear hb BE BE4 wG jO aMR aMS cZ cU
   have HKC := Ya.mk (show k32.K w0 (Yqf x) [.string nid, .string x.f1, .string x.f2, .string x.f3, .string x.f4, .string x.f5, .int .i64 x.f6, .bool x.f7, .string x.f8.f0, .string x.f8.f1, .string x.f8.f2, .slice cA x.f9.length bK, .slice bW x.f10.length bT, .slice cB x.f11.length cI, .slice eF x.f12.length cD, .slice dW x.f13.length bN] by rw [← HN.out]; exact HKN.out)
   cases hmem : memB L nid
   ·have HMEM := Ya.mk hmem
    clear hmem
    have HS := Ya.mk (show Yyg (L, out) x = (L ++ [nid], out ++ [Yqf x]) by
     unfold Yyg
     simp only
     rw [HN.out, HMEM.out, if_neg Zw])
    have eE := (Yf BE5.out 0).trans rfl
    go_wp2_with (first | ((with_reducible refine Ybd (N := 33) rfl ?_); at_builtin; refine Kd.R_append Kd.string (w0 := w) w.heap.size rfl (.tmp 29) (.tmp 32) 23 9 (.string ⟨#[]⟩) 16 rfl Tryz.underlying23 Ype rfl Zw Zw _ L nid [.string nid] (fun _ => True) (fun _ => False) rfl rfl rfl (fun _ hk => hk.elim) (fun _ _ => trivial) yQ.out cH.out cH.out.size (by have := HLN.out; omega) ?_; intro v6 w6 hR6 lT hg6 aGv; have BE6 := Ya.mk (Yeh BE5.out hg6 (Kd.R_ne yQ.out BE5.out Zw)); have aMU := Ya.mk (Yol aMT.out yQ.out hg6 (ne_str w0)); have HR6 := Ya.mk hR6; have jG := Ya.mk lT; clear hR6 lT hg6 aGv eE; obtain ⟨h0, h1, h2, h3, h4, h5, h6, h7, h8, h9, oI, oW, oL, nA, nB, mJ⟩ := Yhf BE6.out) | ((with_reducible refine Ybd (N := 37) rfl ?_); at_builtin; clear h0 h1 h2 h3 h4 h5 h6 h7 h8 h9 oI oW oL nA nB mJ; refine Kd.R_append (Kd.fixed k32 w0) (w0 := w) w.heap.size rfl (.tmp 34) (.tmp 36) 22 32 (.agg ez) 280 rfl Tryz.underlying22 info32 rfl (show (0 : Nat) < 16 by decide) Zw _ out (Yqf x) [.string nid, .string x.f1, .string x.f2, .string x.f3, .string x.f4, .string x.f5, .int .i64 x.f6, .bool x.f7, .string x.f8.f0, .string x.f8.f1, .string x.f8.f2, .slice cA x.f9.length bK, .slice bW x.f10.length bT, .slice cB x.f11.length cI, .slice eF x.f12.length cD, .slice dW x.f13.length bN] (fun _ => True) (fun _ => False) rfl rfl HKC.out (fun _ hk => hk.elim) (fun _ _ => trivial) aMU.out jG.out jG.out.size (by have := HLN.out; omega) ?_; intro v7 w7 hR7 hB7 hg7 aYJ; have aYK := Ya.mk hR7; have yN := Ya.mk hB7; have HR7 := Ya.mk (Yol HR6.out aMU.out hg7 str_ne); clear hR7 hB7 hg7 aYJ))
    go_roundg g1
    case measure => omega
    case rel => exact ⟨i + 1, L ++ [nid], out ++ [Yqf x], Zj, by go_num, ⟨by rw [HTS.out, HS.out]⟩, HR7, aYK, yN⟩
   ·have HMEM := Ya.mk hmem
    clear hmem
    have HS := Ya.mk (show Yyg (L, out) x = (L, out) by
     unfold Yyg
     simp only
     rw [HN.out, HMEM.out, if_pos rfl])
    go_wp2_with fail
    go_roundg g1
    case measure => omega
    case rel => exact ⟨i + 1, L, out, Zj, by go_num, ⟨by rw [HTS.out, HS.out]⟩, yQ, ⟨Kd.R_mono aMT.out (fun _ _ => trivial)⟩, cH⟩
set_option maxHeartbeats 4000000 in
set_option maxRecDepth 100000 in
theorem Yko (A1 : Option Addr) (c1 : Nat) (l : List En) (w0 w : World) (lV : Below w0.heap.size w0 w) (hE : EnvOk w) (r1 : Kd.C (Kd.fixed k32 w0) w A1 l.length l)
  (hx : ∀ x ∈ l, Yom x) (hn : l.length ≤ 100000000) :
  Calls Tryz.prog 9 #[.slice A1 l.length c1] w fun e w' => ∃ v, e = .returned v ∧ Kd.R (Kd.fixed k32 w0) 32 w' w.heap.size (fun _ => True) v (Yse [] l) ∧ Below w.heap.size w w' := by
 have HE := Ya.mk hE
 have jT := Ya.mk lV
 have R1 := Ya.mk r1
 have HX := Ya.mk hx
 clear hE lV r1 hx
 go_enter Tryz.func9, Tryz.ntmps9
 go_wp2_with fail
 refine (Ykl none A1 0 c1 [] l w0 w jT.out HE.out (Kd.C_nil _ _) R1.out HX.out hn Zq).mono ?_
 rintro e w1 ⟨v, rfl, hr, hb⟩
 have HR := Ya.mk hr
 have HB := Ya.mk hb
 clear hr hb
 go_wp2_with fail
 go_ret
 exact ⟨_, rfl, HR.out, HB.out⟩
end Go.Proofs.YtihaeeldgimdiaaGreatDoor.X
end
