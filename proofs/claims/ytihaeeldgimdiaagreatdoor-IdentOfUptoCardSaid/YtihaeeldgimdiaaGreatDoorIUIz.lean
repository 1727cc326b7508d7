import Derived.Test.YtihaeeldgimdiaaGreatDoorIUMs
set_option linter.all false
namespace Go.Proofs.YtihaeeldgimdiaaGreatDoor.X
open Go.RowKit Go.Lib Go.Shelf Go.Yw.PrintWords Go.Yw.PrintLast Go.Yw.PrintMore
theorem at_fx {w0 w : World} {A : Option Addr} {n : Nat} {xs : List S32} (h : Kd.C (Kd.fixed k32 w0) w A n xs) (i : Int) (h0 : 0 ≤ i) (h1 : i < n) : ∃ ad cA bK bW bT cB cI eF cD dW bN, A = some ad ∧ 
  w.cell? (ad.add (i.toNat * 16)) = some (.string (Yj xs i).f0) ∧ w.cell? ⟨(ad.add (i.toNat * 16)).block, (ad.add (i.toNat * 16)).off + 1, none⟩ = some (.string (Yj xs i).f1) ∧ w.cell? ⟨(ad.add (i.toNat * 16)).block, (ad.add (i.toNat * 16)).off + 2, none⟩ = some (.string (Yj xs i).f2) ∧ w.cell? ⟨(ad.add (i.toNat * 16)).block, (ad.add (i.toNat * 16)).off + 3, none⟩ = some (.string (Yj xs i).f3) ∧ w.cell? ⟨(ad.add (i.toNat * 16)).block, (ad.add (i.toNat * 16)).off + 4, none⟩ = some (.string (Yj xs i).f4) ∧ w.cell? ⟨(ad.add (i.toNat * 16)).block, (ad.add (i.toNat * 16)).off + 5, none⟩ = some (.string (Yj xs i).f5) ∧ w.cell? ⟨(ad.add (i.toNat * 16)).block, (ad.add (i.toNat * 16)).off + 6, none⟩ = some (.int .i64 (Yj xs i).f6) ∧ w.cell? ⟨(ad.add (i.toNat * 16)).block, (ad.add (i.toNat * 16)).off + 7, none⟩ = some (.bool (Yj xs i).f7) ∧ w.cell? ⟨(ad.add (i.toNat * 16)).block, (ad.add (i.toNat * 16)).off + 8, none⟩ = some (.string (Yj xs i).f8.f0) ∧ w.cell? ⟨(ad.add (i.toNat * 16)).block, (ad.add (i.toNat * 16)).off + 9, none⟩ = some (.string (Yj xs i).f8.f1) ∧ w.cell? ⟨(ad.add (i.toNat * 16)).block, (ad.add (i.toNat * 16)).off + 10, none⟩ = some (.string (Yj xs i).f8.f2) ∧ w.cell? ⟨(ad.add (i.toNat * 16)).block, (ad.add (i.toNat * 16)).off + 11, none⟩ = some (.slice cA (Yj xs i).f9.length bK) ∧ w.cell? ⟨(ad.add (i.toNat * 16)).block, (ad.add (i.toNat * 16)).off + 12, none⟩ = some (.slice bW (Yj xs i).f10.length bT) ∧ w.cell? ⟨(ad.add (i.toNat * 16)).block, (ad.add (i.toNat * 16)).off + 13, none⟩ = some (.slice cB (Yj xs i).f11.length cI) ∧ w.cell? ⟨(ad.add (i.toNat * 16)).block, (ad.add (i.toNat * 16)).off + 14, none⟩ = some (.slice eF (Yj xs i).f12.length cD) ∧ w.cell? ⟨(ad.add (i.toNat * 16)).block, (ad.add (i.toNat * 16)).off + 15, none⟩ = some (.slice dW (Yj xs i).f13.length bN) ∧ (Yj xs i).f9.length ≤ bK ∧ Kd.string.C w0 cA (Yj xs i).f9.length (Yj xs i).f9 ∧ (Yj xs i).f10.length ≤ bT ∧ Kd.string.C w0 bW (Yj xs i).f10.length (Yj xs i).f10 ∧ (Yj xs i).f11.length ≤ cI ∧ Kd.string.C w0 cB (Yj xs i).f11.length (Yj xs i).f11 ∧ (Yj xs i).f12.length ≤ cD ∧ Kd.string.C w0 eF (Yj xs i).f12.length (Yj xs i).f12 ∧ (Yj xs i).f13.length ≤ bN ∧ Kd.string.C w0 dW (Yj xs i).f13.length (Yj xs i).f13 := by
 obtain ⟨ad, c, e, _, hK, eE⟩ := Kd.C_get h z32 i h0 h1
 have hc : ∀ j u, c[j]? = some u → w.cell? (ad.add (i.toNat * 16 + j)) = some u := eE
 have hK2 : k32.K w0 (Yj xs i) c := hK
 obtain ⟨cA, bK, bW, bT, cB, cI, eF, cD, dW, bN, rfl, jW, nC, jX, mL, jY, lW, uH, nJ, uI, mR⟩ := Yij hK2
 exact ⟨ad, cA, bK, bW, bT, cB, cI, eF, cD, dW, bN, e, hc 0 _ rfl, by rw [← Yxb _ _ 1 Zj]; exact hc 1 _ rfl, by rw [← Yxb _ _ 2 Zj]; exact hc 2 _ rfl, by rw [← Yxb _ _ 3 Zj]; exact hc 3 _ rfl, by rw [← Yxb _ _ 4 Zj]; exact hc 4 _ rfl, by rw [← Yxb _ _ 5 Zj]; exact hc 5 _ rfl, by rw [← Yxb _ _ 6 Zj]; exact hc 6 _ rfl, by rw [← Yxb _ _ 7 Zj]; exact hc 7 _ rfl, by rw [← Yxb _ _ 8 Zj]; exact hc 8 _ rfl, by rw [← Yxb _ _ 9 Zj]; exact hc 9 _ rfl, by rw [← Yxb _ _ 10 Zj]; exact hc 10 _ rfl, by rw [← Yxb _ _ 11 Zj]; exact hc 11 _ rfl, by rw [← Yxb _ _ 12 Zj]; exact hc 12 _ rfl, by rw [← Yxb _ _ 13 Zj]; exact hc 13 _ rfl, by rw [← Yxb _ _ 14 Zj]; exact hc 14 _ rfl, by rw [← Yxb _ _ 15 Zj]; exact hc 15 _ rfl, jW, nC, jX, mL, jY, lW, uH, nJ, uI, mR⟩
def Yfd (s : List Y × List S32) (x : S32) : List Y × List S32 := if memB s.1 (ofR x) = true then s else (ofR x :: s.1, s.2 ++ [Yqf x])
def Yrj (old : List Y) (l : List S32) : List Y × List S32 := l.foldl Yfd (old.reverse, [])
def Yse (old : List Y) (l : List S32) : List S32 := (Yrj old l).2
theorem Ynk (old : List Y) (l : List S32) : (Yrj old l).2.length ≤ l.length := by
 have : ∀ (l : List S32) s, (l.foldl Yfd s).2.length ≤ s.2.length + l.length := by
  intro l
  induction l with
  | nil => intro s; simp
  | cons x l ih =>
   intro s
   have := ih (Yfd s x)
   have h2 : (Yfd s x).2.length ≤ s.2.length + 1 := by unfold Yfd; split <;> simp
   rw [List.foldl_cons, List.length_cons]
   omega
 have := this l (old.reverse, [])
 simpa [Yrj] using this
theorem SetB.beside {α : Type} {d : Kd α} {e base : Nat} {ok : Nat → Prop} {v : Value} {xs : List α} {P : Program} {w w1 : World} {k0 e0 b n : Nat} {L : List Y} (h : SetB P w k0 e0 b n L) (hr : d.R e w base ok v xs) (hg : w.grownBy w1 v.ownBlock) : SetB P w1 k0 e0 b n L :=
 h.kept hg (fun hb => by
  obtain ⟨_, ho⟩ := Kd.R_own hr
  obtain ⟨cells, hc⟩ := Ymi ho b hb.symm
  exact h.not_cells hc rfl)
theorem R_beside {α : Type} {d : Kd α} {e base : Nat} {ok : Nat → Prop} {v : Value} {xs : List α} {P : Program} {w w1 : World} {k0 e0 b n : Nat} {L : List Y} (h : SetB P w k0 e0 b n L) (hr : d.R e w base ok v xs) (hg : w.grownBy w1 (some b)) : d.R e w1 base (fun _ => True) v xs :=
 Kd.R_mono (Kd.R_step (Kd.R_bound hr) (fun k hk hlt => hg.block k hlt (fun hb => by
  obtain ⟨_, _, _, q, _, cells, hc⟩ := hk
  injection hb with hb
  exact h.not_cells hc hb.symm))) (fun _ _ => trivial)
theorem zero_bool (w : World) : (zeroValue 4).run Tryz.prog w = .ok (.bool false) w := by kernel_rfl
set_option maxHeartbeats 8000000 in
set_option maxRecDepth 100000 in
theorem Yhm (A0 A1 : Option Addr) (c0 c1 : Nat) (old : List Y) (l : List S32) (w0 w : World) (lV : Below w0.heap.size w0 w) (hE : EnvOk w) (r0 : Kd.C Kd.string w A0 old.length old) (r1 : Kd.C (Kd.fixed k32 w0) w A1 l.length l)
  (ho : ∀ s ∈ old, s.size ≤ 140737488355328) (hx : ∀ x ∈ l, OfOk x) (hn : l.length ≤ 100000000) (uC : old.length ≤ 1000000000000) :
  Calls Tryz.prog 10 #[.slice A0 old.length c0, .slice A1 l.length c1] w fun e w' => ∃ v, e = .returned v ∧ Kd.R (Kd.fixed k32 w0) 32 w' w.heap.size (fun _ => True) v (Yse old l) ∧ Below w.heap.size w w' := by
 have HE := Ya.mk hE
 have jT := Ya.mk lV
 clear lV
 have R0 := Ya.mk r0
 have R1 := Ya.mk r1
 have HO := Ya.mk ho
 have HX := Ya.mk hx
 clear hE r0 r1 ho hx
 have hu := Tryz.underlying32
 have hi : (Tryz.prog.info? 32).map (·.size) = some 16 := by kernel_rfl
 have hmm := @run_makeMap Tryz.prog
 have jK : l.length ≤ 9223372036854775807 := by omega
 have hl0 : old.length ≤ 9223372036854775807 := by omega
 have HM := Ya.mk (SetB.made w Tryz.prog 9 4)
 have HB := Ya.mk ((Below.refl w.heap.size w).alloc (Ks _) (.map #[] 0))
 go_enter Tryz.func10, Tryz.ntmps10
 go_wp2_with fail
 clear hmm
 generalize w.alloc (.map #[] 0) = w1 at HM HB ⊢
 have HG := Ya.mk (Ks w.heap.size)
 generalize hbm : w.heap.size = bm at HM HG ⊢
 have HBM := Ya.mk hbm
 clear hbm
 go_loopg [14] old.length (fun gk v14 wx => ∃ (i : Nat), i + gk = old.length ∧ v14 = .int .i64 (i : Int) ∧ Ya (SetB Tryz.prog wx 9 4 bm i (old.take i).reverse) ∧ Ya (Below w.heap.size w wx))
 case atStart => exact ⟨0, Zj, rfl, HM, HB⟩
 case round =>
  clear HM HB
  obtain ⟨i, hi1, rfl, HM, HB⟩ := hrel
  cases gk with
  | zero =>
   obtain rfl : i = old.length := by omega
   rw [List.take_length] at HM
   go_wp2_with fail
   clear HO
   replace HM := Ya.mk (HM.out.mono (show old.length ≤ old.length + 0 by omega))
   generalize aKw : old.reverse = L0 at HM
   have aXw := Ya.mk aKw
   clear aKw
   go_loopg [8, 23] l.length (fun gk v8 v23 wx => ∃ (i : Nat) (L : List Y) (out : List S32), i + gk = l.length ∧ v23 = .int .i64 (i : Int) ∧ Ya ((l.take i).foldl Yfd (old.reverse, []) = (L, out)) ∧ Ya (out.length ≤ i) ∧ Ya (SetB Tryz.prog wx 9 4 bm (old.length + i) L) ∧ Ya (Kd.R (Kd.fixed k32 w0) 32 wx w.heap.size (fun _ => True) v8 out) ∧ Ya (Below w.heap.size w wx))
   case atStart => exact ⟨0, L0, [], Zj, rfl, ⟨by rw [← aXw.out]; rfl⟩, ⟨Zq⟩, HM, ⟨Kd.R_nil _ _ _ _ _⟩, HB⟩
   case round =>
    clear HM HB
    obtain ⟨i, L, out, hi1, rfl, HF, HL, HM, HR, HB⟩ := hrel
    cases gk with
    | zero =>
     obtain rfl : i = l.length := by omega
     rw [List.take_length] at HF
     go_wp2_with fail
     go_ret
     refine ⟨_, rfl, ?_, HB.out⟩
     have e1 : Yse old l = out := by unfold Yse Yrj; rw [HF.out]
     rw [e1]
     exact HR.out
    | succ g1 =>
     have hlt : i < l.length := by omega
     have c0_ : decide ((i : Int) < (l.length : Int)) = true := Kn Zj
     have c1_ : decide (i < l.length) = true := Kn hlt
     have p5 : 0 ≤ (i : Int) := by omega
     have p6 : (i : Int) < (l.length : Int) := by omega
     have hrd : Yj l (i : Int) = l[i] := by unfold Yj; rw [Int.toNat_natCast, List.getD_eq_getElem?_getD, List.getElem?_eq_getElem hlt]; rfl
     obtain ⟨ad, cA, bK, bW, bT, cB, cI, eF, cD, dW, bN, e5, q0, q1, q2, q3, q4, q5, q6, q7, q8, q9, iQ, fG, rE, iP, fP, rF, jW, nC, jX, mL, jY, lW, uH, nJ, uI, mR⟩ := at_fx R1.out (i : Int) p5 p6
     have hok : OfOk (Yj l (i : Int)) := by rw [hrd]; exact HX.out _ (List.getElem_mem hlt)
     have hts : (l.take (i + 1)).foldl Yfd (old.reverse, []) = Yfd (L, out) (Yj l (i : Int)) := by
      rw [hrd, List.take_add_one, List.getElem?_eq_getElem hlt, Option.toList_some, List.foldl_append, HF.out]; rfl
     have HTS := Ya.mk hts
     have HOK := Ya.mk hok
     clear hts hrd hok
     replace q0 := (HB.out.cell (World.block_lt_of_cell? w _ q0)).trans q0
     replace q1 := (HB.out.cell (World.block_lt_of_cell? w _ q1)).trans q1
     replace q2 := (HB.out.cell (World.block_lt_of_cell? w _ q2)).trans q2
     replace q3 := (HB.out.cell (World.block_lt_of_cell? w _ q3)).trans q3
     replace q4 := (HB.out.cell (World.block_lt_of_cell? w _ q4)).trans q4
     replace q5 := (HB.out.cell (World.block_lt_of_cell? w _ q5)).trans q5
     replace q6 := (HB.out.cell (World.block_lt_of_cell? w _ q6)).trans q6
     replace q7 := (HB.out.cell (World.block_lt_of_cell? w _ q7)).trans q7
     replace q8 := (HB.out.cell (World.block_lt_of_cell? w _ q8)).trans q8
     replace q9 := (HB.out.cell (World.block_lt_of_cell? w _ q9)).trans q9
     replace iQ := (HB.out.cell (World.block_lt_of_cell? w _ iQ)).trans iQ
     replace fG := (HB.out.cell (World.block_lt_of_cell? w _ fG)).trans fG
     replace rE := (HB.out.cell (World.block_lt_of_cell? w _ rE)).trans rE
     replace iP := (HB.out.cell (World.block_lt_of_cell? w _ iP)).trans iP
     replace fP := (HB.out.cell (World.block_lt_of_cell? w _ fP)).trans fP
     replace rF := (HB.out.cell (World.block_lt_of_cell? w _ rF)).trans rF
     subst e5
     rw [Int.toNat_natCast] at q0 q1 q2 q3 q4 q5 q6 q7 q8 q9 iQ fG rE iP fP rF
     generalize Yj l (i : Int) = x at *
     have HK := Ya.mk (Yuk w0 x jW nC jX mL jY lW uH nJ uI mR)
     have HKN := Ya.mk (Yuk w0 (Yqf x) jW nC jX mL jY lW uH nJ uI mR)
     clear jW nC jX mL jY lW uH nJ uI mR
     have hidz : (ofR x).size ≤ 1000000000 + 2 := ofR_size HOK.out
     have HIDZ := Ya.mk hidz
     clear hidz
     have iN : wrap64 ((i : Int) + 1) = ((i + 1 : Nat) : Int) := by unfold wrap64; omega
     have HW := Ya.mk iN
     clear iN
     have BE := Ya.mk (heap_alloc_new wr (.cells (ec x.f0 x.f1 x.f2 x.f3 x.f4 x.f5 x.f6 x.f7 x.f8.f0 x.f8.f1 x.f8.f2 (.slice cA x.f9.length bK) (.slice bW x.f10.length bT) (.slice cB x.f11.length cI) (.slice eF x.f12.length cD) (.slice dW x.f13.length bN)) 32))
     have HG2 := Ya.mk HB.out.size
     have HM1 := Ya.mk (HM.out.alloc (.cells (ec x.f0 x.f1 x.f2 x.f3 x.f4 x.f5 x.f6 x.f7 x.f8.f0 x.f8.f1 x.f8.f2 (.slice cA x.f9.length bK) (.slice bW x.f10.length bT) (.slice cB x.f11.length cI) (.slice eF x.f12.length cD) (.slice dW x.f13.length bN)) 32))
     have rM := Ya.mk (Kd.R_alloc HR.out (.cells (ec x.f0 x.f1 x.f2 x.f3 x.f4 x.f5 x.f6 x.f7 x.f8.f0 x.f8.f1 x.f8.f2 (.slice cA x.f9.length bK) (.slice bW x.f10.length bT) (.slice cB x.f11.length cI) (.slice eF x.f12.length cD) (.slice dW x.f13.length bN)) 32))
     have hY := Ya.mk (HB.out.alloc HB.out.size (.cells (ec x.f0 x.f1 x.f2 x.f3 x.f4 x.f5 x.f6 x.f7 x.f8.f0 x.f8.f1 x.f8.f2 (.slice cA x.f9.length bK) (.slice bW x.f10.length bT) (.slice cB x.f11.length cI) (.slice eF x.f12.length cD) (.slice dW x.f13.length bN)) 32))
     go_wp2_with fail
     clear q0 q1 q2 q3 q4 q5 q6 q7 q8 q9 iQ fG rE iP fP rF
     refine (Yvn _ _ _ _ _ _ _ _ _ _ _ _ _ _ _ _ _ _ _ _ _ _ _ _ _ _ (ofR x) _ (fun W hb => Yjj x _ W (HE.out.below (hY.out.trans (hb.mono hY.out.size))) (k32.K_below (jT.out.trans ((hY.out.trans (hb.mono hY.out.size)).mono jT.out.size)) HK.out) HOK.out)).mono ?_
     rintro e w3 ⟨rfl, hb⟩
     replace BE := Ya.mk (Ycb BE.out hb)
     have HML := Ya.mk (Nat.ne_of_lt HM.out.lt)
     have HM3 := Ya.mk (HM1.out.below hb)
     have wG := Ya.mk (Kd.R_below (Kd.R_alloc (Kd.R_mono (Kd.R_bound HR.out) (ok' := fun k => k < wr.heap.size) (fun k hk => hk.2.2.1)) _) hb)
     have cZ := Ya.mk (hY.out.trans (hb.mono hY.out.size))
     clear hb HM1 rM hY
     obtain ⟨nid, hnid⟩ : ∃ n, ofR x = n := ⟨_, rfl⟩
     have HN := Ya.mk hnid
     rw [hnid] at HIDZ
     rw [hnid]
     clear hnid
     have HKC := Ya.mk (show k32.K w0 (Yqf x) [.string nid, .string x.f1, .string x.f2, .string x.f3, .string x.f4, .string x.f5, .int .i64 x.f6, .bool x.f7, .string x.f8.f0, .string x.f8.f1, .string x.f8.f2, .slice cA x.f9.length bK, .slice bW x.f10.length bT, .slice cB x.f11.length cI, .slice eF x.f12.length cD, .slice dW x.f13.length bN] by rw [← HN.out]; exact HKN.out)
     go_wp2_with (first | ((with_reducible refine Ynb (t := 32) (p := 10) rfl ?_); refine wpList_store_row rfl 32 (.tmp 10) (.tmp 28) rfl wr.heap.size (ec nid x.f1 x.f2 x.f3 x.f4 x.f5 x.f6 x.f7 x.f8.f0 x.f8.f1 x.f8.f2 (.slice cA x.f9.length bK) (.slice bW x.f10.length bT) (.slice cB x.f11.length cI) (.slice eF x.f12.length cD) (.slice dW x.f13.length bN)) rfl rfl 32 _ BE.out hi rfl (ec_one _ _ _ _ _ _ _ _ _ _ _ _ _ _ _ _ _ _ _ _ _ _ _ _ _ _) ?_; have BE4 := Ya.mk (setRow_heap _ _ _ (ec nid x.f1 x.f2 x.f3 x.f4 x.f5 x.f6 x.f7 x.f8.f0 x.f8.f1 x.f8.f2 (.slice cA x.f9.length bK) (.slice bW x.f10.length bT) (.slice cB x.f11.length cI) (.slice eF x.f12.length cD) (.slice dW x.f13.length bN)) _ _ BE.out); have cU := Ya.mk (below_setRow cZ.out HG2.out (ec nid x.f1 x.f2 x.f3 x.f4 x.f5 x.f6 x.f7 x.f8.f0 x.f8.f1 x.f8.f2 (.slice cA x.f9.length bK) (.slice bW x.f10.length bT) (.slice cB x.f11.length cI) (.slice eF x.f12.length cD) (.slice dW x.f13.length bN))); have HM4 := Ya.mk (HM3.out.move (setRow_other w3 wr.heap.size bm (ec nid x.f1 x.f2 x.f3 x.f4 x.f5 x.f6 x.f7 x.f8.f0 x.f8.f1 x.f8.f2 (.slice cA x.f9.length bK) (.slice bW x.f10.length bT) (.slice cB x.f11.length cI) (.slice eF x.f12.length cD) (.slice dW x.f13.length bN)) HML.out)); have jO := Ya.mk (Kd.R_move wG.out (fun k hk => setRow_other w3 wr.heap.size k (ec nid x.f1 x.f2 x.f3 x.f4 x.f5 x.f6 x.f7 x.f8.f0 x.f8.f1 x.f8.f2 (.slice cA x.f9.length bK) (.slice bW x.f10.length bT) (.slice cB x.f11.length cI) (.slice eF x.f12.length cD) (.slice dW x.f13.length bN)) (Nat.ne_of_lt hk))); generalize w3.setRow wr.heap.size (ec nid x.f1 x.f2 x.f3 x.f4 x.f5 x.f6 x.f7 x.f8.f0 x.f8.f1 x.f8.f2 (.slice cA x.f9.length bK) (.slice bW x.f10.length bT) (.slice cB x.f11.length cI) (.slice eF x.f12.length cD) (.slice dW x.f13.length bN)) = w4 at BE4 cU HM4 jO ⊢; have eE := (Yf BE4.out 0).trans rfl; have hlk := HM4.out.lookup (t := 43) Tryz.underlying9 Tryz.underlying43 Tryz.underlying4 (zero_bool w4) nid (by have := HIDZ.out; unfold maxLen; omega); cases hmem : memB L nid; all_goals rw [hmem] at hlk) | (at_mapUpdate; refine Yei rfl _ _ _ 43 rfl Tryz.underlying9 Tryz.underlying43 Tryz.underlying4 nid (by have := HIDZ.out; unfold maxLen; omega) rfl rfl rfl HM4.out (by unfold maxLen; omega) ?_; intro w5 hm5 hg5; have HM5 := Ya.mk hm5; have cH := Ya.mk (cU.out.grown hg5 cU.out.size (by intro k hk; injection hk with hk; have := HBM.out; omega)); have BE5 := Ya.mk (Yeh BE4.out hg5 (by intro hk; injection hk with hk; exact (SetB.not_cells HM4.out BE4.out) hk.symm)); have yQ := Ya.mk (R_beside HM4.out jO.out hg5); clear hm5 hg5 HM4 cU BE4 jO hlk; obtain ⟨h0, h1, h2, h3, h4, h5, h6, h7, h8, h9, oI, oW, oL, nA, nB, mJ⟩ := Yhf BE5.out) | ((with_reducible refine Yic (b := .append) (xs := #[.tmp 37, .tmp 39]) rfl ?_); at_builtin; clear h0 h1 h2 h3 h4 h5 h6 h7 h8 h9 oI oW oL nA nB mJ; refine Kd.R_append (Kd.fixed k32 w0) (w0 := w) w.heap.size rfl (.tmp 37) (.tmp 39) 22 32 (.agg ez) 280 rfl Tryz.underlying22 info32 rfl (show (0 : Nat) < 16 by decide) Zw _ out (Yqf x) [.string nid, .string x.f1, .string x.f2, .string x.f3, .string x.f4, .string x.f5, .int .i64 x.f6, .bool x.f7, .string x.f8.f0, .string x.f8.f1, .string x.f8.f2, .slice cA x.f9.length bK, .slice bW x.f10.length bT, .slice cB x.f11.length cI, .slice eF x.f12.length cD, .slice dW x.f13.length bN] (fun _ => True) (fun _ => False) rfl rfl HKC.out (fun _ hk => hk.elim) (fun _ _ => trivial) yQ.out cH.out cH.out.size (by have := HL.out; omega) ?_; intro v6 w6 hR6 lT hg6 aGv; have HR6 := Ya.mk hR6; have jG := Ya.mk lT; have HM6 := Ya.mk (SetB.beside HM5.out yQ.out hg6); clear hR6 lT hg6 aGv))
     ·have HMEM := Ya.mk hmem
      clear hmem
      have HS := Ya.mk (show Yfd (L, out) x = (nid :: L, out ++ [Yqf x]) by
       unfold Yfd
       simp only
       rw [HN.out, HMEM.out, if_neg Zw])
      go_roundg g1
      case measure => omega
      case rel => exact ⟨i + 1, nid :: L, out ++ [Yqf x], Zj, by go_num, ⟨by rw [HTS.out, HS.out]⟩, ⟨by have := HL.out; simp; omega⟩, HM6, HR6, jG⟩
     ·have HMEM := Ya.mk hmem
      clear hmem
      have HS := Ya.mk (show Yfd (L, out) x = (L, out) by
       unfold Yfd
       simp only
       rw [HN.out, HMEM.out, if_pos rfl])
      go_roundg g1
      case measure => omega
      case rel => exact ⟨i + 1, L, out, Zj, by go_num, ⟨by rw [HTS.out, HS.out]⟩, ⟨by have := HL.out; omega⟩, ⟨HM4.out.mono Zj⟩, ⟨Kd.R_mono jO.out (fun _ _ => trivial)⟩, cU⟩
  | succ g1 =>
   have hlt : i < old.length := by omega
   have c0_ : decide ((i : Int) < (old.length : Int)) = true := Kn Zj
   have c1_ : decide (i < old.length) = true := Kn hlt
   have p5 : 0 ≤ (i : Int) := by omega
   have q5 : (i : Int) < (old.length : Int) := by omega
   obtain ⟨ad, e5, gJ⟩ := Kd.at_string R0.out (i : Int) p5 q5
   subst e5
   rw [Int.toNat_natCast] at gJ
   replace gJ := (HB.out.cell (World.block_lt_of_cell? w _ gJ)).trans gJ
   have hrd : rdOf ByteArray.empty old (i : Int) = old[i] := by unfold rdOf; rw [Int.toNat_natCast, List.getD_eq_getElem?_getD, List.getElem?_eq_getElem hlt]; rfl
   have hts : (old.take (i + 1)).reverse = rdOf ByteArray.empty old (i : Int) :: (old.take i).reverse := by
    rw [hrd, List.take_add_one, List.getElem?_eq_getElem hlt]; simp
   have HTS := Ya.mk hts
   have hsz : (rdOf ByteArray.empty old (i : Int)).size ≤ 140737488355328 := by rw [hrd]; exact HO.out _ (List.getElem_mem hlt)
   have iN : wrap64 ((i : Int) + 1) = ((i + 1 : Nat) : Int) := by unfold wrap64; omega
   have HW := Ya.mk iN
   generalize rdOf ByteArray.empty old (i : Int) = x at gJ HTS hsz
   have HSZ := Ya.mk hsz
   clear hts iN hrd hsz
   go_wp2_with (at_mapUpdate; refine Yei rfl _ _ _ 43 rfl Tryz.underlying9 Tryz.underlying43 Tryz.underlying4 x (by have := HSZ.out; unfold maxLen; omega) rfl rfl rfl HM.out (by unfold maxLen; omega) ?_; intro w2 pK hg2; rw [← HTS.out] at pK; have HM2 := Ya.mk pK; have fJ := Ya.mk (HB.out.grown hg2 HB.out.size (by intro k hk; injection hk with hk; have := HBM.out; omega)); clear pK hg2)
   go_roundg g1
   case measure => omega
   case rel => exact ⟨i + 1, Zj, by go_num, HM2, fJ⟩
end Go.Proofs.YtihaeeldgimdiaaGreatDoor.X
