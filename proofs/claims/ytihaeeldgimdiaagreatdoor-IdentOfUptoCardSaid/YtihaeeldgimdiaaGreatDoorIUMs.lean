import Derived.Test.YtihaeeldgimdiaaGreatDoorIUIo
set_option linter.all false
section
namespace Go.Proofs.YtihaeeldgimdiaaGreatDoor.X
open Go.RowKit Go.ChangeMaps Go.MapKept Go.Maps Go.WideMaps
def memB (L : List Y) (s : Y) : Bool := L.any (fun x => x.data.toList == s.data.toList)
theorem Ydk {a b : Y} (h : a.data.toList = b.data.toList) : a = b := ByteArray.ext (Array.toList_inj.1 h)
theorem Yul {L : List Y} {s : Y} : memB L s = true ↔ s ∈ L := by
 unfold memB
 rw [List.any_eq_true]
 constructor
 ·rintro ⟨x, hx, he⟩
  rw [← Ydk (beq_iff_eq.1 he)]
  exact hx
 ·intro h
  exact ⟨s, h, beq_self_eq_true _⟩
theorem Yxl (x : Y) (L : List Y) (s : Y) : memB (x :: L) s = (x.data.toList == s.data.toList || memB L s) := rfl
def SetB (P : Program) (w : World) (k e b n : Nat) (L : List Y) : Prop :=
 ∃ D : DataW Unit, w.ownsMap P k (plainElem P e) b n D ∧ ∀ s : Y, D.atKey (.string s.data.toList) (.lit (.bool false)) = .lit (.bool (memB L s))
variable {P : Program} {w w' : World} {k e b n : Nat} {L : List Y}
theorem SetB.made (w : World) (P : Program) (k e : Nat) : SetB P (w.alloc (.map #[] 0)) k e w.heap.size 0 [] :=
 ⟨.map [], World.ownsMap_made w P k _, fun s => by simp [DataW.atKey, memB]⟩
theorem SetB.kept {row : Option Nat} (h : SetB P w k e b n L) (hg : w.grownBy w' row) (hne : some b ≠ row) : SetB P w' k e b n L := by
 obtain ⟨D, h1, h2⟩ := h
 exact ⟨D, h1.kept hg hne, h2⟩
theorem SetB.alloc (h : SetB P w k e b n L) (o : Obj) : SetB P (w.alloc o) k e b n L := by
 obtain ⟨D, h1, h2⟩ := h
 exact ⟨D, h1.alloc o, h2⟩
theorem SetB.lt (h : SetB P w k e b n L) : b < w.heap.size := by
 obtain ⟨D, h1, h2⟩ := h
 exact h1.lt
theorem SetB.below (h : SetB P w k e b n L) (hb : Below w.heap.size w w') : SetB P w' k e b n L := by
 have hlt := h.lt
 obtain ⟨D, ⟨es, clock, h0, F, hs, hD⟩, h2⟩ := h
 exact ⟨D, ⟨es, clock, (hb.block b hlt).trans h0, F, hs, hD⟩, h2⟩
theorem SetB.move (h : SetB P w k e b n L) (hm : w'.heap[b]? = w.heap[b]?) : SetB P w' k e b n L := by
 obtain ⟨D, ⟨es, clock, h0, F, hs, hD⟩, h2⟩ := h
 exact ⟨D, ⟨es, clock, hm.trans h0, F, hs, hD⟩, h2⟩
theorem SetB.mono (h : SetB P w k e b n L) {n' : Nat} (hn : n ≤ n') : SetB P w k e b n' L := by
 obtain ⟨D, h1, h2⟩ := h
 exact ⟨D, h1.mono hn, h2⟩
theorem SetB.not_cells (h : SetB P w k e b n L) {g : Nat} {cs : Array Value} {t : TypeId} (hg : w.heap[g]? = some (.cells cs t (0, 0))) : b ≠ g := by
 obtain ⟨D, ⟨es, clock, h0, F, hs, hD⟩, h2⟩ := h
 rintro rfl
 rw [h0] at hg
 cases hg
theorem Yal {H : Type} (he : P.underlying e = some .bool) {v : Value} {z : DataW H × List MemPlace} (h : plainElem P e v = some z) : ∃ x, v = .bool x ∧ z = (.lit (.bool x), []) := by
 unfold plainElem at h
 rw [he] at h
 cases v <;> simp at h
 obtain rfl := h
 exact ⟨_, rfl, rfl⟩
theorem SetB.lookup {t : TypeId} (h : SetB P w k e b n L) (hk : P.underlying k = some .string) (ht : P.underlying t = some (.map k e)) (he : P.underlying e = some .bool) (hz : (zeroValue e).run P w = .ok (.bool false) w)
  (s : Y) (hs : s.size ≤ maxLen) : (Instr.lookup t (.map (some b)) (.string s) false).run P w = .ok (.bool (memB L s)) w := by
 obtain ⟨D, h1, h2⟩ := h
 obtain ⟨v, ps, hrun, hv⟩ := h1.lookup (string_keyed hk) ht hz (plainElem_bool he false) (keyOf_string_mk hk hs)
 obtain ⟨x, rfl, hx⟩ := Yal he hv
 have h3 := congrArg Prod.fst hx
 rw [h2 s] at h3
 simp only [DataW.lit.injEq, Lit.bool.injEq] at h3
 rw [hrun, h3]
theorem Ysp (l : List UInt8) : WideAt.IsKeyLit (.string l) := by first | trivial | exact ⟨_, rfl⟩ | (unfold WideAt.IsKeyLit; simp)
theorem Yei {ops : Array Oper} {rest : List Oper} {o : Oper} {a : Act} {Q : Exit → Act → World → Prop}
  (hg : o.guard = none) (m x v : Operand) (t : TypeId) (hop : o.op = Op.mapUpdate t m x v) (hk : P.underlying k = some .string) (ht : P.underlying t = some (.map k e)) (he : P.underlying e = some .bool)
  (s : Y) (hs : s.size ≤ maxLen) (hm : a.eval m = .map (some b)) (hx : a.eval x = .string s) (hv : a.eval v = .bool true) (h : SetB P w k e b n L) (hn : n < maxLen)
  (hK : ∀ w', SetB P w' k e b (n + 1) (s :: L) → w.grownBy w' (some b) → wpList P ops Q rest (a.put o.dst undef) w') :
  wpList P ops Q (o :: rest) a w := by
 obtain ⟨D, h1, h2⟩ := h
 refine wpList_mapUpdate_own w hg m x v t hop k e (string_keyed hk) ht (plainElem P e) b n D hm h1 hn (.string s) (.bool true) (.string s.data.toList) hx hv (keyOf_string_mk hk hs) (.lit (.bool true)) [] (plainElem_bool he true) ?_
 intro w1 ho hgr
 refine hK w1 ⟨_, ho, fun s' => ?_⟩ hgr
 by_cases e1 : s' = s
 ·subst e1
  rw [Maps.atKey_put_same (h1.isMap) (Ysp _), Yxl, beq_self_eq_true, Bool.true_or]
 ·have hne : (Lit.string s'.data.toList) ≠ (Lit.string s.data.toList) := fun h3 => e1 (by
   injection h3 with h3
   exact Ydk h3)
  rw [Maps.atKey_put_other hne, h2 s', Yxl, beq_eq_false_iff_ne.2 (fun h3 => e1 (Ydk h3.symm)), Bool.false_or]
end Go.Proofs.YtihaeeldgimdiaaGreatDoor.X
end
section
namespace Go.Proofs.YtihaeeldgimdiaaGreatDoor.X
open Go.RowKit Go.Lib Go.Shelf Go.Yw.PrintWords Go.Yw.PrintLast Go.Yw.PrintMore
theorem ec_one (f0 f1 f2 f3 f4 f5 : Y) (f6 : Int) (f7 : Bool) (c0 c1 c2 : Y) (A9 gE cA bW cB : Option Addr) (l9 n9 l10 n10 jW n11 jX n12 jY n13 : Nat) :
  ((ec f0 f1 f2 f3 f4 f5 f6 f7 c0 c1 c2 (.slice A9 l9 n9) (.slice gE l10 n10) (.slice cA jW n11) (.slice bW jX n12) (.slice cB jY n13)).all (·.oneCell')) = true := by simp [Value.oneCell']
abbrev ez : Array Value := ec ⟨#[]⟩ ⟨#[]⟩ ⟨#[]⟩ ⟨#[]⟩ ⟨#[]⟩ ⟨#[]⟩ 0 false ⟨#[]⟩ ⟨#[]⟩ ⟨#[]⟩ (.slice none 0 0) (.slice none 0 0) (.slice none 0 0) (.slice none 0 0) (.slice none 0 0)
theorem Yhf {w : World} {g t : Nat} {f0 f1 f2 f3 f4 f5 : Y} {f6 : Int} {f7 : Bool} {c0 c1 c2 : Y} {v9 iS kV lZ v13 : Value} (h : w.heap[g]? = some (.cells (ec f0 f1 f2 f3 f4 f5 f6 f7 c0 c1 c2 v9 iS kV lZ v13) t (0, 0))) :
  w.cell? ⟨g, 0, none⟩ = some (.string f0) ∧ w.cell? ⟨g, 1, none⟩ = some (.string f1) ∧ w.cell? ⟨g, 2, none⟩ = some (.string f2) ∧ w.cell? ⟨g, 3, none⟩ = some (.string f3) ∧ w.cell? ⟨g, 4, none⟩ = some (.string f4) ∧ w.cell? ⟨g, 5, none⟩ = some (.string f5) ∧
  w.cell? ⟨g, 6, none⟩ = some (.int .i64 f6) ∧ w.cell? ⟨g, 7, none⟩ = some (.bool f7) ∧ w.cell? ⟨g, 8, none⟩ = some (.string c0) ∧ w.cell? ⟨g, 9, none⟩ = some (.string c1) ∧ w.cell? ⟨g, 10, none⟩ = some (.string c2) ∧
  w.cell? ⟨g, 11, none⟩ = some v9 ∧ w.cell? ⟨g, 12, none⟩ = some iS ∧ w.cell? ⟨g, 13, none⟩ = some kV ∧ w.cell? ⟨g, 14, none⟩ = some lZ ∧ w.cell? ⟨g, 15, none⟩ = some v13 :=
 ⟨(Yf h 0).trans rfl, (Yf h 1).trans rfl, (Yf h 2).trans rfl, (Yf h 3).trans rfl, (Yf h 4).trans rfl, (Yf h 5).trans rfl, (Yf h 6).trans rfl, (Yf h 7).trans rfl, (Yf h 8).trans rfl, (Yf h 9).trans rfl, (Yf h 10).trans rfl, (Yf h 11).trans rfl, (Yf h 12).trans rfl, (Yf h 13).trans rfl, (Yf h 14).trans rfl, (Yf h 15).trans rfl⟩
set_option maxHeartbeats 4000000 in
set_option maxRecDepth 100000 in
theorem Yvn (f0 f1 f2 f3 f4 f5 : Y) (f6 : Int) (f7 : Bool) (c0 c1 c2 : Y) (A9 gE cA bW cB : Option Addr) (l9 n9 l10 n10 jW n11 jX n12 jY n13 : Nat) (r : Y) (w : World)
  (hof : ∀ W : World, Below w.heap.size w W → Calls Tryz.prog 15 #[.agg (ec f0 f1 f2 f3 f4 f5 f6 f7 c0 c1 c2 (.slice A9 l9 n9) (.slice gE l10 n10) (.slice cA jW n11) (.slice bW jX n12) (.slice cB jY n13))] W fun e w' => e = .returned (.string r) ∧ Below W.heap.size W w') :
  Calls Tryz.prog 17 #[.agg (ec f0 f1 f2 f3 f4 f5 f6 f7 c0 c1 c2 (.slice A9 l9 n9) (.slice gE l10 n10) (.slice cA jW n11) (.slice bW jX n12) (.slice cB jY n13))] w fun e w' =>
   e = .returned (.agg (ec r f1 f2 f3 f4 f5 f6 f7 c0 c1 c2 (.slice A9 l9 n9) (.slice gE l10 n10) (.slice cA jW n11) (.slice bW jX n12) (.slice cB jY n13))) ∧ Below w.heap.size w w' := by
 have HO := Ya.mk hof
 clear hof
 have hu := Tryz.underlying32
 have hi : (Tryz.prog.info? 32).map (·.size) = some 16 := by kernel_rfl
 obtain ⟨BK, BZ, HB⟩ := boxes2 w (ec f0 f1 f2 f3 f4 f5 f6 f7 c0 c1 c2 (.slice A9 l9 n9) (.slice gE l10 n10) (.slice cA jW n11) (.slice bW jX n12) (.slice cB jY n13)) ez 32
 go_enter Tryz.func17, Tryz.ntmps17
 obtain ⟨h0, h1, h2, h3, h4, h5, h6, h7, h8, h9, oI, oW, oL, nA, nB, mJ⟩ := Yhf BK.out
 go_wp2_with fail
 clear h0 h1 h2 h3 h4 h5 h6 h7 h8 h9 oI oW oL nA nB mJ
 refine (HO.out _ HB.out).mono ?_
 rintro e w1 ⟨rfl, hb⟩
 replace BK := Ya.mk (Ycb BK.out hb)
 have hq0 := (Yf BK.out 0).trans rfl
 have hfz := Ye BK.out 0
 replace BK := Ya.mk (Yeb BK.out 0 (.string r) rfl)
 replace BZ := Ya.mk (Ync (Ycb BZ.out hb) (p := ⟨w.heap.size, 0, none⟩) Zq (.string r))
 replace HB := Ya.mk ((HB.out.trans (hb.mono HB.out.size)).setCell (p := ⟨w.heap.size, 0, none⟩) (Ks _) (.string r))
 clear hb
 obtain ⟨h0, h1, h2, h3, h4, h5, h6, h7, h8, h9, oI, oW, oL, nA, nB, mJ⟩ := Yhf BK.out
 go_wp2_with ((with_reducible refine Ynb (t := 32) (p := 2) rfl ?_); refine wpList_store_row rfl 32 (.tmp 2) (.tmp 6) rfl (w.heap.size + 1) (ec r f1 f2 f3 f4 f5 f6 f7 c0 c1 c2 (.slice A9 l9 n9) (.slice gE l10 n10) (.slice cA jW n11) (.slice bW jX n12) (.slice cB jY n13)) rfl rfl 32 _ BZ.out hi rfl (ec_one _ _ _ _ _ _ _ _ _ _ _ _ _ _ _ _ _ _ _ _ _ _ _ _ _ _) ?_)
 have BR := Ya.mk (setRow_heap _ _ _ (ec r f1 f2 f3 f4 f5 f6 f7 c0 c1 c2 (.slice A9 l9 n9) (.slice gE l10 n10) (.slice cA jW n11) (.slice bW jX n12) (.slice cB jY n13)) _ _ BZ.out)
 have HBR := Ya.mk (below_setRow HB.out (show w.heap.size ≤ w.heap.size + 1 by omega) (ec r f1 f2 f3 f4 f5 f6 f7 c0 c1 c2 (.slice A9 l9 n9) (.slice gE l10 n10) (.slice cA jW n11) (.slice bW jX n12) (.slice cB jY n13)))
 clear h0 h1 h2 h3 h4 h5 h6 h7 h8 h9 oI oW oL nA nB mJ
 refine bodyPost_ret (v := ?v1x) ?hv1x ?dv1x ?_
 case hv1x => refine results_cell_row (p := 2) (ty := 32) ?_ _ _ (w.heap.size + 1) 32 (ec r f1 f2 f3 f4 f5 f6 f7 c0 c1 c2 (.slice A9 l9 n9) (.slice gE l10 n10) (.slice cA jW n11) (.slice bW jX n12) (.slice cB jY n13)) (0, 0) _ ?_ BR.out hu rfl hi <;> rfl
 case dv1x => rfl
 exact ⟨rfl, HBR.out⟩
def Yqf (x : S32) : S32 := { x with f0 := ofR x }
end Go.Proofs.YtihaeeldgimdiaaGreatDoor.X
end
