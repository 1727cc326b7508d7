/- All: what a call of it does. -/
import Derived.Test.YtfmjnmglagdcdaaGreatDoorCHWords
import Derived.Test.YtfmjnmglagdcdaaGreatDoorCHCh
namespace Go.Proofs.YtfmjnmglagdcdaaGreatDoor.X
open Go.RowKit Go.Lib Go.Shelf Go.Yw.PrintWords Go.Yw.PrintLast Go.Yw.PrintMore
set_option linter.unusedVariables false
set_option linter.unusedSimpArgs false
theorem Yqm {P : Program} {ops : Array Oper} {rest : List Oper} {o : Oper} {a : Act} {Q : Exit → Act → World → Prop} {W : World} (hgd : o.guard = none) (s x : Operand) (t e : TypeId) (z : Value) (size bytes : Nat)
  (ho : o.op = .call { callee := .builtin .append, args := #[s, x], argTypes := #[t, t] })
  (ht : P.underlying t = some (.slice e)) (hinfo : (P.info? e).map (fun i => (i.zero, i.size, i.bytes)) = some (some z, size, bytes)) (hz : z.cells.size = size) (h0 : 0 < size)
  (base : Nat) (v : Value) (n : Nat) (xs us : List Value) (hu : ∀ u ∈ us, u.oneCell' = true) (hul : us.length = size) (hs : a.eval s = v) (hx : a.eval x = .slice (some ⟨W.heap.size, 0, none⟩) 1 1)
  (hown : W.ownsRow base e size v n xs) (hn : n ≤ 1000000) (hb : bytes ≤ 1000) (hbase : base ≤ W.heap.size)
  (h : ∀ v1 w1, w1.ownsRow base e size v1 (n + 1) (xs ++ us) → W.grownBy w1 v.ownBlock → (v1.ownBlock = v.ownBlock ∨ ∃ b, v1.ownBlock = some b ∧ W.heap.size ≤ b) → wpList P ops Q rest (a.put o.dst v1) w1) :
  wpList P ops Q (o :: rest) a (W.alloc (.cells us.toArray e)) := by
 obtain ⟨i, hi, hz0, hz1, hz2⟩ : ∃ i, P.info? e = some i ∧ i.zero = some z ∧ i.size = size ∧ i.bytes = bytes := by
  cases hi : P.info? e with
  | none => rw [hi] at hinfo; cases hinfo
  | some i =>
   rw [hi] at hinfo
   simp only [Option.map_some, Option.some.injEq, Prod.mk.injEq] at hinfo
   exact ⟨i, rfl, hinfo.1, hinfo.2.1, hinfo.2.2⟩
 refine wpList_append_own_at _ hgd s x t ho base e i z size bytes ht hi hz0 hz1 hz2 hz h0 v n xs hs (hown.alloc _) ⟨W.heap.size, 0, none⟩ 1 1 us hx (by rw [Nat.one_mul]; exact hul) (fun j u hj => ?_) hu (by unfold maxLen; omega) (Nat.le_trans (Nat.mul_le_mul (show n + 1 ≤ 1000001 by omega) hb) Zq) Zoa ?_
 ·rw [show (⟨W.heap.size, 0, none⟩ : Addr).add j = ⟨W.heap.size, j, none⟩ from (by cases j <;> simp [Addr.add]), Yf (heap_alloc_new W _)]
  simpa using hj
 intro v1 w1 h1 h2 _ h4
 refine h v1 w1 h1 ⟨h2.os, h2.tape, h2.output, Nat.le_trans Zoa h2.size, fun k hk hne => (h2.block k Zoa hne).trans (Below.heap_alloc W _ k hk)⟩ ?_
 rcases h4 with h4 | h4
 ·exact .inl h4
 ·exact .inr ⟨_, h4, Zoa⟩
theorem Ytb {w : World} {base e size : Nat} {v : Value} {n : Nat} {xs : List Value} (h : w.ownsRow base e size v n xs) : ∃ A cap, v = .slice A n cap ∧ n ≤ cap ∧ (∀ k, v.ownBlock = some k → base ≤ k) := by
 rcases h with ⟨hl, ⟨rfl, rfl⟩ | ⟨g, cap, cur, rfl, hg, hh, hc, _, hs, ht⟩⟩
 ·exact ⟨none, 0, rfl, Nat.le_refl _, fun k hk => by simp [Value.ownBlock] at hk⟩
 ·exact ⟨_, _, rfl, hc, fun k hk => by
   obtain rfl : g = k := by simpa [Value.ownBlock] using hk
   exact hg⟩
def infoL (l : List Ch) : List Value := l.flatMap (fun c => [.string c.uid, .string c.name])
def AllPost (w : World) (l : List Ch) (e : Ending) (w' : World) : Prop := ∃ A cap, e = .returned (.slice A l.length cap) ∧ w'.ownsRow w.heap.size 48 2 (.slice A l.length cap) l.length (infoL l) ∧ Below w.heap.size w w'
set_option maxHeartbeats 4000000 in
set_option maxRecDepth 100000 in
theorem all_calls {w : World} {M : Nat → Prop} {bb : Nat} {s : Bk} {sv : Value} {ps : List ChP} {ow : Nat → Nat × Nat} (h : BookO w M bb s sv ps ow) (hsz : s.l.length ≤ 1000000) (hn0 : 0 < s.l.length) :
  Calls Tryz.prog 15 #[.pointer (some ⟨bb, 0, none⟩)] w fun e w' => AllPost w s.l e w' := by
 have HOK := Ya.mk (Ydi h hn0)
 obtain ⟨g, cap, rfl, hcap, hcell, _⟩ := Yvd h.row hn0
 have hc1 := h.sv_cell
 have H := Ya.mk h
 have HC := Ya.mk hcell
 clear h hcell
 go_enter Tryz.func15, Tryz.ntmps15
 go_wp2_with fail
 refine HOK.out.mono ?_
 rintro e w0 ⟨rfl, rfl⟩
 go_wp2
 clear hc1
 go_loopg [3, 5, 14] s.l.length (fun gg t3 _ t14 wr => ∃ (k : Nat) (A : Option Addr) (c2 : Nat), k ≤ s.l.length ∧ s.l.length ≤ k + gg ∧ t3 = .slice A k c2 ∧ t14 = .int .i64 (k : Int) ∧ Ya (wr.ownsRow w.heap.size 48 2 (.slice A k c2) k (infoL (s.l.take k))) ∧ Ya (Below w.heap.size w wr))
 case atStart => exact ⟨0, none, 0, Nat.zero_le _, Zk, rfl, rfl, ⟨⟨rfl, .inl ⟨rfl, rfl⟩⟩⟩, ⟨Below.refl _ _⟩⟩
 case round =>
  obtain ⟨k, A, c2, hk, hkg, rfl, rfl, HO, HB⟩ := hrel
  by_cases hlt : k < s.l.length
  ·cases gk with
   | zero => omega
   | succ gn =>
    obtain ⟨c, hc⟩ : ∃ c, s.l[k]? = some c := ⟨_, List.getElem?_eq_getElem hlt⟩
    obtain ⟨p, hp⟩ : ∃ p, ps[k]? = some p := ⟨_, List.getElem?_eq_getElem (by rw [H.out.len]; exact hlt)⟩
    have hptr0 : w.cell? ⟨g, k, none⟩ = some (.pointer (some ⟨p.cb, 0, none⟩)) := HC.out k _ (by rw [List.getElem?_map, hp]; rfl)
    have hptr : wr.cell? ⟨g, k, none⟩ = some (.pointer (some ⟨p.cb, 0, none⟩)) := (HB.out.cell (p := ⟨g, k, none⟩) (lt_of_cell hptr0)).trans hptr0
    have hch := H.out.chs k p c hp hc
    have hbk := (HB.out.block p.cb (Yx hch.blk)).trans hch.blk
    have huid : wr.cell? ⟨p.cb, 0, none⟩ = some (.string c.uid) := (Yf hbk 0).trans rfl
    have hnam : wr.cell? ⟨p.cb, 1, none⟩ = some (.string c.name) := (Yf hbk 1).trans rfl
    have htk : s.l.take (k + 1) = s.l.take k ++ [c] := by rw [List.take_add_one, hc]; rfl
    have HTK := Ya.mk htk
    have HKZ := Ya.mk (show k ≤ 1000000 by omega)
    have hu48 := Tryz.underlying48
    clear hptr0 hch hbk htk hc hp
    go_wp2_with (at_builtin; refine Yqm (W := wr) rfl (.tmp 18) (.tmp 23) 45 48 (.agg #[.string ByteArray.empty, .string ByteArray.empty]) 2 32 rfl Tryz.underlying45 Zg rfl Zq w.heap.size (.slice A k c2) k (infoL (s.l.take k)) [.string c.uid, .string c.name] (by intro u hu; simp at hu; rcases hu with rfl | rfl <;> rfl) rfl rfl rfl HO.out HKZ.out Zq HB.out.size ?_; intro v1 w1 hown1 hg1 hat1; obtain ⟨A1, cap1, rfl, _, hbase1⟩ := Ytb hown1; have HO1 := Ya.mk hown1; have HB1 := Ya.mk (below_grown HB.out hg1 (Ytb HO.out).choose_spec.choose_spec.2.2 HB.out.size); clear hown1 hg1 hat1)
    go_roundg gn
    case measure => omega
    case rel => exact ⟨k + 1, A1, cap1, Zk, Zk, rfl, by go_num, ⟨by rw [HTK.out]; unfold infoL; rw [List.flatMap_append]; exact HO1.out⟩, HB1⟩
  ·obtain rfl : k = s.l.length := by omega
   go_wp2
   go_ret
   rw [List.take_length] at HO
   exact ⟨A, c2, rfl, HO.out, HB.out⟩
end Go.Proofs.YtfmjnmglagdcdaaGreatDoor.X
