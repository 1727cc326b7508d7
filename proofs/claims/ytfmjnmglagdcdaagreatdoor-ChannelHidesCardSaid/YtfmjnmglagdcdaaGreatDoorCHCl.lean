/- A book, one of whose channels' lists is turned. -/
import Derived.Test.YtfmjnmglagdcdaaGreatDoorCHWords
import Derived.Test.YtfmjnmglagdcdaaGreatDoorCHCa
import Derived.Maps.AppendAt
namespace Go.Proofs.YtfmjnmglagdcdaaGreatDoor.X
open Go.RowKit Go.Lib Go.Yw.PrintWords Go.Yw.PrintLast Go.Yw.PrintMore
set_option linter.unusedVariables false
set_option linter.unusedSimpArgs false
def Ch.setL (c : Ch) (n : Nat) (l : List ByteArray) : Ch := { c with l := fun j => if j = n then l else c.l j }
def Bk.setL (s : Bk) (i n : Nat) (l : List ByteArray) : Bk := { s with l := s.l.modify i (fun c => c.setL n l) }
def ChP.setV (p : ChP) (n : Nat) (v : Value) : ChP := { p with v := fun j => if j = n then v else p.v j }
def Yzg (c : Ch) (p : ChP) : Array Value := #[.string c.uid, .string c.name, p.v 0, p.v 1, p.v 2]
theorem Yqh (c : Ch) (p : ChP) (n : Nat) (hn : n < 3) : (Yzg c p)[2 + n]? = some (p.v n) := by
 rcases (show n = 0 ∨ n = 1 ∨ n = 2 by omega) with rfl | rfl | rfl <;> rfl
theorem Ywi (c : Ch) (p : ChP) (n : Nat) (hn : n < 3) (v : Value) (l : List ByteArray) : (Yzg c p).setIfInBounds (2 + n) v = Yzg (c.setL n l) (p.setV n v) := by
 rcases (show n = 0 ∨ n = 1 ∨ n = 2 by omega) with rfl | rfl | rfl <;> rfl
theorem BookO.turned {w w3 : World} {M : Nat → Prop} {bb : Nat} {s : Bk} {sv : Value} {ps : List ChP} {ow : Nat → Nat × Nat} (h : BookO w M bb s sv ps ow) {i n : Nat} {p : ChP} {c : Ch} (hp : ps[i]? = some p) (hc : s.l[i]? = some c) (hn : n < 3) {v : Value} {l : List ByteArray}
  (hblk : w3.heap[p.cb]? = some (.cells (Yzg (c.setL n l) (p.setV n v)) 62 (0, 0)))
  (hown : w3.ownsRow 0 9 1 v l.length (l.map Value.string))
  (hat : v.ownBlock = (p.v n).ownBlock ∨ ∃ b, v.ownBlock = some b ∧ w.heap.size ≤ b)
  (hkeep : ∀ k, k < w.heap.size → k ≠ p.cb → some k ≠ (p.v n).ownBlock → w3.heap[k]? = w.heap[k]?) :
  BookO w3 (fun k => M k ∨ w.heap.size ≤ k) bb (s.setL i n l) sv (ps.modify i (fun p => p.setV n v)) (fun k => if v.ownBlock = some k then (p.cb, n) else ow k) := by
 have hch := h.chs i p c hp hc
 have hown0 := hch.own n hn
 have ht0 : ∀ k, (p.v n).ownBlock = some k → ∃ cells, w.heap[k]? = some (.cells cells 9 (0, 0)) := Yva hown0.2
 have hne : ∀ {k : Nat} {t : Nat} {cs : Array Value}, w.heap[k]? = some (.cells cs t (0, 0)) → t ≠ 9 → some k ≠ (p.v n).ownBlock := by
  intro k t cs hk ht he
  obtain ⟨cells, h2⟩ := ht0 k he.symm
  rw [hk] at h2
  injection h2 with h2
  injection h2 with _ h2 _
  exact ht h2
 have hi := (List.getElem?_eq_some_iff.1 hp).1
 have hbne : bb ≠ p.cb := by
  intro e
  have h1 := h.blk
  rw [e, hch.blk] at h1
  injection h1 with h1
  injection h1 with _ h1 _
  exact absurd h1 Zq
 have hsvne : ∀ k, sv.ownBlock = some k → k ≠ p.cb ∧ some k ≠ (p.v n).ownBlock ∧ k < w.heap.size := by
  intro k hk
  obtain ⟨cells, h1⟩ := Yva h.row k hk
  refine ⟨fun e => ?_, hne h1 Zq, Yx h1⟩
  rw [e, hch.blk] at h1
  injection h1 with h1
  injection h1 with _ h1 _
  exact absurd h1 Zq
 refine ⟨.inl h.mem, (hkeep bb (Yx h.blk) hbne (hne h.blk Zq)).trans h.blk, fun k hk => .inl (h.okv k hk), ?_, ?_, ?_, ?_⟩
 ·have e1 : (ps.modify i (fun p => p.setV n v)).map ptrV = ps.map ptrV := by
   apply List.ext_getElem?
   intro j
   rw [List.getElem?_map, List.getElem?_map, List.getElem?_modify]
   cases ps[j]? with
   | none => rfl
   | some q => by_cases e : i = j <;> simp [e, ptrV, ChP.setV]
  have e2 : (s.setL i n l).l.length = s.l.length := List.length_modify _ _ _
  rw [e1, e2]
  exact Ylc h.row (fun k hk => hkeep k (hsvne k hk).2.2 (hsvne k hk).1 (hsvne k hk).2.1)
 ·show (ps.modify i _).length = (s.l.modify i _).length
  rw [List.length_modify, List.length_modify]
  exact h.len
 ·have e1 : (ps.modify i (fun p => p.setV n v)).map (·.cb) = ps.map (·.cb) := by
   apply List.ext_getElem?
   intro j
   rw [List.getElem?_map, List.getElem?_map, List.getElem?_modify]
   cases ps[j]? with
   | none => rfl
   | some q => by_cases e : i = j <;> simp [e, ChP.setV]
  rw [e1]
  exact h.nodup
 ·intro j q d hq hd
  have hd' : (s.l.modify i (fun c => c.setL n l))[j]? = some d := hd
  by_cases e : i = j
  ·subst e
   rw [List.getElem?_modify_eq, hp] at hq
   rw [List.getElem?_modify_eq, hc] at hd'
   obtain rfl : p.setV n v = q := Option.some.inj hq
   obtain rfl : c.setL n l = d := Option.some.inj hd'
   refine ⟨.inl hch.mem, hblk, fun j hj => ?_⟩
   by_cases ej : j = n
   ·subst ej
    have e1 : (p.setV j v).v j = v := if_pos rfl
    have e2 : (c.setL j l).l j = l := if_pos rfl
    rw [e1, e2]
    refine ⟨fun k hk => ⟨?_, if_pos hk⟩, hown⟩
    rcases hat with h1 | ⟨b, h1, h2⟩
    ·exact .inl (hown0.1 k (h1 ▸ hk)).1
    ·rw [h1] at hk
     injection hk with hk
     exact .inr (hk ▸ h2)
   ·have e1 : (p.setV n v).v j = p.v j := if_neg ej
    have e2 : (c.setL n l).l j = c.l j := if_neg ej
    rw [e1, e2]
    have hj2 := hch.own j hj
    refine ⟨fun k hk => ?_, Ylc hj2.2 (fun k hk => ?_)⟩
    ·have h1 := hj2.1 k hk
     refine ⟨.inl h1.1, ?_⟩
     rw [if_neg (fun h2 => ?_)]
     ·exact h1.2
     ·rcases hat with h3 | ⟨b, h3, h4⟩
      ·have h5 := (hown0.1 k (h3 ▸ h2)).2
       rw [h1.2] at h5
       injection h5 with _ h5
       exact ej h5
      ·obtain ⟨cells, h5⟩ := Yva hj2.2 k hk
       rw [h3] at h2
       injection h2 with h2
       have := Yx h5
       omega
    ·obtain ⟨cells, h5⟩ := Yva hj2.2 k hk
     refine hkeep k (Yx h5) (fun e => ?_) (fun e => ?_)
     ·rw [e, hch.blk] at h5
      injection h5 with h5
      injection h5 with _ h5 _
      exact absurd h5 Zq
     ·have h6 := (hown0.1 k e.symm).2
      rw [(hj2.1 k hk).2] at h6
      injection h6 with _ h6
      exact ej h6
  ·rw [List.getElem?_modify_ne _ _ e] at hq
   rw [List.getElem?_modify_ne _ _ e] at hd'
   have hq2 := h.chs j q d hq hd'
   have hcb : q.cb ≠ p.cb := by
    intro e2
    have h1 : (ps.map (·.cb))[j]? = some p.cb := by rw [List.getElem?_map, hq, ← e2]; rfl
    have h2 : (ps.map (·.cb))[i]? = some p.cb := by rw [List.getElem?_map, hp]; rfl
    exact e ((List.getElem?_inj (by rw [List.length_map]; exact hi) h.nodup).1 (h2.trans h1.symm))
   refine ⟨.inl hq2.mem, (hkeep _ (Yx hq2.blk) hcb (hne hq2.blk Zq)).trans hq2.blk, fun j2 hj2 => ?_⟩
   have hj3 := hq2.own j2 hj2
   refine ⟨fun k hk => ?_, Ylc hj3.2 (fun k hk => ?_)⟩
   ·have h1 := hj3.1 k hk
    refine ⟨.inl h1.1, ?_⟩
    rw [if_neg (fun h2 => ?_)]
    ·exact h1.2
    ·rcases hat with h3 | ⟨b, h3, h4⟩
     ·have h5 := (hown0.1 k (h3 ▸ h2)).2
      rw [h1.2] at h5
      injection h5 with h5 _
      exact hcb h5
     ·obtain ⟨cells, h5⟩ := Yva hj3.2 k hk
      rw [h3] at h2
      injection h2 with h2
      have := Yx h5
      omega
   ·obtain ⟨cells, h5⟩ := Yva hj3.2 k hk
    refine hkeep k (Yx h5) (fun e => ?_) (fun e => ?_)
    ·rw [e, hch.blk] at h5
     injection h5 with h5
     injection h5 with _ h5 _
     exact absurd h5 Zq
    ·have h6 := (hown0.1 k e.symm).2
     rw [(hj3.1 k hk).2] at h6
     injection h6 with h6 _
     exact hcb h6
theorem Yz (w : World) (o : Obj) : (w.alloc o).heap.size = w.heap.size + 1 := Array.size_push _
theorem app_one {P : Program} {ops : Array Oper} {rest : List Oper} {o : Oper} {a : Act} {Q : Exit → Act → World → Prop} {W : World} (hgd : o.guard = none) (s x : Operand) (t e : TypeId) (z : Value) (bytes : Nat)
  (ho : o.op = .call { callee := .builtin .append, args := #[s, x], argTypes := #[t, t] })
  (ht : P.underlying t = some (.slice e)) (hinfo : (P.info? e).map (fun i => (i.zero, i.size, i.bytes)) = some (some z, 1, bytes)) (hz : z.cells.size = 1)
  (v : Value) (n : Nat) (xs : List Value) (u : Value) (hu : u.oneCell' = true) (hs : a.eval s = v) (hx : a.eval x = .slice (some ⟨W.heap.size, 0, none⟩) 1 1)
  (hown : W.ownsRow 0 e 1 v n xs) (hn : n ≤ 1000000) (hb : bytes ≤ 1000)
  (h : ∀ v1 w1, w1.ownsRow 0 e 1 v1 (n + 1) (xs ++ [u]) → W.grownBy w1 v.ownBlock → (v1.ownBlock = v.ownBlock ∨ ∃ b, v1.ownBlock = some b ∧ W.heap.size ≤ b) → wpList P ops Q rest (a.put o.dst v1) w1) :
  wpList P ops Q (o :: rest) a (W.alloc (.cells #[u] e)) := by
 obtain ⟨i, hi, hz0, hz1, hz2⟩ : ∃ i, P.info? e = some i ∧ i.zero = some z ∧ i.size = 1 ∧ i.bytes = bytes := by
  cases hi : P.info? e with
  | none => rw [hi] at hinfo; cases hinfo
  | some i =>
   rw [hi] at hinfo
   simp only [Option.map_some, Option.some.injEq, Prod.mk.injEq] at hinfo
   exact ⟨i, rfl, hinfo.1, hinfo.2.1, hinfo.2.2⟩
 refine wpList_append_own_at _ hgd s x t ho 0 e i z 1 bytes ht hi hz0 hz1 hz2 hz Zq v n xs hs (hown.alloc _) ⟨W.heap.size, 0, none⟩ 1 1 [u] hx rfl (cell_one_new W u e) (fun y hy => by rw [List.mem_singleton.1 hy]; exact hu) (by unfold maxLen; omega) (Nat.le_trans (Nat.mul_le_mul (show n + 1 ≤ 1000001 by omega) hb) Zq) (Nat.zero_le _) ?_
 intro v1 w1 h1 h2 _ h4
 refine h v1 w1 h1 ⟨h2.os, h2.tape, h2.output, Nat.le_trans Zoa h2.size, fun k hk hne => (h2.block k Zoa hne).trans (Below.heap_alloc W _ k hk)⟩ ?_
 rcases h4 with h4 | h4
 ·exact .inl h4
 ·exact .inr ⟨_, h4, Zoa⟩
theorem below_grown {B : Nat} {w W w1 : World} {v : Value} (h : Below B w W) (hg : W.grownBy w1 v.ownBlock) (hv : ∀ k, v.ownBlock = some k → B ≤ k) (hB : B ≤ W.heap.size) : Below B w w1 :=
 h.trans ⟨hg.os, hg.tape, hg.output, hg.size, fun k hk => hg.block k Zk (fun e => by have := hv k e.symm; omega)⟩
end Go.Proofs.YtfmjnmglagdcdaaGreatDoor.X
