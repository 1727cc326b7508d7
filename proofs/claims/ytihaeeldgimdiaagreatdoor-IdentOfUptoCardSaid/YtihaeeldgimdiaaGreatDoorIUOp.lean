import Derived.Test.YtihaeeldgimdiaaGreatDoorIUX0
import Derived.SizedLaws
import Derived.OpenShut
import Derived.Test.YtihaeeldgimdiaaGreatDoorRows
set_option linter.all false
section
namespace Go.Proofs.YtihaeeldgimdiaaGreatDoor.X
open Go Go.RowKit Go.ChangeShapes Go.Yw.PrintWords Go.Yw.PrintLast Go.Yw.PrintMore
def Opens {α : Type} (P : Program) (t : TypeId) (d : Kd α) (Ok : α → Prop) : Prop :=
 P.cellsOf t = d.sz ∧ ∀ (H : Type) (enc : TypeId × Value → H) (W : World) (base : Nat) (sp : Nat → Bool) (held : Bool) (n : Nat) (cs : List Value) (D : DataW H) (ps : List MemPlace),
  DataW.trod enc P W base sp held n t cs = some (D, ps) → (∀ m ∈ D.weights P t, m ≤ 140737488351232) → ∃ x, d.K W x cs ∧ Ok x
section
variable {P : Program} {t e : TypeId} {α β : Type} {d : Kd α} {Ok : α → Prop}
theorem Opens.string (ht : P.underlying t = some .string) (hc : P.cellsOf t = 1) : Opens P t Kd.string (fun s => s.size ≤ 140737488351232) := by
 refine ⟨hc, fun H enc W base sp held n cs D ps h hw => ?_⟩
 obtain ⟨s, rfl, hx, _⟩ := DataW.trod_string ht h
 simp only [Kaa] at hx
 obtain ⟨rfl, rfl⟩ := hx
 exact ⟨s, rfl, by have := hw s.data.toList.length (by simp [DataW.weights]); show s.size ≤ _; rw [Lib.size_eq]; exact this⟩
theorem Opens.int {k : IntKind} (ht : P.underlying t = some (.int k)) (hc : P.cellsOf t = 1) : Opens P t (Kd.int k) (fun n => (Lit.int k n).wf = true) := by
 refine ⟨hc, fun H enc W base sp held n cs D ps h hw => ?_⟩
 obtain ⟨s, rfl, hx, hwf⟩ := DataW.trod_int ht h
 exact ⟨s, rfl, hwf⟩
theorem Opens.bool (ht : P.underlying t = some .bool) (hc : P.cellsOf t = 1) : Opens P t Kd.bool (fun _ => True) := by
 refine ⟨hc, fun H enc W base sp held n cs D ps h hw => ?_⟩
 obtain ⟨s, rfl, hx⟩ := DataW.trod_bool ht h
 exact ⟨s, rfl, trivial⟩
theorem Yxh {H : Type} {P : Program} {e : TypeId} : ∀ {l : List (DataW H)} {d : DataW H} {m : Nat}, d ∈ l → m ∈ d.weights P e → m ∈ DataW.weightsAll P e l
 | x :: r, d, m, hd, hm => by
  unfold DataW.weightsAll
  rcases List.mem_cons.1 hd with rfl | hd
  ·exact List.mem_append_left _ hm
  ·exact List.mem_append_right _ (Yxh hd hm)
theorem cells?_get {w : World} {base : Nat} {a : Addr} {n : Nat} {cs : List Value} (h : w.cells? base a n = some cs) : cs.length = n ∧ ∀ i u, cs[i]? = some u → w.cell? (a.add i) = some u := by
 unfold World.cells? at h
 split at h
 ·have hl := mapM_some_length h
  rw [List.length_range] at hl
  refine ⟨hl, fun i u hu => ?_⟩
  have hi : i < n := by have := (List.getElem?_eq_some_iff.1 hu).1; omega
  have := mapM_some_get h i i (by simp [hi])
  rw [this, hu]
 ·cases h
theorem Opens.slice {q : Nat} (ht : P.underlying t = some (.slice e)) (hc : P.cellsOf t = 1) (he : Opens P e d Ok) : Opens P t (Kd.slice q d) (fun xs => xs.length * P.bytesOf e ≤ 140737488351232 ∧ ∀ x ∈ xs, Ok x) := by
 obtain ⟨hsz, hop⟩ := he
 refine ⟨hc, fun H enc W base sp held n cs D ps h hw => ?_⟩
 rcases DataW.trod_slice ht h with ⟨rfl, hx⟩ | ⟨a, len, cap, elems, rest, n', rfl, rfl, hx, hb, hl, hcm, hel, hget, _, _⟩
 ·exact ⟨[], ⟨none, 0, rfl, Ks _, Kd.C_nil _ _⟩, Zq, Zq⟩
 ·simp only [Kaa] at hx
  obtain ⟨rfl, rfl⟩ := hx
  have hwt : ∀ m ∈ ((elems.map (·.1)).length + (rest.map (·.1)).length) * P.bytesOf e :: (DataW.weightsAll P e (elems.map (·.1)) ++ DataW.weightsAll P e (rest.map (·.1))), m ≤ 140737488351232 := by
   intro m hm
   refine hw m ?_
   rw [DataW.weights, ht]
   exact hm
  have hx : ∀ i, i < len → ∃ x cs, cs.length = d.sz ∧ d.K W x cs ∧ Ok x ∧ ∀ j u, cs[j]? = some u → W.cell? (a.add (i * d.sz + j)) = some u := by
   intro i hi
   have hg := hget i hi
   have hie : i < elems.length := by omega
   rw [List.getElem?_eq_getElem hie] at hg
   obtain ⟨ci, hci, htr⟩ := Option.bind_eq_some_iff.1 hg
   obtain ⟨hcl, hcc⟩ := cells?_get hci
   rw [hsz] at hcl hcc
   obtain ⟨x, hK, hO⟩ := hop H enc W base sp held n' ci elems[i].1 elems[i].2 htr (fun m hm => hwt m (List.mem_cons_of_mem _ (List.mem_append_left _ (Yxh (List.mem_map.2 ⟨elems[i], List.getElem_mem hie, rfl⟩) hm))))
   exact ⟨x, ci, hcl, hK, hO, fun j u hu => by rw [← add_add]; exact hcc j u hu⟩
  obtain ⟨xs, hxl, hxs⟩ : ∃ xs : List α, xs.length = len ∧ ∀ i x, xs[i]? = some x → ∃ cs, cs.length = d.sz ∧ d.K W x cs ∧ Ok x ∧ ∀ j u, cs[j]? = some u → W.cell? (a.add (i * d.sz + j)) = some u := by
   have : ∀ m, m ≤ len → ∃ xs : List α, xs.length = m ∧ ∀ i x, xs[i]? = some x → ∃ cs, cs.length = d.sz ∧ d.K W x cs ∧ Ok x ∧ ∀ j u, cs[j]? = some u → W.cell? (a.add (i * d.sz + j)) = some u := by
    intro m
    induction m with
    | zero => intro _; exact ⟨[], rfl, fun i x h => by simp at h⟩
    | succ m ih =>
     intro hm
     obtain ⟨xs, h1, h2⟩ := ih Zj
     obtain ⟨x, hx⟩ := hx m Zj
     refine ⟨xs ++ [x], by simp [h1], fun i y hy => ?_⟩
     rcases Nat.lt_or_ge i xs.length with hi | hi
     ·rw [List.getElem?_append_left hi] at hy
      exact h2 i y hy
     ·have hie : i = m := by
       have := (List.getElem?_eq_some_iff.1 hy).1
       rw [List.length_append, List.length_singleton] at this
       omega
      subst hie
      have : x = y := by
       rw [← h1] at hy
       simpa using hy
      subst this
      exact hx
   exact this len (Ks _)
  have hmax : cap ≤ 9223372036854775807 := hcm
  refine ⟨xs, ⟨some a, cap, by rw [hxl], Zj, rfl, Zj, fun _ => ⟨a, rfl, fun j p hj => ?_⟩⟩, ?_, ?_⟩
  ·obtain ⟨cs, c1, c2, _, c3⟩ := hxs j p hj
   exact ⟨cs, c1, c2, c3⟩
  ·have := hwt _ List.mem_cons_self
   have h3 := Nat.mul_le_mul_right (P.bytesOf e) (show xs.length ≤ (elems.map (·.1)).length + (rest.map (·.1)).length by rw [List.length_map]; omega)
   omega
  ·intro x hm
   obtain ⟨i, hi⟩ := List.getElem?_of_mem hm
   obtain ⟨cs, _, _, hO, _⟩ := hxs i x hi
   exact hO
def Walks {H : Type} (enc : TypeId × Value → H) (P : Program) (W : World) (base : Nat) (sp : Nat → Bool) (held : Bool) (n : Nat) : List TypeId → List Value → List (DataW H × List MemPlace) → Prop
 | [], _, xs => xs = []
 | t :: ts, cs, xs => ∃ x r, xs = x :: r ∧ DataW.trod enc P W base sp held n t (cs.take (P.cellsOf t)) = some x ∧ Walks enc P W base sp held n ts (cs.drop (P.cellsOf t)) r
def offs (P : Program) : Nat → List Go.Field → Bool
 | _, [] => true
 | o, f :: fs => f.offset == o && offs P (o + P.cellsOf f.type) fs
theorem Yfr {H : Type} {enc : TypeId × Value → H} {W : World} {base : Nat} {sp : Nat → Bool} {held : Bool} {n : Nat} {cs : List Value} : ∀ (fs : List Go.Field) (o : Nat) (xs : List (DataW H × List MemPlace)), offs P o fs = true → xs.length = fs.length →
  (∀ (i : Nat) (f : Go.Field), fs[i]? = some f → DataW.trod enc P W base sp held n f.type ((cs.drop f.offset).take (P.cellsOf f.type)) = xs[i]?) → Walks enc P W base sp held n (fs.map (·.type)) (cs.drop o) xs
 | [], o, xs, _, hl, _ => List.length_eq_zero_iff.1 hl
 | f :: fs, o, xs, ho, hl, h => by
  unfold offs at ho
  rw [Bool.and_eq_true, beq_iff_eq] at ho
  match xs, hl with
  | x :: r, hl =>
   have h0 := h 0 f rfl
   rw [ho.1] at h0
   refine ⟨x, r, rfl, h0, ?_⟩
   rw [List.drop_drop]
   exact Yfr fs _ r ho.2 Zcb (fun i g hg => h (i + 1) g hg)
theorem Opens.iso {γ : Type} (f : γ → α) (g : α → γ) (hg : ∀ a, f (g a) = a) (h : Opens P t d Ok) : Opens P t (Kd.iso d f) (fun y => Ok (f y)) := by
 obtain ⟨hsz, hop⟩ := h
 refine ⟨hsz, fun H enc W base sp held n cs D ps h2 hw => ?_⟩
 obtain ⟨x, hK, hO⟩ := hop H enc W base sp held n cs D ps h2 hw
 exact ⟨g x, by show d.K W (f (g x)) cs; rw [hg]; exact hK, by show Ok (f (g x)); rw [hg]; exact hO⟩
end
end Go.Proofs.YtihaeeldgimdiaaGreatDoor.X
end
section
namespace Go.Proofs.YtihaeeldgimdiaaGreatDoor.X
open Go Go.RowKit Go.ChangeShapes Go.Yw.PrintWords Go.Yw.PrintLast Go.Yw.PrintMore
theorem Ycs {H : Type} (l : List (DataW H)) : ∀ d ∈ l, Rows.uptoBulk d ≤ Rows.uptoBulkAll l := by
 induction l with
 | nil => intro d h; cases h
 | cons x r ih =>
  intro d h
  simp only [Rows.uptoBulkAll]
  rcases List.mem_cons.1 h with rfl | h
  ·omega
  ·have := ih d h; omega
def OpensB {α : Type} (P : Program) (t : TypeId) (d : Kd α) (Ok : α → Prop) (m : α → Nat) : Prop :=
 P.cellsOf t = d.sz ∧ ∀ (H : Type) (enc : TypeId × Value → H) (W : World) (base : Nat) (sp : Nat → Bool) (held : Bool) (n : Nat) (cs : List Value) (D : DataW H) (ps : List MemPlace),
  DataW.trod enc P W base sp held n t cs = some (D, ps) → (∀ k ∈ D.weights P t, k ≤ 140737488351232) → ∃ x, d.K W x cs ∧ Ok x ∧ m x ≤ Rows.uptoBulk D
section
variable {P : Program} {t e : TypeId} {α β : Type} {d : Kd α} {Ok : α → Prop} {m : α → Nat}
theorem OpensB.string (ht : P.underlying t = some .string) (hc : P.cellsOf t = 1) : OpensB P t Kd.string (fun s => s.size ≤ 140737488351232) (fun s => s.size + 1) := by
 refine ⟨hc, fun H enc W base sp held n cs D ps h hw => ?_⟩
 obtain ⟨s, rfl, hx, _⟩ := DataW.trod_string ht h
 simp only [Kaa] at hx
 obtain ⟨rfl, rfl⟩ := hx
 have hz := hw s.data.toList.length (by simp [DataW.weights])
 rw [← Lib.size_eq] at hz
 exact ⟨s, rfl, hz, by show s.size + 1 ≤ _; rw [Lib.size_eq]; simp [Rows.uptoBulk]⟩
theorem OpensB.int {k : IntKind} (ht : P.underlying t = some (.int k)) (hc : P.cellsOf t = 1) : OpensB P t (Kd.int k) (fun n => (Lit.int k n).wf = true) (fun _ => 0) := by
 refine ⟨hc, fun H enc W base sp held n cs D ps h hw => ?_⟩
 obtain ⟨s, rfl, hx, hwf⟩ := DataW.trod_int ht h
 exact ⟨s, rfl, hwf, Nat.zero_le _⟩
theorem OpensB.bool (ht : P.underlying t = some .bool) (hc : P.cellsOf t = 1) : OpensB P t Kd.bool (fun _ => True) (fun _ => 0) := by
 refine ⟨hc, fun H enc W base sp held n cs D ps h hw => ?_⟩
 obtain ⟨s, rfl, hx⟩ := DataW.trod_bool ht h
 exact ⟨s, rfl, trivial, Nat.zero_le _⟩
def sumM (m : α → Nat) : List α → Nat
 | [] => 0
 | x :: r => m x + sumM m r
theorem Yuo (m : α → Nat) : ∀ (l : List α) (x : α), sumM m (l ++ [x]) = sumM m l + m x
 | [], x => by simp [sumM]
 | y :: l, x => by simp only [List.cons_append, sumM, Yuo m l x]; omega
theorem OpensB.slice {q : Nat} (ht : P.underlying t = some (.slice e)) (hc : P.cellsOf t = 1) (he : OpensB P e d Ok m) : OpensB P t (Kd.slice q d) (fun xs => xs.length * P.bytesOf e ≤ 140737488351232 ∧ ∀ x ∈ xs, Ok x) (fun xs => sumM m xs + 1) := by
 obtain ⟨hsz, hop⟩ := he
 refine ⟨hc, fun H enc W base sp held n cs D ps h hw => ?_⟩
 rcases DataW.trod_slice ht h with ⟨rfl, hx⟩ | ⟨a, len, cap, elems, rest, n', rfl, rfl, hx, hb, hl, hcm, hel, hget, _, _⟩
 ·simp only [Kaa] at hx
  obtain ⟨rfl, rfl⟩ := hx
  exact ⟨[], ⟨none, 0, rfl, Ks _, Kd.C_nil _ _⟩, ⟨Zq, Zq⟩, by simp [sumM, Rows.uptoBulk]⟩
 ·simp only [Kaa] at hx
  obtain ⟨rfl, rfl⟩ := hx
  have hwt : ∀ k ∈ ((elems.map (·.1)).length + (rest.map (·.1)).length) * P.bytesOf e :: (DataW.weightsAll P e (elems.map (·.1)) ++ DataW.weightsAll P e (rest.map (·.1))), k ≤ 140737488351232 := by
   intro k hk
   refine hw k ?_
   rw [DataW.weights, ht]
   exact hk
  have hx : ∀ i (hi : i < elems.length), ∃ x cs, cs.length = d.sz ∧ d.K W x cs ∧ Ok x ∧ m x ≤ Rows.uptoBulk elems[i].1 ∧ ∀ j u, cs[j]? = some u → W.cell? (a.add (i * d.sz + j)) = some u := by
   intro i hie
   have hg := hget i Zj
   rw [List.getElem?_eq_getElem hie] at hg
   obtain ⟨ci, hci, htr⟩ := Option.bind_eq_some_iff.1 hg
   obtain ⟨hcl, hcc⟩ := cells?_get hci
   rw [hsz] at hcl hcc
   obtain ⟨x, hK, hO, hm⟩ := hop H enc W base sp held n' ci elems[i].1 elems[i].2 htr (fun k hk => hwt k (List.mem_cons_of_mem _ (List.mem_append_left _ (Yxh (List.mem_map.2 ⟨elems[i], List.getElem_mem hie, rfl⟩) hk))))
   exact ⟨x, ci, hcl, hK, hO, hm, fun j u hu => by rw [← add_add]; exact hcc j u hu⟩
  obtain ⟨xs, hxl, hsum, hxs⟩ : ∃ xs : List α, xs.length = len ∧ sumM m xs ≤ Rows.uptoBulkAll (elems.map (·.1)) ∧ ∀ i x, xs[i]? = some x → ∃ cs, cs.length = d.sz ∧ d.K W x cs ∧ Ok x ∧ ∀ j u, cs[j]? = some u → W.cell? (a.add (i * d.sz + j)) = some u := by
   have : ∀ k, k ≤ elems.length → ∃ xs : List α, xs.length = k ∧ sumM m xs ≤ Rows.uptoBulkAll ((elems.take k).map (·.1)) ∧ ∀ i x, xs[i]? = some x → ∃ cs, cs.length = d.sz ∧ d.K W x cs ∧ Ok x ∧ ∀ j u, cs[j]? = some u → W.cell? (a.add (i * d.sz + j)) = some u := by
    intro k
    induction k with
    | zero => intro _; exact ⟨[], rfl, by simp [sumM], fun i x h => by simp at h⟩
    | succ k ih =>
     intro hk
     obtain ⟨xs, h1, h0, h2⟩ := ih Zj
     obtain ⟨x, cs, c1, c2, c3, c4, c5⟩ := hx k Zj
     refine ⟨xs ++ [x], by simp [h1], ?_, fun i y hy => ?_⟩
     ·have hlt : k < elems.length := by omega
      rw [Yuo, List.take_add_one, List.getElem?_eq_getElem hlt, Option.toList_some, List.map_append]
      have ap : ∀ (l r : List (DataW H)), Rows.uptoBulkAll (l ++ r) = Rows.uptoBulkAll l + Rows.uptoBulkAll r := by
       intro l r
       induction l with
       | nil => simp [Rows.uptoBulkAll]
       | cons x l ih => simp only [List.cons_append, Rows.uptoBulkAll, ih]; omega
      rw [ap]
      simp only [List.map_cons, List.map_nil, Rows.uptoBulkAll]
      omega
     ·rcases Nat.lt_or_ge i xs.length with hi | hi
      ·rw [List.getElem?_append_left hi] at hy
       exact h2 i y hy
      ·have hie : i = k := by
        have := (List.getElem?_eq_some_iff.1 hy).1
        rw [List.length_append, List.length_singleton] at this
        omega
       subst hie
       have : x = y := by
        rw [← h1] at hy
        simpa using hy
       subst this
       exact ⟨cs, c1, c2, c3, c5⟩
   obtain ⟨xs, h1, h2, h3⟩ := this elems.length (Ks _)
   rw [List.take_length] at h2
   exact ⟨xs, Zj, h2, h3⟩
  have hmax : cap ≤ 9223372036854775807 := hcm
  refine ⟨xs, ⟨some a, cap, by rw [hxl], Zj, rfl, Zj, fun _ => ⟨a, rfl, fun j p hj => ?_⟩⟩, ⟨?_, ?_⟩, ?_⟩
  ·obtain ⟨cs, c1, c2, _, c3⟩ := hxs j p hj
   exact ⟨cs, c1, c2, c3⟩
  ·have := hwt _ List.mem_cons_self
   have h3 := Nat.mul_le_mul_right (P.bytesOf e) (show xs.length ≤ (elems.map (·.1)).length + (rest.map (·.1)).length by rw [List.length_map]; omega)
   omega
  ·intro x hm
   obtain ⟨i, hi⟩ := List.getElem?_of_mem hm
   obtain ⟨cs, _, _, hO, _⟩ := hxs i x hi
   exact hO
  ·simp only [Rows.uptoBulk]
   omega
def OpensBL {α : Type} (P : Program) (ts : List TypeId) (d : Kd α) (Ok : α → Prop) (m : α → Nat) : Prop :=
 ∀ (H : Type) (enc : TypeId × Value → H) (W : World) (base : Nat) (sp : Nat → Bool) (held : Bool) (n : Nat) (cs : List Value) (xs : List (DataW H × List MemPlace)), cs.length = d.sz →
  Walks enc P W base sp held n ts cs xs → (∀ k ∈ DataW.weightsEach P ts (xs.map (·.1)), k ≤ 140737488351232) → ∃ x, d.K W x cs ∧ Ok x ∧ m x ≤ Rows.uptoBulkAll (xs.map (·.1))
theorem OpensBL.one (h : OpensB P t d Ok m) : OpensBL P [t] d Ok m := by
 obtain ⟨hsz, hop⟩ := h
 rintro H enc W base sp held n cs xs hl ⟨x, r, rfl, hx, hr⟩ hw
 rw [List.take_of_length_le Zj] at hx
 obtain ⟨y, h1, h2, h3⟩ := hop H enc W base sp held n cs x.1 x.2 hx (fun k hk => hw k (by simp [DataW.weightsEach, hk]))
 exact ⟨y, h1, h2, by simp only [List.map_cons, Rows.uptoBulkAll]; omega⟩
theorem OpensBL.cons {b : Kd β} {OkB : β → Prop} {mB : β → Nat} {ts : List TypeId} (h : OpensB P t d Ok m) (hr : OpensBL P ts b OkB mB) : OpensBL P (t :: ts) (Kd.pair d b) (fun x => Ok x.1 ∧ OkB x.2) (fun x => m x.1 + mB x.2) := by
 obtain ⟨hsz, hop⟩ := h
 rintro H enc W base sp held n cs xs hl ⟨x, r, rfl, hx, hrr⟩ hw
 have hl2 : cs.length = d.sz + b.sz := hl
 obtain ⟨y, hK, hO, hM⟩ := hop H enc W base sp held n _ x.1 x.2 hx (fun k hk => hw k (by simp [DataW.weightsEach, hk]))
 obtain ⟨z, hKz, hOz, hMz⟩ := hr H enc W base sp held n _ r (by rw [List.length_drop]; omega) hrr (fun k hk => hw k (by rw [List.map_cons, DataW.weightsEach]; exact List.mem_append_right _ hk))
 exact ⟨(y, z), ⟨_, _, (List.take_append_drop _ _).symm, hK, hKz⟩, ⟨hO, hOz⟩, by simp only [List.map_cons, Rows.uptoBulkAll]; omega⟩
theorem OpensB.struct {fs : Array Go.Field} (ht : P.underlying t = some (.struct fs)) (hoff : offs P 0 fs.toList = true) (hc : P.cellsOf t = d.sz) (h : OpensBL P (fs.toList.map (·.type)) d Ok m) : OpensB P t d Ok m := by
 refine ⟨hc, fun H enc W base sp held n cs D ps h2 hw => ?_⟩
 obtain ⟨xs, n', rfl, hx, hl, hxl, hg⟩ := DataW.trod_struct ht h2
 simp only [Kaa] at hx
 obtain ⟨rfl, rfl⟩ := hx
 have hwk := Yfr (P := P) fs.toList 0 xs hoff (by simpa using hxl) (fun i f hf => hg i f (by simpa using hf))
 rw [List.drop_zero] at hwk
 obtain ⟨x, h1, h3, h4⟩ := h H enc W base sp held n' cs xs Zj hwk (fun k hk => hw k (by rw [DataW.weights, ht]; exact hk))
 exact ⟨x, h1, h3, by simp only [Rows.uptoBulk]; omega⟩
theorem OpensB.iso {γ : Type} (f : γ → α) (g : α → γ) (hg : ∀ a, f (g a) = a) (h : OpensB P t d Ok m) : OpensB P t (Kd.iso d f) (fun y => Ok (f y)) (fun y => m (f y)) := by
 obtain ⟨hsz, hop⟩ := h
 refine ⟨hsz, fun H enc W base sp held n cs D ps h2 hw => ?_⟩
 obtain ⟨x, hK, hO, hM⟩ := hop H enc W base sp held n cs D ps h2 hw
 exact ⟨g x, by show d.K W (f (g x)) cs; rw [hg]; exact hK, by show Ok (f (g x)); rw [hg]; exact hO, by show m (f (g x)) ≤ _; rw [hg]; exact hM⟩
theorem OpensB.imp {Ok' : α → Prop} {m' : α → Nat} (h : OpensB P t d Ok m) (hi : ∀ x, Ok x → Ok' x) (hm : ∀ x, m' x ≤ m x) : OpensB P t d Ok' m' := by
 obtain ⟨hsz, hop⟩ := h
 refine ⟨hsz, fun H enc W base sp held n cs D ps h2 hw => ?_⟩
 obtain ⟨x, hK, hO, hM⟩ := hop H enc W base sp held n cs D ps h2 hw
 exact ⟨x, hK, hi x hO, Nat.le_trans (hm x) hM⟩
theorem OpensB.arg {H : Type} {enc : TypeId × Value → H} {W : World} {base : Nat} {sp : Nat → Bool} {held : Bool} {v : Value} {D : DataW H} {p : List MemPlace} {ts : List TypeId} {ds : List (DataW H)} {j : Nat}
  (h : OpensB P t d Ok m) (hv : DataW.Trod enc P W base sp held t v D p) (hsz : (DataW.weightsEach P ts ds).all (· ≤ reachBytes) = true) (ht : ts[j]? = some t) (hd : ds[j]? = some D) : ∃ x, d.K W x v.cells.toList ∧ Ok x ∧ m x ≤ Rows.uptoBulkAll ds := by
 obtain ⟨n, hn⟩ := hv
 obtain ⟨x, h1, h2, h3⟩ := h.2 H enc W base sp held n _ D p hn (fun k hk => by
  have := Km (List.all_eq_true.1 hsz k (DataW.weights_mem_each ht hd k hk))
  have e : reachBytes = 140737488351232 := by decide
  omega)
 exact ⟨x, h1, h2, Nat.le_trans h3 (Ycs ds D (List.mem_of_getElem? hd))⟩
end
end Go.Proofs.YtihaeeldgimdiaaGreatDoor.X
end
