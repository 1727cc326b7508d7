/- Arguments opened: what a value that is read is, kind by kind. -/
import Derived.Test.YtihaeeldgimdiaaDoorUiX0
import Derived.ChangeArms
import Derived.SizedLaws
import Derived.OpenShut
import Derived.WideShapes
namespace Go.Proofs.YtihaeeldgimdiaaDoor.X
open Go Go.RowKit Go.ChangeShapes Go.Proofs.YtihaeeldgimdiaaDoorW.PrintWords Go.Proofs.YtihaeeldgimdiaaDoorW.PrintLast Go.Proofs.YtihaeeldgimdiaaDoorW.PrintMore
set_option linter.unusedVariables false
set_option linter.unusedSimpArgs false
def Opens {α : Type} (P : Program) (t : TypeId) (d : Kd α) (Ok : α → Prop) : Prop :=
 P.cellsOf t = d.sz ∧ ∀ (H : Type) (enc : TypeId × Value → H) (W : World) (base : Nat) (sp : Nat → Bool) (held : Bool) (n : Nat) (cs : List Value) (D : DataW H) (ps : List MemPlace),
  DataW.trod enc P W base sp held n t cs = some (D, ps) → (∀ m ∈ D.weights P t, m ≤ 140737488351232) → ∃ x, d.K W x cs ∧ Ok x
section
variable {P : Program} {t e : TypeId} {α β : Type} {d : Kd α} {Ok : α → Prop}
theorem Opens.string (ht : P.underlying t = some .string) (hc : P.cellsOf t = 1) : Opens P t Kd.string (fun s => s.size ≤ 140737488351232) := by
 refine ⟨hc, fun H enc W base sp held n cs D ps h hw => ?_⟩
 obtain ⟨s, rfl, hx, _⟩ := DataW.trod_string ht h
 simp only [Prod.mk.injEq] at hx
 obtain ⟨rfl, rfl⟩ := hx
 exact ⟨s, rfl, by have := hw s.data.toList.length (by simp [DataW.weights]); show s.size ≤ _; rw [Lib.size_eq]; exact this⟩
theorem Opens.int {k : IntKind} (ht : P.underlying t = some (.int k)) (hc : P.cellsOf t = 1) : Opens P t (Kd.int k) (fun n => (Lit.int k n).wf = true) := by
 refine ⟨hc, fun H enc W base sp held n cs D ps h hw => ?_⟩
 obtain ⟨s, rfl, hx, hwf⟩ := DataW.trod_int ht h
 exact ⟨s, rfl, hwf⟩
theorem Opens.bool (ht : P.underlying t = some .bool) (hc : P.cellsOf t = 1) : Opens P t Kd.bool (fun _ => True) := by
 refine ⟨hc, fun H enc W base sp held n cs D ps h hw => ?_⟩
 obtain ⟨s, rfl, hx⟩ := DataW.trod_bool ht h
 exact ⟨s, rfl, trivial⟩
theorem weightsAll_mem {H : Type} {P : Program} {e : TypeId} : ∀ {l : List (DataW H)} {d : DataW H} {m : Nat}, d ∈ l → m ∈ d.weights P e → m ∈ DataW.weightsAll P e l
 | x :: r, d, m, hd, hm => by
  unfold DataW.weightsAll
  rcases List.mem_cons.1 hd with rfl | hd
  ·exact List.mem_append_left _ hm
  ·exact List.mem_append_right _ (weightsAll_mem hd hm)
theorem cells?_get {w : World} {base : Nat} {a : Addr} {n : Nat} {cs : List Value} (h : w.cells? base a n = some cs) : cs.length = n ∧ ∀ i u, cs[i]? = some u → w.cell? (a.add i) = some u := by
 unfold World.cells? at h
 split at h
 ·have hl := mapM_some_length h
  rw [List.length_range] at hl
  refine ⟨hl, fun i u hu => ?_⟩
  have hi : i < n := by have := (List.getElem?_eq_some_iff.1 hu).1; omega
  have := mapM_some_get h i i (by simp [hi])
  rw [this, hu]
 ·cases h
theorem Opens.slice {q : Nat} (ht : P.underlying t = some (.slice e)) (hc : P.cellsOf t = 1) (he : Opens P e d Ok) : Opens P t (Kd.slice q d) (fun xs => xs.length * P.bytesOf e ≤ 140737488351232 ∧ ∀ x ∈ xs, Ok x) := by
 obtain ⟨hsz, hop⟩ := he
 refine ⟨hc, fun H enc W base sp held n cs D ps h hw => ?_⟩
 rcases DataW.trod_slice ht h with ⟨rfl, hx⟩ | ⟨a, len, cap, elems, rest, n', rfl, rfl, hx, hb, hl, hcm, hel, hget, _, _⟩
 ·exact ⟨[], ⟨none, 0, rfl, Nat.le_refl _, Kd.C_nil _ _⟩, by simp, by simp⟩
 ·simp only [Prod.mk.injEq] at hx
  obtain ⟨rfl, rfl⟩ := hx
  have hwt : ∀ m ∈ ((elems.map (·.1)).length + (rest.map (·.1)).length) * P.bytesOf e :: (DataW.weightsAll P e (elems.map (·.1)) ++ DataW.weightsAll P e (rest.map (·.1))), m ≤ 140737488351232 := by
   intro m hm
   refine hw m ?_
   rw [DataW.weights, ht]
   exact hm
  have hx : ∀ i, i < len → ∃ x cs, cs.length = d.sz ∧ d.K W x cs ∧ Ok x ∧ ∀ j u, cs[j]? = some u → W.cell? (a.add (i * d.sz + j)) = some u := by
   intro i hi
   have hg := hget i hi
   have hie : i < elems.length := by omega
   rw [List.getElem?_eq_getElem hie] at hg
   obtain ⟨ci, hci, htr⟩ := Option.bind_eq_some_iff.1 hg
   obtain ⟨hcl, hcc⟩ := cells?_get hci
   rw [hsz] at hcl hcc
   obtain ⟨x, hK, hO⟩ := hop H enc W base sp held n' ci elems[i].1 elems[i].2 htr (fun m hm => hwt m (List.mem_cons_of_mem _ (List.mem_append_left _ (weightsAll_mem (List.mem_map.2 ⟨elems[i], List.getElem_mem hie, rfl⟩) hm))))
   exact ⟨x, ci, hcl, hK, hO, fun j u hu => by rw [← add_add]; exact hcc j u hu⟩
  obtain ⟨xs, hxl, hxs⟩ : ∃ xs : List α, xs.length = len ∧ ∀ i x, xs[i]? = some x → ∃ cs, cs.length = d.sz ∧ d.K W x cs ∧ Ok x ∧ ∀ j u, cs[j]? = some u → W.cell? (a.add (i * d.sz + j)) = some u := by
   have : ∀ m, m ≤ len → ∃ xs : List α, xs.length = m ∧ ∀ i x, xs[i]? = some x → ∃ cs, cs.length = d.sz ∧ d.K W x cs ∧ Ok x ∧ ∀ j u, cs[j]? = some u → W.cell? (a.add (i * d.sz + j)) = some u := by
    intro m
    induction m with
    | zero => intro _; exact ⟨[], rfl, fun i x h => by simp at h⟩
    | succ m ih =>
     intro hm
     obtain ⟨xs, h1, h2⟩ := ih (by omega)
     obtain ⟨x, hx⟩ := hx m (by omega)
     refine ⟨xs ++ [x], by simp [h1], fun i y hy => ?_⟩
     rcases Nat.lt_or_ge i xs.length with hi | hi
     ·rw [List.getElem?_append_left hi] at hy
      exact h2 i y hy
     ·have hie : i = m := by
       have := (List.getElem?_eq_some_iff.1 hy).1
       rw [List.length_append, List.length_singleton] at this
       omega
      subst hie
      have : x = y := by
       rw [← h1] at hy
       simpa using hy
      subst this
      exact hx
   exact this len (Nat.le_refl _)
  have hmax : cap ≤ 9223372036854775807 := hcm
  refine ⟨xs, ⟨some a, cap, by rw [hxl], by omega, rfl, by omega, fun _ => ⟨a, rfl, fun j p hj => ?_⟩⟩, ?_, ?_⟩
  ·obtain ⟨cs, c1, c2, _, c3⟩ := hxs j p hj
   exact ⟨cs, c1, c2, c3⟩
  ·have := hwt _ List.mem_cons_self
   have h3 := Nat.mul_le_mul_right (P.bytesOf e) (show xs.length ≤ (elems.map (·.1)).length + (rest.map (·.1)).length by rw [List.length_map]; omega)
   omega
  ·intro x hm
   obtain ⟨i, hi⟩ := List.getElem?_of_mem hm
   obtain ⟨cs, _, _, hO, _⟩ := hxs i x hi
   exact hO
def Walks {H : Type} (enc : TypeId × Value → H) (P : Program) (W : World) (base : Nat) (sp : Nat → Bool) (held : Bool) (n : Nat) : List TypeId → List Value → List (DataW H × List MemPlace) → Prop
 | [], _, xs => xs = []
 | t :: ts, cs, xs => ∃ x r, xs = x :: r ∧ DataW.trod enc P W base sp held n t (cs.take (P.cellsOf t)) = some x ∧ Walks enc P W base sp held n ts (cs.drop (P.cellsOf t)) r
def offs (P : Program) : Nat → List Go.Field → Bool
 | _, [] => true
 | o, f :: fs => f.offset == o && offs P (o + P.cellsOf f.type) fs
theorem walks_of {H : Type} {enc : TypeId × Value → H} {W : World} {base : Nat} {sp : Nat → Bool} {held : Bool} {n : Nat} {cs : List Value} : ∀ (fs : List Go.Field) (o : Nat) (xs : List (DataW H × List MemPlace)), offs P o fs = true → xs.length = fs.length →
  (∀ (i : Nat) (f : Go.Field), fs[i]? = some f → DataW.trod enc P W base sp held n f.type ((cs.drop f.offset).take (P.cellsOf f.type)) = xs[i]?) → Walks enc P W base sp held n (fs.map (·.type)) (cs.drop o) xs
 | [], o, xs, _, hl, _ => List.length_eq_zero_iff.1 hl
 | f :: fs, o, xs, ho, hl, h => by
  unfold offs at ho
  rw [Bool.and_eq_true, beq_iff_eq] at ho
  match xs, hl with
  | x :: r, hl =>
   have h0 := h 0 f rfl
   rw [ho.1] at h0
   refine ⟨x, r, rfl, h0, ?_⟩
   rw [List.drop_drop]
   exact walks_of fs _ r ho.2 (by simpa using hl) (fun i g hg => h (i + 1) g hg)
def OpensL {α : Type} (P : Program) (ts : List TypeId) (d : Kd α) (Ok : α → Prop) : Prop :=
 ∀ (H : Type) (enc : TypeId × Value → H) (W : World) (base : Nat) (sp : Nat → Bool) (held : Bool) (n : Nat) (cs : List Value) (xs : List (DataW H × List MemPlace)), cs.length = d.sz →
  Walks enc P W base sp held n ts cs xs → (∀ m ∈ DataW.weightsEach P ts (xs.map (·.1)), m ≤ 140737488351232) → ∃ x, d.K W x cs ∧ Ok x
theorem OpensL.one (h : Opens P t d Ok) : OpensL P [t] d Ok := by
 obtain ⟨hsz, hop⟩ := h
 rintro H enc W base sp held n cs xs hl ⟨x, r, rfl, hx, hr⟩ hw
 rw [List.take_of_length_le (by omega)] at hx
 exact hop H enc W base sp held n cs x.1 x.2 hx (fun m hm => hw m (by simp [DataW.weightsEach, hm]))
theorem OpensL.cons {b : Kd β} {OkB : β → Prop} {ts : List TypeId} (h : Opens P t d Ok) (hr : OpensL P ts b OkB) : OpensL P (t :: ts) (Kd.pair d b) (fun x => Ok x.1 ∧ OkB x.2) := by
 obtain ⟨hsz, hop⟩ := h
 rintro H enc W base sp held n cs xs hl ⟨x, r, rfl, hx, hrr⟩ hw
 have hl2 : cs.length = d.sz + b.sz := hl
 obtain ⟨y, hK, hO⟩ := hop H enc W base sp held n _ x.1 x.2 hx (fun m hm => hw m (by simp [DataW.weightsEach, hm]))
 obtain ⟨z, hKz, hOz⟩ := hr H enc W base sp held n _ r (by rw [List.length_drop]; omega) hrr (fun m hm => hw m (by rw [List.map_cons, DataW.weightsEach]; exact List.mem_append_right _ hm))
 exact ⟨(y, z), ⟨_, _, (List.take_append_drop _ _).symm, hK, hKz⟩, hO, hOz⟩
theorem Opens.struct {fs : Array Go.Field} (ht : P.underlying t = some (.struct fs)) (hoff : offs P 0 fs.toList = true) (hc : P.cellsOf t = d.sz) (h : OpensL P (fs.toList.map (·.type)) d Ok) : Opens P t d Ok := by
 refine ⟨hc, fun H enc W base sp held n cs D ps h2 hw => ?_⟩
 obtain ⟨xs, n', rfl, hx, hl, hxl, hg⟩ := DataW.trod_struct ht h2
 simp only [Prod.mk.injEq] at hx
 obtain ⟨rfl, rfl⟩ := hx
 have hwk := walks_of (P := P) fs.toList 0 xs hoff (by simpa using hxl) (fun i f hf => hg i f (by simpa using hf))
 rw [List.drop_zero] at hwk
 refine h H enc W base sp held n' cs xs (by omega) hwk (fun m hm => hw m ?_)
 rw [DataW.weights, ht]
 exact hm
theorem Opens.iso {γ : Type} (f : γ → α) (g : α → γ) (hg : ∀ a, f (g a) = a) (h : Opens P t d Ok) : Opens P t (Kd.iso d f) (fun y => Ok (f y)) := by
 obtain ⟨hsz, hop⟩ := h
 refine ⟨hsz, fun H enc W base sp held n cs D ps h2 hw => ?_⟩
 obtain ⟨x, hK, hO⟩ := hop H enc W base sp held n cs D ps h2 hw
 exact ⟨g x, by show d.K W (f (g x)) cs; rw [hg]; exact hK, by show Ok (f (g x)); rw [hg]; exact hO⟩
theorem Opens.imp {Ok' : α → Prop} (h : Opens P t d Ok) (hi : ∀ x, Ok x → Ok' x) : Opens P t d Ok' := by
 obtain ⟨hsz, hop⟩ := h
 refine ⟨hsz, fun H enc W base sp held n cs D ps h2 hw => ?_⟩
 obtain ⟨x, hK, hO⟩ := hop H enc W base sp held n cs D ps h2 hw
 exact ⟨x, hK, hi x hO⟩
theorem Opens.arg {H : Type} {enc : TypeId × Value → H} {W : World} {base : Nat} {sp : Nat → Bool} {held : Bool} {v : Value} {D : DataW H} {p : List MemPlace} {ts : List TypeId} {ds : List (DataW H)} {j : Nat}
  (h : Opens P t d Ok) (hv : DataW.Trod enc P W base sp held t v D p) (hsz : (DataW.weightsEach P ts ds).all (· ≤ reachBytes) = true) (ht : ts[j]? = some t) (hd : ds[j]? = some D) : ∃ x, d.K W x v.cells.toList ∧ Ok x := by
 obtain ⟨n, hn⟩ := hv
 refine h.2 H enc W base sp held n _ D p hn (fun m hm => ?_)
 have := of_decide_eq_true (List.all_eq_true.1 hsz m (DataW.weights_mem_each ht hd m hm))
 have e : reachBytes = 140737488351232 := by decide
 omega
end
end Go.Proofs.YtihaeeldgimdiaaDoor.X
