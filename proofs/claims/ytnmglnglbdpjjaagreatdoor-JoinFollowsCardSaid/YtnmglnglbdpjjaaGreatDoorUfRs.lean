import Derived.Test.YtnmglnglbdpjjaaGreatDoorUfRow
import Derived.Test.YtnmglnglbdpjjaaGreatDoorUfH5
import Derived.Lib.SmallJoins
set_option linter.all false
namespace Go.Proofs.YtnmglnglbdpjjaaGreatDoor.X
open Go Go.Joins Go.ChangeShapes Go.WideShapes Go.RowKit Go.Deep
def urlD {H : Type} (u1 u2 : Y) (u3 : Int) (u4 u5 u6 : Y) (u7 u8 : Bool) : DataW H :=
 .agg [.lit (.string u1.data.toList), .lit (.string u2.data.toList), .lit (.int .i64 u3), .lit (.string u4.data.toList), .lit (.string u5.data.toList), .lit (.string u6.data.toList), .lit (.bool u7), .lit (.bool u8)]
theorem sizes_url {H : Type} {ts : List TypeId} {ds : List (DataW H)} (h : (DataW.weightsEach Tryz.prog ts ds).all (· ≤ reachBytes) = true) {j : Nat} {u1 u2 : Y} {u3 : Int} {u4 u5 u6 : Y} {u7 u8 : Bool} (ht : ts[j]? = some 25) (hd : ds[j]? = some (urlD u1 u2 u3 u4 u5 u6 u7 u8)) :
  u1.size ≤ 140737488351232 ∧ u2.size ≤ 140737488351232 ∧ u4.size ≤ 140737488351232 ∧ u5.size ≤ 140737488351232 ∧ u6.size ≤ 140737488351232 := by
 have hw : DataW.weights Tryz.prog 25 (urlD (H := H) u1 u2 u3 u4 u5 u6 u7 u8) = [u1.data.toList.length, u2.data.toList.length, u4.data.toList.length, u5.data.toList.length, u6.data.toList.length] := by
  unfold urlD
  rw [DataW.weights, Tryz.underlying25]
  simp [DataW.weightsEach, DataW.weights]
 have hm := fun n hn => Kq (List.all_eq_true.1 h n (DataW.weights_mem_each ht hd n hn))
 rw [hw] at hm
 have e : reachBytes = 140737488351232 := by decide
 rw [e] at hm
 refine ⟨?_, ?_, ?_, ?_, ?_⟩ <;> rw [Lib.size_eq] <;> exact hm _ Zv
theorem Yuq : Tryz.prog.cellsOf 25 = 8 := by kernel_rfl
set_option maxRecDepth 100000 in
set_option maxHeartbeats 2000000 in
theorem open_url {H : Type} {enc : TypeId × Value → H} {W : World} {base : Nat} {spare : Nat → Bool} {held : Bool} {r : Reach} {b0 : Nat} {v : Value} {d : DataW H} {p : List MemPlace}
  (hv : Value.okWide Tryz.prog W r b0 25 v) (h : DataW.Trod enc Tryz.prog W base spare held 25 v d p) :
  ∃ (u1 u2 : Y) (u3 : Int) (u4 u5 u6 : Y) (u7 u8 : Bool), v = .agg (uc u1 u2 u3 u4 u5 u6 u7 u8) ∧ p = [] ∧ (Lit.int .i64 u3).wf = true ∧ (∀ (W' : World) (spare' : Nat → Bool), DataW.Trod enc Tryz.prog W' base spare' held 25 v d []) ∧ d = urlD u1 u2 u3 u4 u5 u6 u7 u8 := by
 obtain ⟨cs, rfl, hsz⟩ := okWide_struct Tryz.underlying25 hv
 rw [Yuq] at hsz
 obtain ⟨l⟩ := cs
 match l, hsz with
 | [c0, c1, c2, c3, c4, c5, c6, c7], _ =>
  obtain ⟨fuel, hf⟩ := h
  have hf0 := hf
  obtain ⟨xs, n, _, hx, _, hlen, hg⟩ := DataW.trod_struct Tryz.underlying25 hf
  have jG : Tryz.prog.cellsOf 9 = 1 := by kernel_rfl
  have rH : Tryz.prog.cellsOf 3 = 1 := by kernel_rfl
  have hs3 : Tryz.prog.cellsOf 4 = 1 := by kernel_rfl
  match xs, hlen with
  | [y0, y1, y2, y3, y4, y5, y6, y7], _ =>
   have g0 : DataW.trod enc Tryz.prog W base spare held n 9 [c0] = some y0 := by simpa [Value.cells, jG] using hg 0 _ rfl
   have g1 : DataW.trod enc Tryz.prog W base spare held n 9 [c1] = some y1 := by simpa [Value.cells, jG] using hg 1 _ rfl
   have g2 : DataW.trod enc Tryz.prog W base spare held n 3 [c2] = some y2 := by simpa [Value.cells, rH] using hg 2 _ rfl
   have g3 : DataW.trod enc Tryz.prog W base spare held n 9 [c3] = some y3 := by simpa [Value.cells, jG] using hg 3 _ rfl
   have g4 : DataW.trod enc Tryz.prog W base spare held n 9 [c4] = some y4 := by simpa [Value.cells, jG] using hg 4 _ rfl
   have g5 : DataW.trod enc Tryz.prog W base spare held n 9 [c5] = some y5 := by simpa [Value.cells, jG] using hg 5 _ rfl
   have g6 : DataW.trod enc Tryz.prog W base spare held n 4 [c6] = some y6 := by simpa [Value.cells, hs3] using hg 6 _ rfl
   have g7 : DataW.trod enc Tryz.prog W base spare held n 4 [c7] = some y7 := by simpa [Value.cells, hs3] using hg 7 _ rfl
   obtain ⟨s0, e0, rfl, z0⟩ := DataW.trod_string Tryz.underlying9 g0
   obtain ⟨s1, e1, rfl, z1⟩ := DataW.trod_string Tryz.underlying9 g1
   obtain ⟨i2, e2, rfl, z2⟩ := DataW.trod_int Tryz.underlying3 g2
   obtain ⟨s3, e3, rfl, z3⟩ := DataW.trod_string Tryz.underlying9 g3
   obtain ⟨s4, e4, rfl, z4⟩ := DataW.trod_string Tryz.underlying9 g4
   obtain ⟨s5, e5, rfl, z5⟩ := DataW.trod_string Tryz.underlying9 g5
   obtain ⟨b6, e6, rfl⟩ := DataW.trod_bool Tryz.underlying4 g6
   obtain ⟨b7, e7, rfl⟩ := DataW.trod_bool Tryz.underlying4 g7
   simp only [List.cons.injEq, and_true] at e0 e1 e2 e3 e4 e5 e6 e7
   subst e0 e1 e2 e3 e4 e5 e6 e7
   simp only [Kea] at hx
   have hp : p = [] := by rw [hx.2]; rfl
   subst hp
   refine ⟨s0, s1, i2, s3, s4, s5, b6, b7, rfl, rfl, z2, fun W' spare' => ?_, hx.1⟩
   have sh : ∀ s : Y, s.size ≤ maxLen → DataW.trod enc Tryz.prog W' base spare' held 1 9 [.string s] = some (.lit (.string s.data.toList), []) := fun s z => by simp [DataW.trod, Tryz.underlying9, z]
   have sb : ∀ b : Bool, DataW.trod enc Tryz.prog W' base spare' held 1 4 [.bool b] = some (.lit (.bool b), []) := fun b => by simp [DataW.trod, Tryz.underlying4]
   have si : DataW.trod enc Tryz.prog W' base spare' held 1 3 [.int .i64 i2] = some (.lit (.int .i64 i2), []) := by simp [DataW.trod, Tryz.underlying3, z2]
   have := trod_struct_mk (enc := enc) (w := W') (base := base) (spare := spare') (held := held) (n := 1) (cs := [.string s0, .string s1, .int .i64 i2, .string s3, .string s4, .string s5, .bool b6, .bool b7])
    (xs := [(.lit (.string s0.data.toList), []), (.lit (.string s1.data.toList), []), (.lit (.int .i64 i2), []), (.lit (.string s3.data.toList), []), (.lit (.string s4.data.toList), []), (.lit (.string s5.data.toList), []), (.lit (.bool b6), []), (.lit (.bool b7), [])])
    Tryz.underlying25 (by rw [Yuq]; rfl) (by simp [jG, rH, hs3, sh _ z0, sh _ z1, si, sh _ z3, sh _ z4, sh _ z5, sb])
   rw [hx.1]
   exact ⟨2, this⟩
end Go.Proofs.YtnmglnglbdpjjaaGreatDoor.X
