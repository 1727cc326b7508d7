/- Entries as arguments: opened. -/
import Derived.Test.YtihaeeldgimdiaaDoorUiOp
import Derived.Test.YtihaeeldgimdiaaDoorUiIf
namespace Go.Proofs.YtihaeeldgimdiaaDoor.X
open Go Go.RowKit Go.ChangeShapes Go.Proofs.YtihaeeldgimdiaaDoorW.PrintWords Go.Proofs.YtihaeeldgimdiaaDoorW.PrintLast Go.Proofs.YtihaeeldgimdiaaDoorW.PrintMore
set_option linter.unusedVariables false
set_option linter.unusedSimpArgs false
theorem opens_str : Opens Tryd.prog 9 Kd.string (fun s => s.size ≤ 140737488351232) := Opens.string Tryd.underlying9 (by kernel_rfl)
theorem opens_strs : Opens Tryd.prog 23 (Kd.slice 9 Kd.string) (fun xs => xs.length * Tryd.prog.bytesOf 9 ≤ 140737488351232 ∧ ∀ x ∈ xs, x.size ≤ 140737488351232) := Opens.slice Tryd.underlying23 (by kernel_rfl) opens_str
theorem opens_card : Opens Tryd.prog 28 k28 (fun _ => True) :=
 (Opens.iso (fun x : S28 => (x.f0, x.f1, x.f2)) (fun a => ⟨a.1, a.2.1, a.2.2⟩) (fun _ => rfl)
  (Opens.struct Tryd.underlying28 (by kernel_rfl) (by kernel_rfl) (OpensL.cons opens_str (OpensL.cons opens_str (OpensL.one opens_str))))).imp (fun _ _ => trivial)
theorem opens_int64 : Opens Tryd.prog 2 (Kd.int .i64) (fun n => (Lit.int .i64 n).wf = true) := Opens.int Tryd.underlying2 (by kernel_rfl)
theorem opens_bool : Opens Tryd.prog 4 Kd.bool (fun _ => True) := Opens.bool Tryd.underlying4 (by kernel_rfl)
theorem opens_entry : Opens Tryd.prog 30 k30 EntRead :=
 (Opens.iso (fun x : S30 => (x.f0, x.f1, x.f2, x.f3, x.f4, x.f5, x.f6, x.f7, x.f8, x.f9, x.f10, x.f11, x.f12, x.f13)) (fun a => ⟨a.1, a.2.1, a.2.2.1, a.2.2.2.1, a.2.2.2.2.1, a.2.2.2.2.2.1, a.2.2.2.2.2.2.1, a.2.2.2.2.2.2.2.1, a.2.2.2.2.2.2.2.2.1, a.2.2.2.2.2.2.2.2.2.1, a.2.2.2.2.2.2.2.2.2.2.1, a.2.2.2.2.2.2.2.2.2.2.2.1, a.2.2.2.2.2.2.2.2.2.2.2.2.1, a.2.2.2.2.2.2.2.2.2.2.2.2.2⟩) (fun _ => rfl)
  (Opens.struct Tryd.underlying30 (by kernel_rfl) (by kernel_rfl) (OpensL.cons opens_str (OpensL.cons opens_str (OpensL.cons opens_str (OpensL.cons opens_str (OpensL.cons opens_str (OpensL.cons opens_str (OpensL.cons opens_int64 (OpensL.cons opens_bool (OpensL.cons opens_card (OpensL.cons opens_strs (OpensL.cons opens_strs (OpensL.cons opens_strs (OpensL.cons opens_strs (OpensL.one opens_strs))))))))))))))))
  |>.imp (fun x h => by
   obtain ⟨h0, h1, h2, h3, h4, h5, h6, h7, h8, h9, h10, h11, h12, h13⟩ := h
   refine ⟨h1, h2, h3, h4, h5, fun l hm => ?_⟩
   simp only [List.mem_cons, List.not_mem_nil, or_false] at hm
   rcases hm with rfl | rfl | rfl | rfl | rfl
   ·exact h9.2
   ·exact h10.2
   ·exact h11.2
   ·exact h12.2
   ·exact h13.2)
theorem opens_entries : Opens Tryd.prog 22 (Kd.slice 30 k30) (fun xs => xs.length * Tryd.prog.bytesOf 30 ≤ 140737488351232 ∧ ∀ x ∈ xs, EntRead x) := Opens.slice Tryd.underlying22 (by kernel_rfl) opens_entry
end Go.Proofs.YtihaeeldgimdiaaDoor.X
