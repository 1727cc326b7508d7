/- ident.Unique, and alive: what a call of each gives. -/
import Derived.Test.YtihaeeldgimdiaaDoorUiIz
import Derived.KernelRfl
namespace Go.Proofs.YtihaeeldgimdiaaDoor.X
open Go.RowKit Go.Lib Go.Shelf Go.Proofs.YtihaeeldgimdiaaDoorW.PrintWords Go.Proofs.YtihaeeldgimdiaaDoorW.PrintLast Go.Proofs.YtihaeeldgimdiaaDoorW.PrintMore
set_option linter.unusedVariables false
set_option linter.unusedSimpArgs false
set_option maxHeartbeats 4000000 in
set_option maxRecDepth 100000 in
theorem unique_calls (A1 : Option Addr) (c1 : Nat) (l : List S30) (w0 w : World) (hb0 : Below w0.heap.size w0 w) (hE : EnvOk w) (r1 : Kd.C (Kd.fixed k30 w0) w A1 l.length l)
  (hx : ∀ x ∈ l, OfOk x) (hn : l.length ≤ 100000000) :
  Calls Tryd.prog 10 #[.slice A1 l.length c1] w fun e w' => ∃ v, e = .returned v ∧ Kd.R (Kd.fixed k30 w0) 30 w' w.heap.size (fun _ => True) v (youngR [] l) ∧ Below w.heap.size w w' := by
 have HE := Aside0.mk hE
 have HB0 := Aside0.mk hb0
 clear hb0
 have R1 := Aside0.mk r1
 have HX := Aside0.mk hx
 clear hE r1 hx
 go_enter Tryd.func10, Tryd.ntmps10
 go_wp2_with fail
 refine (young_calls none A1 0 c1 [] l w0 w HB0.out HE.out (Kd.C_nil _ _) R1.out (by simp) HX.out hn (by simp)).mono ?_
 rintro e w1 ⟨v, rfl, hr, hb⟩
 have HR := Aside0.mk hr
 have HB := Aside0.mk hb
 clear hr hb
 go_wp2_with fail
 go_ret
 exact ⟨_, rfl, HR.out, HB.out⟩
theorem fixed_C {α : Type} {d : Kd α} {w0 w : World} {A : Option Addr} {n : Nat} {xs : List α} (h : Kd.C (Kd.fixed d w0) w A n xs) (hb : Below w0.heap.size w0 w) : Kd.C d w A n xs := ReadsRow.imp_ h (Below.refl _ _) (fun _ _ hp => d.K_below hb hp)
abbrev en (uid url text : ByteArray) : S30 := ⟨⟨#[]⟩, uid, url, ⟨#[]⟩, text, ⟨#[]⟩, 0, false, ⟨⟨#[]⟩, ⟨#[]⟩, ⟨#[]⟩⟩, [], [], [], [], []⟩
abbrev enC (uid url text : ByteArray) : List Value := [.string ⟨#[]⟩, .string uid, .string url, .string ⟨#[]⟩, .string text, .string ⟨#[]⟩, .int .i64 0, .bool false, .string ⟨#[]⟩, .string ⟨#[]⟩, .string ⟨#[]⟩, .slice none 0 0, .slice none 0 0, .slice none 0 0, .slice none 0 0, .slice none 0 0]
theorem en_K (w : World) (uid url text : ByteArray) : k30.K w (en uid url text) (enC uid url text) :=
 k30_mk w (en uid url text) (Nat.le_refl _) (Kd.C_nil _ _) (Nat.le_refl _) (Kd.C_nil _ _) (Nat.le_refl _) (Kd.C_nil _ _) (Nat.le_refl _) (Kd.C_nil _ _) (Nat.le_refl _) (Kd.C_nil _ _)
theorem en_ok {uid url text : ByteArray} (h1 : uid.size ≤ 1000) (h2 : url.size ≤ 1000) (h3 : text.size ≤ 1000) : OfOk (en uid url text) := by
 have hz : (⟨#[]⟩ : ByteArray).size = 0 := rfl
 exact ⟨by show uid.size ≤ _; omega, by show url.size ≤ _; omega, by show (⟨#[]⟩ : ByteArray).size ≤ _; omega, by show text.size ≤ _; omega, by show (⟨#[]⟩ : ByteArray).size ≤ _; omega, by simp, by simp⟩
theorem alive_of1 : ofR (en ⟨#[]⟩ ⟨#[72, 84, 84, 80, 58, 47, 47, 97, 46, 98, 35, 120]⟩ ⟨#[]⟩) = ⟨#[108, 58, 104, 116, 116, 112, 58, 47, 47, 97, 46, 98, 47]⟩ := by kernel_rfl
theorem alive_of2 : ofR (en ⟨#[107]⟩ ⟨#[]⟩ ⟨#[]⟩) = ⟨#[117, 58, 107]⟩ := by kernel_rfl
theorem alive_un : (youngR [] [en ⟨#[107]⟩ ⟨#[]⟩ ⟨#[]⟩, en ⟨#[107]⟩ ⟨#[]⟩ ⟨#[120]⟩]).length = 1 := by kernel_rfl
theorem alive_reps (w : World) (base : Nat) (ok : Nat → Prop) : Reps ((Kd.fixed k30 w).M w base ok) 16 [en ⟨#[107]⟩ ⟨#[]⟩ ⟨#[]⟩, en ⟨#[107]⟩ ⟨#[]⟩ ⟨#[120]⟩] (enC ⟨#[107]⟩ ⟨#[]⟩ ⟨#[]⟩ ++ enC ⟨#[107]⟩ ⟨#[]⟩ ⟨#[120]⟩) := by
 refine ⟨rfl, fun j p hj => ?_⟩
 rcases j with _ | _ | j
 ·obtain rfl : en ⟨#[107]⟩ ⟨#[]⟩ ⟨#[]⟩ = p := by simpa using hj
  exact en_K w _ _ _
 ·obtain rfl : en ⟨#[107]⟩ ⟨#[]⟩ ⟨#[120]⟩ = p := by simpa using hj
  exact en_K w _ _ _
 ·simp at hj
set_option maxHeartbeats 4000000 in
set_option maxRecDepth 100000 in
theorem alive21 (w : World) (hE : EnvOk w) : Calls Tryd.prog 7 #[] w fun e w' => e = .returned (.bool true) ∧ Below w.heap.size w w' := by
 have HE := Aside0.mk hE
 clear hE
 have hu30 := Tryd.underlying30
 go_enter Tryd.func7, Tryd.ntmps7
 go_wp2_with fail
 refine (of_calls (en ⟨#[]⟩ ⟨#[72, 84, 84, 80, 58, 47, 47, 97, 46, 98, 35, 120]⟩ ⟨#[]⟩) _ _ HE.out (en_K _ _ _ _) (en_ok (by decide) (by decide) (by decide))).mono ?_
 rintro e w1 ⟨rfl, hb⟩
 have HB := Aside0.mk hb
 clear hb
 rw [alive_of1]
 go_wp2_with fail
 refine (of_calls (en ⟨#[107]⟩ ⟨#[]⟩ ⟨#[]⟩) _ _ (HE.out.below HB.out) (en_K _ _ _ _) (en_ok (by decide) (by decide) (by decide))).mono ?_
 rintro e w2 ⟨rfl, hb⟩
 replace HB := Aside0.mk (HB.out.trans (hb.mono HB.out.size))
 clear hb
 rw [alive_of2]
 have HL := Aside0.mk (OwnRow.lit (e := 30) w2 w2.heap.size (alive_reps w2 w2.heap.size (fun _ => True)) (Nat.le_refl _) (by decide))
 have HB3 := Aside0.mk (HB.out.alloc HB.out.size (.cells (enC ⟨#[107]⟩ ⟨#[]⟩ ⟨#[]⟩ ++ enC ⟨#[107]⟩ ⟨#[]⟩ ⟨#[120]⟩).toArray 30))
 have HC := Aside0.mk (fixed_C (Kd.R_reads' (show Kd.R (Kd.fixed k30 w2) 30 _ w2.heap.size (fun _ => True) (.slice (some ⟨w2.heap.size, 0, none⟩) 2 2) [en ⟨#[107]⟩ ⟨#[]⟩ ⟨#[]⟩, en ⟨#[107]⟩ ⟨#[]⟩ ⟨#[120]⟩] from ⟨fun _ _ => trivial, HL.out⟩)).2.2 ((Below.refl w2.heap.size w2).alloc (Nat.le_refl _) _))
 go_wp2_with fail
 refine (unique_calls _ 2 _ _ _ (Below.refl _ _) (HE.out.below HB3.out) HC.out (by
  intro x hm
  simp only [List.mem_cons, List.not_mem_nil, or_false] at hm
  rcases hm with rfl | rfl
  ·exact en_ok (by decide) (by decide) (by decide)
  ·exact en_ok (by decide) (by decide) (by decide)) (by decide)).mono ?_
 rintro e w3 ⟨v, rfl, hr, hb⟩
 replace HB := Aside0.mk (HB3.out.trans (hb.mono HB3.out.size))
 obtain ⟨A, c, rfl⟩ := Kd.R_slice hr
 clear hb hr
 rw [alive_un]
 go_wp2_with fail
 go_ret
 exact ⟨rfl, HB.out⟩
end Go.Proofs.YtihaeeldgimdiaaDoor.X
