/- IdentAgain: the row, and its tied card. -/
import Derived.Test.YtihaeeldgimdiaaDoorUiRow
import Derived.Test.YtihaeeldgimdiaaDoorUiLIAgain
import Derived.Test.YtihaeeldgimdiaaDoorUiRo
import Derived.Test.YtihaeeldgimdiaaDoorTie
import Derived.Test.YtihaeeldgimdiaaDoorCards
import Derived.WalkKit
import Derived.ChangeOld
import Derived.Carry
import Derived.Below
import Derived.SizedLaws
import Derived.SevenTiedAt
namespace Go.Proofs.YtihaeeldgimdiaaDoor.identAgain
open Go Go.ChangeShapes Go.WideShapes Go.ChangeAt Go.RowKit
open Go.ChangeMaps (open_string shut_string)
set_option linter.unusedVariables false
theorem own : ownKnob Tryd.prog.godebug = none := by kernel_rfl
theorem laidOut : laidOutB Tryd.prog = true := by kernel_rfl
set_option maxRecDepth 100000 in
theorem lifted (os : Os) (started : os.Started) (H : Type) (enc : TypeId × Value → H) :
  ReturnsInHanded {} Tryd.checked os 3 .any (fun w args => (Rows.identAgainSpec.pre enc Tryd.prog Tryd.f3 Rows.identAgainRow.domain false w args ∧ laidMetH Tryd.prog X.laidU w) ∧ sizedMet enc Tryd.prog Tryd.f3 (OpenSpec.ofChange Rows.identAgainSpec) false w args)
   (Rows.identAgainSpec.post enc Tryd.prog Tryd.f3 false true false false) := by
 refine X.returns_laid (C := Tryd.checked) own started (by kernel_rfl) Tryd.func3
  (ChangeSpec.witness_shaped (enc := enc) (C := Tryd.checked) (os := os) (X := fun w _ => laidMetH Tryd.prog X.laidU w) false (World.laidAll Tryd.prog os X.laidU) #[.slice none 0 0, .slice none 0 0] 8 (World.laidAll_os _ _ _)
   (World.shaped_of_ZipB (by kernel_rfl) (by kernel_rfl)) (by kernel_rfl) (by kernel_rfl) (by kernel_rfl)
   (by rw [MakeChecks.laidMetH_plain _ _ _ (by kernel_rfl)]; exact laidMet_laidAll _ (by kernel_rfl) (by kernel_rfl))) ?_
 intro W base args ds gs before hval0 hW hsz0 hL hS
 have hE := X.env_of_row hL hS
 have hsz : (DataW.weightsEach Tryd.prog (Tryd.f3.params.toList ++ Rows.identAgainSpec.plain.varTypes Tryd.prog) (ds ++ gs)).all (· ≤ reachBytes) = true := hsz0
 have hval : ∀ (j : Nat) t v, Tryd.f3.params[j]? = some t → args[j]? = some v → Value.okWide Tryd.prog W .any base t v := hval0
 have hW' := hW
 obtain ⟨p, q, hA0, hV, rfl, hfz, hnd⟩ := hW
 have hA : DataW.TrodAll enc Tryd.prog W 0 (fun _ => true) true Tryd.f3.params.toList args.toList ds p := hA0
 rw [Tryd.params3] at hA hval hsz
 obtain ⟨v0, vs0, d0, ds0, p0, q0, hargs, rfl, rfl, h0, r0⟩ := trodAll_cons hA
 obtain ⟨v1, vs1, d1, ds1, p1, q1, rfl, rfl, rfl, h1, r1⟩ := trodAll_cons r0
 obtain ⟨rfl, rfl, rfl⟩ := trodAll_nil r1
 obtain rfl : args = #[v0, v1] := by cases args; simp_all
 obtain ⟨rfl, rfl⟩ := trodVars_none hV
 obtain ⟨ad0, len0, cap0, rfl⟩ := okWide_slice Tryd.underlying22 (hval 0 22 v0 rfl rfl)
 have k0 := h0
 have lt0 : ∀ x ∈ p0, x.block < W.heap.size := by obtain ⟨m, hm⟩ := k0; exact DataW.trod_lt m _ _ _ hm
 obtain ⟨x0, ⟨A0, c0, e0, hc0, hC0⟩, hr0⟩ := X.opens_entries.arg h0 hsz (j := 0) rfl rfl
 injection e0 with e0 _
 injection e0 with ea0 el0 ec0
 subst ea0 el0 ec0
 obtain ⟨ad1, len1, cap1, rfl⟩ := okWide_slice Tryd.underlying23 (hval 1 23 v1 rfl rfl)
 have k1 := h1
 have lt1 : ∀ x ∈ p1, x.block < W.heap.size := by obtain ⟨m, hm⟩ := k1; exact DataW.trod_lt m _ _ _ hm
 obtain ⟨x1, ⟨A1, c1, e1, hc1, hC1⟩, hr1⟩ := X.opens_strs.arg h1 hsz (j := 1) rfl rfl
 injection e1 with e1 _
 injection e1 with ea1 el1 ec1
 subst ea1 el1 ec1
 clear hA0 hval0 hsz0 hsz
 refine (X.identAgain_walk ad0 cap0 x0 hC0 hc0 hr0 ad1 cap1 x1 hC1 hc1 hr1 W hE).mono fun e W' ⟨he, bel⟩ => ?_
 subst he
 exact ⟨_, rfl, _, _, _, [], _, [], hW', trodAll_mk1 (shut_bool Tryd.underlying4 _), (trodAll_cons_mk (Below.trod laidOut (by kernel_rfl) (of_decide_eq_true (by kernel_rfl)) k0 bel lt0) (trodAll_cons_mk (Below.trod laidOut (by kernel_rfl) (of_decide_eq_true (by kernel_rfl)) k1 bel lt1) trodAll_mk0)), rfl, bel.frame _, fun h => by cases h⟩
theorem over : Rows.identAgainRow.holds Tryd.pinned (OpenSpec.ofChange Rows.identAgainSpec) :=
 OpenClaim.holds_of_wide 3 Tryd.f3 rfl rfl rfl rfl rfl rfl rfl ⟨rfl, rfl, rfl, rfl, rfl⟩ rfl rfl rfl rfl rfl (by kernel_rfl) Tryd.func3 (by kernel_rfl)
  (of_decide_eq_true (by kernel_rfl)) (by unfold Func.isWrapper; first | (rw [if_pos (by decide +kernel)]; kernel_rfl) | (rw [if_neg (by decide +kernel)]; exact ⟨rfl, rfl⟩))
  (fun os started H enc _ => lifted os started H enc)
theorem proved : Rows.IdentAgainSaid := over
theorem card_holds : Rows.IdentAgainCardSaid :=
 Claim7.holds_tied_plain_at .later [] [.data, .pinned] true (true, "da519f9668d7d53358bd3c84f7798f37d1f383e2d0b0d6f9fad49a9d75277c4d") false
  proved (fun _ h => by cases h) (by kernel_rfl) (fun _ h => by cases h) identAgain_row_tie rfl ⟨rfl, rfl⟩ (by kernel_rfl) rfl
  (fun f fn hf hfn => by
   obtain rfl : f = 3 := Option.some.inj ((show Tryd.prog.funcNamed "cringle/cringlelaw21.IdentAgain" = some 3 by kernel_rfl).symm.trans hf) |>.symm
   obtain rfl : fn = Tryd.f3 := (Option.some.inj (Tryd.func3.symm.trans hfn)).symm
   exact ⟨by kernel_rfl, fun j t ht => by
    rw [Tryd.params3] at ht
    have hm : t ∈ [22, 23] := by simpa using Array.mem_of_getElem? ht
    have hall : ([22, 23].all fun u => !Tryd.prog.wantsStandIn u) = true := by kernel_rfl
    exact (show Tryd.prog.wantsStandIn t = false by simpa using List.all_eq_true.1 hall t hm)⟩)
  (by kernel_rfl)
#print axioms proved
#print axioms card_holds
end Go.Proofs.YtihaeeldgimdiaaDoor.identAgain
namespace Go.Proofs.YtihaeeldgimdiaaDoor
theorem identAgain_card_holds : Rows.IdentAgainCardSaid := identAgain.card_holds
end Go.Proofs.YtihaeeldgimdiaaDoor
