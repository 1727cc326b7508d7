/- IdentOnce: the row, and its tied card. -/
import Derived.Test.YtihaeeldgimdiaaDoorUiRow
import Derived.Test.YtihaeeldgimdiaaDoorUiLIOnce
import Derived.Test.YtihaeeldgimdiaaDoorUiRo
import Derived.Test.YtihaeeldgimdiaaDoorTie
import Derived.Test.YtihaeeldgimdiaaDoorCards
import Derived.WalkKit
import Derived.ChangeOld
import Derived.Carry
import Derived.Below
import Derived.SizedLaws
import Derived.SevenTiedAt
namespace Go.Proofs.YtihaeeldgimdiaaDoor.identOnce
open Go Go.ChangeShapes Go.WideShapes Go.ChangeAt Go.RowKit
open Go.ChangeMaps (open_string shut_string)
set_option linter.unusedVariables false
theorem own : ownKnob Tryd.prog.godebug = none := by kernel_rfl
theorem laidOut : laidOutB Tryd.prog = true := by kernel_rfl
set_option maxRecDepth 100000 in
theorem lifted (os : Os) (started : os.Started) (H : Type) (enc : TypeId × Value → H) :
  ReturnsInHanded {} Tryd.checked os 5 .any (fun w args => (Rows.identOnceSpec.pre enc Tryd.prog Tryd.f5 Rows.identOnceRow.domain false w args ∧ laidMetH Tryd.prog X.laidU w) ∧ sizedMet enc Tryd.prog Tryd.f5 (OpenSpec.ofChange Rows.identOnceSpec) false w args)
   (Rows.identOnceSpec.post enc Tryd.prog Tryd.f5 false true false false) := by
 refine X.returns_laid (C := Tryd.checked) own started (by kernel_rfl) Tryd.func5
  (ChangeSpec.witness_shaped (enc := enc) (C := Tryd.checked) (os := os) (X := fun w _ => laidMetH Tryd.prog X.laidU w) false (World.laidAll Tryd.prog os X.laidU) #[.slice none 0 0] 8 (World.laidAll_os _ _ _)
   (World.shaped_of_ZipB (by kernel_rfl) (by kernel_rfl)) (by kernel_rfl) (by kernel_rfl) (by kernel_rfl)
   (by rw [MakeChecks.laidMetH_plain _ _ _ (by kernel_rfl)]; exact laidMet_laidAll _ (by kernel_rfl) (by kernel_rfl))) ?_
 intro W base args ds gs before hval0 hW hsz0 hL hS
 have hE := X.env_of_row hL hS
 have hsz : (DataW.weightsEach Tryd.prog (Tryd.f5.params.toList ++ Rows.identOnceSpec.plain.varTypes Tryd.prog) (ds ++ gs)).all (· ≤ reachBytes) = true := hsz0
 have hval : ∀ (j : Nat) t v, Tryd.f5.params[j]? = some t → args[j]? = some v → Value.okWide Tryd.prog W .any base t v := hval0
 have hW' := hW
 obtain ⟨p, q, hA0, hV, rfl, hfz, hnd⟩ := hW
 have hA : DataW.TrodAll enc Tryd.prog W 0 (fun _ => true) true Tryd.f5.params.toList args.toList ds p := hA0
 rw [Tryd.params5] at hA hval hsz
 obtain ⟨v0, vs0, d0, ds0, p0, q0, hargs, rfl, rfl, h0, r0⟩ := trodAll_cons hA
 obtain ⟨rfl, rfl, rfl⟩ := trodAll_nil r0
 obtain rfl : args = #[v0] := by cases args; simp_all
 obtain ⟨rfl, rfl⟩ := trodVars_none hV
 obtain ⟨ad0, len0, cap0, rfl⟩ := okWide_slice Tryd.underlying22 (hval 0 22 v0 rfl rfl)
 have k0 := h0
 have lt0 : ∀ x ∈ p0, x.block < W.heap.size := by obtain ⟨m, hm⟩ := k0; exact DataW.trod_lt m _ _ _ hm
 obtain ⟨x0, ⟨A0, c0, e0, hc0, hC0⟩, hr0⟩ := X.opens_entries.arg h0 hsz (j := 0) rfl rfl
 injection e0 with e0 _
 injection e0 with ea0 el0 ec0
 subst ea0 el0 ec0
 clear hA0 hval0 hsz0 hsz
 refine (X.identOnce_walk ad0 cap0 x0 hC0 hc0 hr0 W hE).mono fun e W' ⟨he, bel⟩ => ?_
 subst he
 exact ⟨_, rfl, _, _, _, [], _, [], hW', trodAll_mk1 (shut_bool Tryd.underlying4 _), (trodAll_cons_mk (Below.trod laidOut (by kernel_rfl) (of_decide_eq_true (by kernel_rfl)) k0 bel lt0) trodAll_mk0), rfl, bel.frame _, fun h => by cases h⟩
theorem over : Rows.identOnceRow.holds Tryd.pinned (OpenSpec.ofChange Rows.identOnceSpec) :=
 OpenClaim.holds_of_wide 5 Tryd.f5 rfl rfl rfl rfl rfl rfl rfl ⟨rfl, rfl, rfl, rfl, rfl⟩ rfl rfl rfl rfl rfl (by kernel_rfl) Tryd.func5 (by kernel_rfl)
  (of_decide_eq_true (by kernel_rfl)) (by unfold Func.isWrapper; first | (rw [if_pos (by decide +kernel)]; kernel_rfl) | (rw [if_neg (by decide +kernel)]; exact ⟨rfl, rfl⟩))
  (fun os started H enc _ => lifted os started H enc)
theorem proved : Rows.IdentOnceSaid := over
theorem card_holds : Rows.IdentOnceCardSaid :=
 Claim7.holds_tied_plain_at .later [] [.data, .pinned] true (true, "da519f9668d7d53358bd3c84f7798f37d1f383e2d0b0d6f9fad49a9d75277c4d") false
  proved (fun _ h => by cases h) (by kernel_rfl) (fun _ h => by cases h) identOnce_row_tie rfl ⟨rfl, rfl⟩ (by kernel_rfl) rfl
  (fun f fn hf hfn => by
   obtain rfl : f = 5 := Option.some.inj ((show Tryd.prog.funcNamed "cringle/cringlelaw21.IdentOnce" = some 5 by kernel_rfl).symm.trans hf) |>.symm
   obtain rfl : fn = Tryd.f5 := (Option.some.inj (Tryd.func5.symm.trans hfn)).symm
   exact ⟨by kernel_rfl, fun j t ht => by
    rw [Tryd.params5] at ht
    have hm : t ∈ [22] := by simpa using Array.mem_of_getElem? ht
    have hall : ([22].all fun u => !Tryd.prog.wantsStandIn u) = true := by kernel_rfl
    exact (show Tryd.prog.wantsStandIn t = false by simpa using List.all_eq_true.1 hall t hm)⟩)
  (by kernel_rfl)
#print axioms proved
#print axioms card_holds
end Go.Proofs.YtihaeeldgimdiaaDoor.identOnce
namespace Go.Proofs.YtihaeeldgimdiaaDoor
theorem identOnce_card_holds : Rows.IdentOnceCardSaid := identOnce.card_holds
end Go.Proofs.YtihaeeldgimdiaaDoor
