/- UrlTexts: the row, and its tied card. -/
import Derived.Test.YtnmglnglbdpjjaaGreatDoorUcRow
import Derived.Test.YtnmglnglbdpjjaaGreatDoorUcLt
import Derived.Test.YtnmglnglbdpjjaaGreatDoorTie
import Derived.Test.YtnmglnglbdpjjaaGreatDoorCards
import Derived.WalkKit
import Derived.ChangeOld
import Derived.Below
import Derived.SizedLaws
import Derived.SevenTiedAt
namespace Go.Proofs.YtnmglnglbdpjjaaGreatDoor.urlTexts
open Go Go.ChangeShapes Go.WideShapes Go.ChangeAt Go.RowKit
open Go.ChangeMaps (open_string shut_string)
set_option linter.unusedVariables false
theorem own : ownKnob Tryz.prog.godebug = none := by kernel_rfl
set_option maxRecDepth 100000 in
theorem lifted (os : Os) (started : os.Started) (H : Type) (enc : TypeId × Value → H) :
  ReturnsInHanded {} Tryz.checked os 5 .any (fun w args => (Rows.urlTextsSpec.pre enc Tryz.prog Tryz.f5 Rows.urlTextsRow.domain false w args ∧ laidMetH Tryz.prog X.laidU w) ∧ sizedMet enc Tryz.prog Tryz.f5 (OpenSpec.ofChange Rows.urlTextsSpec) false w args)
   (Rows.urlTextsSpec.post enc Tryz.prog Tryz.f5 false true false false) := by
 refine X.returns_laid (C := Tryz.checked) own started (by kernel_rfl) Tryz.func5
  (ChangeSpec.witness_shaped (enc := enc) (C := Tryz.checked) (os := os) (X := fun w _ => laidMetH Tryz.prog X.laidU w) false (World.laidAll Tryz.prog os X.laidU) #[.agg (X.uc ByteArray.empty ByteArray.empty 0 ByteArray.empty ByteArray.empty ByteArray.empty false false)] 8 (World.laidAll_os _ _ _)
   (World.shaped_of_ZipB (by kernel_rfl) (by kernel_rfl)) (by kernel_rfl) (by kernel_rfl) (by kernel_rfl)
   (by rw [MakeChecks.laidMetH_plain _ _ _ (by kernel_rfl)]; exact laidMet_laidAll _ (by kernel_rfl) (by kernel_rfl))) ?_
 intro W base args ds gs before hval0 hW hsz0 hL hS
 have hE := X.env_of_row hL hS
 have hsz : (DataW.weightsEach Tryz.prog (Tryz.f5.params.toList ++ Rows.urlTextsSpec.plain.varTypes Tryz.prog) (ds ++ gs)).all (· ≤ reachBytes) = true := hsz0
 have hval : ∀ (j : Nat) t v, Tryz.f5.params[j]? = some t → args[j]? = some v → Value.okWide Tryz.prog W .any base t v := hval0
 have hW' := hW
 obtain ⟨p, q, hA0, hV, rfl, hfz, hnd⟩ := hW
 have hA : DataW.TrodAll enc Tryz.prog W 0 (fun _ => true) true Tryz.f5.params.toList args.toList ds p := hA0
 rw [Tryz.params5] at hA hval hsz
 obtain ⟨v0, vs0, d0, ds0, p0, q0, hargs, rfl, rfl, h0, r0⟩ := trodAll_cons hA
 obtain ⟨rfl, rfl, rfl⟩ := trodAll_nil r0
 obtain rfl : args = #[v0] := by cases args; simp_all
 obtain ⟨rfl, rfl⟩ := trodVars_none hV
 obtain ⟨u1, u2, u3, u4, u5, u6, u7, u8, rfl, rfl, hwf, hrd⟩ := X.open_url (hval 0 25 v0 rfl rfl) h0
 clear hA0 hval0 hsz0 hsz
 refine (X.urlTexts_walk u1 u2 u3 u4 u5 u6 u7 u8 W hE hwf).mono fun e W' ⟨he, bel⟩ => ?_
 subst he
 exact ⟨_, rfl, _, _, _, [], _, [], hW', trodAll_mk1 (shut_bool Tryz.underlying4 _), (trodAll_cons_mk (hrd _ _) trodAll_mk0), rfl, bel.frame _, fun h => by cases h⟩
theorem over : Rows.urlTextsRow.holds Tryz.pinned (OpenSpec.ofChange Rows.urlTextsSpec) :=
 OpenClaim.holds_of_wide 5 Tryz.f5 rfl rfl rfl rfl rfl rfl rfl ⟨rfl, rfl, rfl, rfl, rfl⟩ rfl rfl rfl rfl rfl (by kernel_rfl) Tryz.func5 (by kernel_rfl)
  (of_decide_eq_true (by kernel_rfl)) (by unfold Func.isWrapper; first | (rw [if_pos (by decide +kernel)]; kernel_rfl) | (rw [if_neg (by decide +kernel)]; exact ⟨rfl, rfl⟩))
  (fun os started H enc _ => lifted os started H enc)
theorem proved : Rows.UrlTextsSaid := over
theorem card_holds : Rows.UrlTextsCardSaid :=
 Claim7.holds_tied_plain_at .later [] [.data, .pinned] true (true, "d107912ca9fd9c3bc0ccf338ab86fb438381eebf2e12bf9ead652d3c1c11815c") false
  proved (fun _ h => by cases h) (by kernel_rfl) (fun _ h => by cases h) urlTexts_row_tie rfl ⟨rfl, rfl⟩ (by kernel_rfl) rfl
  (fun f fn hf hfn => by
   obtain rfl : f = 5 := Option.some.inj ((show Tryz.prog.funcNamed "cringle/cringlelaw04.UrlTexts" = some 5 by kernel_rfl).symm.trans hf) |>.symm
   obtain rfl : fn = Tryz.f5 := (Option.some.inj (Tryz.func5.symm.trans hfn)).symm
   exact ⟨by kernel_rfl, fun j t ht => by
    rw [Tryz.params5] at ht
    have hm : t ∈ [25] := by simpa using Array.mem_of_getElem? ht
    have hall : ([25].all fun u => !Tryz.prog.wantsStandIn u) = true := by kernel_rfl
    exact (show Tryz.prog.wantsStandIn t = false by simpa using List.all_eq_true.1 hall t hm)⟩)
  (by kernel_rfl)
#print axioms proved
#print axioms card_holds
end Go.Proofs.YtnmglnglbdpjjaaGreatDoor.urlTexts
namespace Go.Proofs.YtnmglnglbdpjjaaGreatDoor
theorem urlTexts_card_holds : Rows.UrlTextsCardSaid := urlTexts.card_holds
end Go.Proofs.YtnmglnglbdpjjaaGreatDoor
