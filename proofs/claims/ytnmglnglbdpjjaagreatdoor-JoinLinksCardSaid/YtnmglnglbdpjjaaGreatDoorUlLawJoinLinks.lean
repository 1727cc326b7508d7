/- JoinLinks: the row, and its tied card. -/
import Derived.Test.YtnmglnglbdpjjaaGreatDoorUlWords
import Derived.Test.YtnmglnglbdpjjaaGreatDoorUlRow
import Derived.Test.YtnmglnglbdpjjaaGreatDoorUlLJLinks
import Derived.Test.YtnmglnglbdpjjaaGreatDoorUlRs
import Derived.Test.YtnmglnglbdpjjaaGreatDoorTie
import Derived.Test.YtnmglnglbdpjjaaGreatDoorCards
import Derived.WalkKit
import Derived.ChangeOld
import Derived.Below
import Derived.SizedLaws
import Derived.SevenTiedAt
namespace Go.Proofs.YtnmglnglbdpjjaaGreatDoor.joinLinks
open Go Go.ChangeShapes Go.WideShapes Go.ChangeAt Go.RowKit
open Go.ChangeMaps (open_string shut_string)
set_option linter.unusedVariables false
theorem own : ownKnob Tryz.prog.godebug = none := by kernel_rfl
set_option maxRecDepth 100000 in
theorem lifted (os : Os) (started : os.Started) (H : Type) (enc : TypeId × Value → H) :
  ReturnsInHanded {} Tryz.checked os 6 .any (fun w args => (Rows.joinLinksSpec.pre enc Tryz.prog Tryz.f6 Rows.joinLinksRow.domain false w args ∧ laidMetH Tryz.prog X.laidU w) ∧ sizedMet enc Tryz.prog Tryz.f6 (OpenSpec.ofChange Rows.joinLinksSpec) false w args)
   (Rows.joinLinksSpec.post enc Tryz.prog Tryz.f6 false true false false) := by
 refine X.returns_laid (C := Tryz.checked) own started Zi Tryz.func6
  (ChangeSpec.witness_shaped (enc := enc) (C := Tryz.checked) (os := os) (X := fun w _ => laidMetH Tryz.prog X.laidU w) false (World.laidAll Tryz.prog os X.laidU) #[.agg (X.uc ByteArray.empty ByteArray.empty 0 ByteArray.empty ByteArray.empty ByteArray.empty false false), .string ByteArray.empty] 8 (World.laidAll_os _ _ _)
   (World.shaped_of_ZipB Zi Zi) Zi Zi Zi
   (by rw [MakeChecks.laidMetH_plain _ _ _ Zi]; exact laidMet_laidAll _ Zi Zi)) ?_
 intro W base args ds gs before aFc hW aKS hL hS
 have hE := X.env_of_row hL hS
 have hsz : (DataW.weightsEach Tryz.prog (Tryz.f6.params.toList ++ Rows.joinLinksSpec.plain.varTypes Tryz.prog) (ds ++ gs)).all (· ≤ reachBytes) = true := aKS
 have hval : ∀ (j : Nat) t v, Tryz.f6.params[j]? = some t → args[j]? = some v → Value.okWide Tryz.prog W .any base t v := aFc
 have hW' := hW
 obtain ⟨p, q, hA0, hV, rfl, hfz, hnd⟩ := hW
 have hA : DataW.TrodAll enc Tryz.prog W 0 (fun _ => true) true Tryz.f6.params.toList args.toList ds p := hA0
 rw [Tryz.params6] at hA hval hsz
 obtain ⟨v0, vs0, d0, ds0, p0, q0, hargs, rfl, rfl, h0, r0⟩ := trodAll_cons hA
 obtain ⟨v1, vs1, d1, ds1, p1, q1, rfl, rfl, rfl, h1, r1⟩ := trodAll_cons r0
 obtain ⟨rfl, rfl, rfl⟩ := trodAll_nil r1
 obtain rfl : args = #[v0, v1] := by cases args; simp_all
 obtain ⟨rfl, rfl⟩ := trodVars_none hV
 obtain ⟨b1, b2, b3, b4, b5, b6, b7, b8, rfl, rfl, aWq, aWr, rfl⟩ := X.open_url (hval 0 25 v0 rfl rfl) h0
 have zF := X.sizes_url hsz (j := 0) rfl rfl
 obtain ⟨a1, rfl, rfl, rfl, y1⟩ := open_string Tryz.underlying9 (hval 1 9 v1 rfl rfl) h1
 clear hA0 aFc aKS hsz
 refine (X.joinLinks_walk b1 b2 b3 b4 b5 b6 b7 b8 a1 W hE (X.room_of aWq zF)).mono fun e W' ⟨he, bel⟩ => ?_
 subst he
 exact ⟨_, rfl, _, _, _, [], _, [], hW', trodAll_mk1 (shut_bool Tryz.underlying4 _), (trodAll_cons_mk (aWr _ _) (trodAll_cons_mk (shut_string Tryz.underlying9 y1) trodAll_mk0)), rfl, bel.frame _, fun h => by cases h⟩
theorem over : Rows.joinLinksRow.holds Tryz.pinned (OpenSpec.ofChange Rows.joinLinksSpec) :=
 OpenClaim.holds_of_wide 6 Tryz.f6 rfl rfl rfl rfl rfl rfl rfl ⟨rfl, rfl, rfl, rfl, rfl⟩ rfl rfl rfl rfl rfl Zi Tryz.func6 Zi
  (of_decide_eq_true Zi) (by unfold Func.isWrapper; first | (rw [if_pos Zma]; kernel_rfl) | (rw [if_neg Zma]; exact ⟨rfl, rfl⟩))
  (fun os started H enc _ => lifted os started H enc)
theorem proved : Rows.JoinLinksSaid := over
theorem card_holds : Rows.JoinLinksCardSaid :=
 Claim7.holds_tied_plain_at .later [] [.data, .pinned] true (true, "d107912ca9fd9c3bc0ccf338ab86fb438381eebf2e12bf9ead652d3c1c11815c") false
  proved (fun _ h => by cases h) Zi (fun _ h => by cases h) joinLinks_row_tie rfl ⟨rfl, rfl⟩ Zi rfl
  (fun f fn hf hfn => by
   obtain rfl : f = 6 := Option.some.inj ((show Tryz.prog.funcNamed "cringle/cringlelaw05.JoinLinks" = some 6 by kernel_rfl).symm.trans hf) |>.symm
   obtain rfl : fn = Tryz.f6 := (Option.some.inj (Tryz.func6.symm.trans hfn)).symm
   exact ⟨Zi, fun j t ht => by
    rw [Tryz.params6] at ht
    have hm : t ∈ [25, 9] := by simpa using Array.mem_of_getElem? ht
    have hall : ([25, 9].all fun u => !Tryz.prog.wantsStandIn u) = true := by kernel_rfl
    exact (show Tryz.prog.wantsStandIn t = false by simpa using List.all_eq_true.1 hall t hm)⟩)
  Zi
#print axioms proved
#print axioms card_holds
end Go.Proofs.YtnmglnglbdpjjaaGreatDoor.joinLinks
namespace Go.Proofs.YtnmglnglbdpjjaaGreatDoor
theorem joinLinks_card_holds : Rows.JoinLinksCardSaid := joinLinks.card_holds
end Go.Proofs.YtnmglnglbdpjjaaGreatDoor
