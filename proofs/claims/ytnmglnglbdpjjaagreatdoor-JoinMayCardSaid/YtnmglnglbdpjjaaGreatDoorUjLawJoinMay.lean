/- JoinMay: the row, and its tied card. -/
import Derived.Test.YtnmglnglbdpjjaaGreatDoorUjWords
import Derived.Test.YtnmglnglbdpjjaaGreatDoorUjRow
import Derived.Test.YtnmglnglbdpjjaaGreatDoorUjLJMay
import Derived.Test.YtnmglnglbdpjjaaGreatDoorUjRs
import Derived.Test.YtnmglnglbdpjjaaGreatDoorTie
import Derived.Test.YtnmglnglbdpjjaaGreatDoorCards
import Derived.WalkKit
import Derived.ChangeOld
import Derived.Below
import Derived.SizedLaws
import Derived.SevenTiedAt
namespace Go.Proofs.YtnmglnglbdpjjaaGreatDoor.joinMay
open Go Go.ChangeShapes Go.WideShapes Go.ChangeAt Go.RowKit
open Go.ChangeMaps (open_string shut_string)
set_option linter.unusedVariables false
theorem own : ownKnob Tryz.prog.godebug = none := by kernel_rfl
set_option maxRecDepth 100000 in
theorem Ysn (os : Os) (started : os.Started) (H : Type) (enc : TypeId × Value → H) :
  ReturnsInHanded {} Tryz.checked os 8 .any (fun w args => (Rows.joinMaySpec.pre enc Tryz.prog Tryz.f8 Rows.joinMayRow.domain false w args ∧ laidMetH Tryz.prog X.laidU w) ∧ sizedMet enc Tryz.prog Tryz.f8 (OpenSpec.ofChange Rows.joinMaySpec) false w args)
   (Rows.joinMaySpec.post enc Tryz.prog Tryz.f8 false true false false) := by
 refine X.returns_laid (C := Tryz.checked) own started Zi Tryz.func8
  (ChangeSpec.witness_shaped (enc := enc) (C := Tryz.checked) (os := os) (X := fun w _ => laidMetH Tryz.prog X.laidU w) false (World.laidAll Tryz.prog os X.laidU) #[.agg (X.uc ByteArray.empty ByteArray.empty 0 ByteArray.empty ByteArray.empty ByteArray.empty false false), .string ByteArray.empty] 8 (World.laidAll_os _ _ _)
   (World.shaped_of_ZipB Zi Zi) Zi Zi Zi
   Zab) ?_
 intro W base args ds gs before hval0 hW hsz0 hL hS
 have hE := X.env_of_row hL hS
 have hsz : (DataW.weightsEach Tryz.prog (Tryz.f8.params.toList ++ Rows.joinMaySpec.plain.varTypes Tryz.prog) (ds ++ gs)).all (· ≤ reachBytes) = true := hsz0
 have hval : ∀ (j : Nat) t v, Tryz.f8.params[j]? = some t → args[j]? = some v → Value.okWide Tryz.prog W .any base t v := hval0
 have hW' := hW
 obtain ⟨p, q, hA0, hV, rfl, hfz, hnd⟩ := hW
 have hA : DataW.TrodAll enc Tryz.prog W 0 (fun _ => true) true Tryz.f8.params.toList args.toList ds p := hA0
 rw [Tryz.params8] at hA hval hsz
 obtain ⟨v0, vs0, d0, ds0, p0, q0, hargs, rfl, rfl, h0, r0⟩ := trodAll_cons hA
 obtain ⟨v1, vs1, d1, ds1, p1, q1, rfl, rfl, rfl, h1, r1⟩ := trodAll_cons r0
 obtain ⟨rfl, rfl, rfl⟩ := trodAll_nil r1
 obtain rfl : args = #[v0, v1] := by cases args; simp_all
 obtain ⟨rfl, rfl⟩ := trodVars_none hV
 obtain ⟨b1, b2, b3, b4, b5, b6, b7, b8, rfl, rfl, hwf0, hrd0, rfl⟩ := X.open_url (hval 0 25 v0 rfl rfl) h0
 have hs0 := X.sizes_url hsz (j := 0) rfl rfl
 obtain ⟨a1, rfl, rfl, rfl, y1⟩ := open_string Tryz.underlying9 (hval 1 9 v1 rfl rfl) h1
 clear hA0 hval0 hsz0 hsz
 refine (X.joinMay_walk b1 b2 b3 b4 b5 b6 b7 b8 a1 W hE (X.room_of hwf0 hs0)).mono fun e W' ⟨he, bel⟩ => ?_
 subst he
 exact ⟨_, rfl, _, _, _, [], _, [], hW', trodAll_mk1 (shut_bool Tryz.underlying4 _), (trodAll_cons_mk (hrd0 _ _) (trodAll_cons_mk (shut_string Tryz.underlying9 y1) trodAll_mk0)), rfl, bel.frame _, fun h => by cases h⟩
theorem over : Rows.joinMayRow.holds Tryz.pinned (OpenSpec.ofChange Rows.joinMaySpec) :=
 OpenClaim.holds_of_wide 8 Tryz.f8 rfl rfl rfl rfl rfl rfl rfl ⟨rfl, rfl, rfl, rfl, rfl⟩ rfl rfl rfl rfl rfl Zi Tryz.func8 Zi
  (of_decide_eq_true Zi) Zra
  (fun os started H enc _ => Ysn os started H enc)
theorem proved : Rows.JoinMaySaid := over
theorem card_holds : Rows.JoinMayCardSaid :=
 Claim7.holds_tied_plain_at .later [] [.data, .pinned] true (true, "d107912ca9fd9c3bc0ccf338ab86fb438381eebf2e12bf9ead652d3c1c11815c") false
  proved (fun _ h => by cases h) Zi (fun _ h => by cases h) joinMay_row_tie rfl ⟨rfl, rfl⟩ Zi rfl
  (fun f fn hf hfn => by
   obtain rfl : f = 8 := Option.some.inj ((show Tryz.prog.funcNamed "cringle/cringlelaw05.JoinMay" = some 8 by kernel_rfl).symm.trans hf) |>.symm
   obtain rfl : fn = Tryz.f8 := (Option.some.inj (Tryz.func8.symm.trans hfn)).symm
   exact ⟨Zi, fun j t ht => by
    rw [Tryz.params8] at ht
    have hm : t ∈ [25, 9] := by simpa using Array.mem_of_getElem? ht
    have hall : ([25, 9].all fun u => !Tryz.prog.wantsStandIn u) = true := by kernel_rfl
    exact (show Tryz.prog.wantsStandIn t = false by simpa using List.all_eq_true.1 hall t hm)⟩)
  Zi
#print axioms proved
#print axioms card_holds
end Go.Proofs.YtnmglnglbdpjjaaGreatDoor.joinMay
namespace Go.Proofs.YtnmglnglbdpjjaaGreatDoor
theorem joinMay_card_holds : Rows.JoinMayCardSaid := joinMay.card_holds
end Go.Proofs.YtnmglnglbdpjjaaGreatDoor
