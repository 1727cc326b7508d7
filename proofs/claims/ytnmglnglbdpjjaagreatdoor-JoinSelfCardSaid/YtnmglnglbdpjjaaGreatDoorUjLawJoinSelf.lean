/- JoinSelf: the row, and its tied card. -/
import Derived.Test.YtnmglnglbdpjjaaGreatDoorUjWords
import Derived.Test.YtnmglnglbdpjjaaGreatDoorUjRow
import Derived.Test.YtnmglnglbdpjjaaGreatDoorUjLJSelf
import Derived.Test.YtnmglnglbdpjjaaGreatDoorUjRs
import Derived.Test.YtnmglnglbdpjjaaGreatDoorTie
import Derived.Test.YtnmglnglbdpjjaaGreatDoorCards
import Derived.WalkKit
import Derived.ChangeOld
import Derived.Below
import Derived.SizedLaws
import Derived.SevenTiedAt
namespace Go.Proofs.YtnmglnglbdpjjaaGreatDoor.joinSelf
open Go Go.ChangeShapes Go.WideShapes Go.ChangeAt Go.RowKit
open Go.ChangeMaps (open_string shut_string)
set_option linter.unusedVariables false
theorem own : ownKnob Tryz.prog.godebug = none := by kernel_rfl
set_option maxRecDepth 100000 in
theorem Ysn (os : Os) (started : os.Started) (H : Type) (enc : TypeId × Value → H) :
  ReturnsInHanded {} Tryz.checked os 7 .any (fun w args => (Rows.joinSelfSpec.pre enc Tryz.prog Tryz.f7 Rows.joinSelfRow.domain false w args ∧ laidMetH Tryz.prog X.laidU w) ∧ sizedMet enc Tryz.prog Tryz.f7 (OpenSpec.ofChange Rows.joinSelfSpec) false w args)
   (Rows.joinSelfSpec.post enc Tryz.prog Tryz.f7 false true false false) := by
 refine X.returns_laid (C := Tryz.checked) own started Zi Tryz.func7
  (ChangeSpec.witness_shaped (enc := enc) (C := Tryz.checked) (os := os) (X := fun w _ => laidMetH Tryz.prog X.laidU w) false (World.laidAll Tryz.prog os X.laidU) #[.agg (X.uc ByteArray.empty ByteArray.empty 0 ByteArray.empty ByteArray.empty ByteArray.empty false false), .agg (X.uc ByteArray.empty ByteArray.empty 0 ByteArray.empty ByteArray.empty ByteArray.empty false false)] 8 (World.laidAll_os _ _ _)
   (World.shaped_of_ZipB Zi Zi) Zi Zi Zi
   Zab) ?_
 intro W base args ds gs before hval0 hW hsz0 hL hS
 have hE := X.env_of_row hL hS
 have hsz : (DataW.weightsEach Tryz.prog (Tryz.f7.params.toList ++ Rows.joinSelfSpec.plain.varTypes Tryz.prog) (ds ++ gs)).all (· ≤ reachBytes) = true := hsz0
 have hval : ∀ (j : Nat) t v, Tryz.f7.params[j]? = some t → args[j]? = some v → Value.okWide Tryz.prog W .any base t v := hval0
 have hW' := hW
 obtain ⟨p, q, hA0, hV, rfl, hfz, hnd⟩ := hW
 have hA : DataW.TrodAll enc Tryz.prog W 0 (fun _ => true) true Tryz.f7.params.toList args.toList ds p := hA0
 rw [Tryz.params7] at hA hval hsz
 obtain ⟨v0, vs0, d0, ds0, p0, q0, hargs, rfl, rfl, h0, r0⟩ := trodAll_cons hA
 obtain ⟨v1, vs1, d1, ds1, p1, q1, rfl, rfl, rfl, h1, r1⟩ := trodAll_cons r0
 obtain ⟨rfl, rfl, rfl⟩ := trodAll_nil r1
 obtain rfl : args = #[v0, v1] := by cases args; simp_all
 obtain ⟨rfl, rfl⟩ := trodVars_none hV
 obtain ⟨b1, b2, b3, b4, b5, b6, b7, b8, rfl, rfl, hwf0, hrd0, rfl⟩ := X.open_url (hval 0 25 v0 rfl rfl) h0
 have hs0 := X.sizes_url hsz (j := 0) rfl rfl
 obtain ⟨u1, u2, u3, u4, u5, u6, u7, u8, rfl, rfl, hwf1, hrd1, rfl⟩ := X.open_url (hval 1 25 v1 rfl rfl) h1
 have hs1 := X.sizes_url hsz (j := 1) rfl rfl
 clear hA0 hval0 hsz0 hsz
 refine (X.joinSelf_walk b1 b2 b3 b4 b5 b6 b7 b8 u1 u2 u3 u4 u5 u6 u7 u8 W hE (X.room_of hwf0 hs0) (X.room_of hwf1 hs1)).mono fun e W' ⟨he, bel⟩ => ?_
 subst he
 exact ⟨_, rfl, _, _, _, [], _, [], hW', trodAll_mk1 (shut_bool Tryz.underlying4 _), (trodAll_cons_mk (hrd0 _ _) (trodAll_cons_mk (hrd1 _ _) trodAll_mk0)), rfl, bel.frame _, fun h => by cases h⟩
theorem over : Rows.joinSelfRow.holds Tryz.pinned (OpenSpec.ofChange Rows.joinSelfSpec) :=
 OpenClaim.holds_of_wide 7 Tryz.f7 rfl rfl rfl rfl rfl rfl rfl ⟨rfl, rfl, rfl, rfl, rfl⟩ rfl rfl rfl rfl rfl Zi Tryz.func7 Zi
  (of_decide_eq_true Zi) Zra
  (fun os started H enc _ => Ysn os started H enc)
theorem proved : Rows.JoinSelfSaid := over
theorem card_holds : Rows.JoinSelfCardSaid :=
 Claim7.holds_tied_plain_at .later [] [.data, .pinned] true (true, "d107912ca9fd9c3bc0ccf338ab86fb438381eebf2e12bf9ead652d3c1c11815c") false
  proved (fun _ h => by cases h) Zi (fun _ h => by cases h) joinSelf_row_tie rfl ⟨rfl, rfl⟩ Zi rfl
  (fun f fn hf hfn => by
   obtain rfl : f = 7 := Option.some.inj ((show Tryz.prog.funcNamed "cringle/cringlelaw05.JoinSelf" = some 7 by kernel_rfl).symm.trans hf) |>.symm
   obtain rfl : fn = Tryz.f7 := (Option.some.inj (Tryz.func7.symm.trans hfn)).symm
   exact ⟨Zi, fun j t ht => by
    rw [Tryz.params7] at ht
    have hm : t ∈ [25, 25] := by simpa using Array.mem_of_getElem? ht
    have hall : ([25, 25].all fun u => !Tryz.prog.wantsStandIn u) = true := by kernel_rfl
    exact (show Tryz.prog.wantsStandIn t = false by simpa using List.all_eq_true.1 hall t hm)⟩)
  Zi
#print axioms proved
#print axioms card_holds
end Go.Proofs.YtnmglnglbdpjjaaGreatDoor.joinSelf
namespace Go.Proofs.YtnmglnglbdpjjaaGreatDoor
theorem joinSelf_card_holds : Rows.JoinSelfCardSaid := joinSelf.card_holds
end Go.Proofs.YtnmglnglbdpjjaaGreatDoor
