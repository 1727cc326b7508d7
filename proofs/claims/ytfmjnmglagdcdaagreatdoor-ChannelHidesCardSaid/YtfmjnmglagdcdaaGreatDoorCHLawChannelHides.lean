/- ChannelHides: the row, and its tied card. -/
import Derived.Test.YtfmjnmglagdcdaaGreatDoorCHWords
import Derived.Test.YtfmjnmglagdcdaaGreatDoorCHRow
import Derived.Test.YtfmjnmglagdcdaaGreatDoorCHLCHe
import Derived.Test.YtfmjnmglagdcdaaGreatDoorTie
import Derived.Test.YtfmjnmglagdcdaaGreatDoorCards
import Derived.WalkKit
import Derived.ChangeOld
import Derived.Carry
import Derived.Below
import Derived.SizedLaws
import Derived.SevenTiedAt
namespace Go.Proofs.YtfmjnmglagdcdaaGreatDoor.channelHides
open Go Go.ChangeShapes Go.WideShapes Go.ChangeAt Go.RowKit
open Go.ChangeMaps (open_string shut_string)
set_option linter.unusedVariables false
theorem own : ownKnob Tryz.prog.godebug = none := by kernel_rfl
theorem laidOut : laidOutB Tryz.prog = true := by kernel_rfl
set_option maxRecDepth 100000 in
theorem lifted (os : Os) (started : os.Started) (H : Type) (enc : TypeId × Value → H) :
  ReturnsInHanded {} Tryz.checked os 3 .any (fun w args => (Rows.channelHidesSpec.pre enc Tryz.prog Tryz.f3 Rows.channelHidesRow.domain false w args ∧ laidMetH Tryz.prog X.laidU w) ∧ sizedMet enc Tryz.prog Tryz.f3 (OpenSpec.ofChange Rows.channelHidesSpec) false w args)
   (Rows.channelHidesSpec.post enc Tryz.prog Tryz.f3 false true false false) := by
 refine X.returns_laid (C := Tryz.checked) own started Zg Tryz.func3
  (ChangeSpec.witness_shaped (enc := enc) (C := Tryz.checked) (os := os) (X := fun w _ => laidMetH Tryz.prog X.laidU w) false (World.laidAll Tryz.prog os X.laidU) #[.string ByteArray.empty, .string ByteArray.empty, .agg #[.bool false, .bool false]] 8 (World.laidAll_os _ _ _)
   (World.shaped_of_ZipB Zg Zg) Zg Zg Zg
   (by rw [MakeChecks.laidMetH_plain _ _ _ Zg]; exact laidMet_laidAll _ Zg Zg)) ?_
 intro W base args ds gs before hval0 hW hsz0 hL hS
 have hE := X.env_of_row hL hS
 have hsz : (DataW.weightsEach Tryz.prog (Tryz.f3.params.toList ++ Rows.channelHidesSpec.plain.varTypes Tryz.prog) (ds ++ gs)).all (· ≤ reachBytes) = true := hsz0
 have hval : ∀ (j : Nat) t v, Tryz.f3.params[j]? = some t → args[j]? = some v → Value.okWide Tryz.prog W .any base t v := hval0
 have hW' := hW
 obtain ⟨p, q, hA0, hV, rfl, hfz, hnd⟩ := hW
 have hA : DataW.TrodAll enc Tryz.prog W 0 (fun _ => true) true Tryz.f3.params.toList args.toList ds p := hA0
 rw [Tryz.params3] at hA hval hsz
 obtain ⟨v0, vs0, d0, ds0, p0, q0, hargs, rfl, rfl, h0, r0⟩ := trodAll_cons hA
 obtain ⟨v1, vs1, d1, ds1, p1, q1, rfl, rfl, rfl, h1, r1⟩ := trodAll_cons r0
 obtain ⟨v2, vs2, d2, ds2, p2, q2, rfl, rfl, rfl, h2, r2⟩ := trodAll_cons r1
 obtain ⟨rfl, rfl, rfl⟩ := trodAll_nil r2
 obtain rfl : args = #[v0, v1, v2] := by cases args; simp_all
 obtain ⟨rfl, rfl⟩ := trodVars_none hV
 obtain ⟨a0, rfl, rfl, rfl, y0⟩ := open_string Tryz.underlying9 (hval 0 9 v0 rfl rfl) h0
 have w0 : a0.size ≤ 140737488351232 := by
  have z := sized_string hsz (j := 0) (t := 9) rfl rfl
  rw [Array.length_toList] at z
  exact z
 obtain ⟨a1, rfl, rfl, rfl, y1⟩ := open_string Tryz.underlying9 (hval 1 9 v1 rfl rfl) h1
 have w1 : a1.size ≤ 140737488351232 := by
  have z := sized_string hsz (j := 1) (t := 9) rfl rfl
  rw [Array.length_toList] at z
  exact z
 have z2 := hval 2 22 v2 rfl rfl
 unfold Value.okWide at z2
 rw [Tryz.underlying22] at z2
 obtain ⟨cs2, rfl, _⟩ := z2
 have k2 := h2
 have lt2 : ∀ x ∈ p2, x.block < W.heap.size := by obtain ⟨m, hm⟩ := k2; exact DataW.trod_lt m _ _ _ hm
 obtain ⟨m2, b2, rfl⟩ := X.open_two Tryz.underlying22 Tryz.underlying4 Zg Zg h2
 clear hA0 hval0 hsz0 hsz
 refine (X.channelHides_walk a0 w0 a1 w1 m2 b2 W hE).mono fun e W' ⟨he, bel⟩ => ?_
 subst he
 exact ⟨_, rfl, _, _, _, [], _, [], hW', trodAll_mk1 (shut_bool Tryz.underlying4 _), (trodAll_cons_mk (shut_string Tryz.underlying9 y0) (trodAll_cons_mk (shut_string Tryz.underlying9 y1) (trodAll_cons_mk (Below.trod laidOut Zg (of_decide_eq_true Zg) k2 bel lt2) trodAll_mk0))), rfl, bel.frame _, fun h => by cases h⟩
theorem over : Rows.channelHidesRow.holds Tryz.pinned (OpenSpec.ofChange Rows.channelHidesSpec) :=
 OpenClaim.holds_of_wide 3 Tryz.f3 rfl rfl rfl rfl rfl rfl rfl ⟨rfl, rfl, rfl, rfl, rfl⟩ rfl rfl rfl rfl rfl Zg Tryz.func3 Zg
  (of_decide_eq_true Zg) (by unfold Func.isWrapper; first | (rw [if_pos Zca]; kernel_rfl) | (rw [if_neg Zca]; exact ⟨rfl, rfl⟩))
  (fun os started H enc _ => lifted os started H enc)
theorem proved : Rows.ChannelHidesSaid := over
theorem card_holds : Rows.ChannelHidesCardSaid :=
 Claim7.holds_tied_plain_at .later [] [.data, .pinned] true (true, "b8c921e6a79726c37718286582bd100aa72d8686ceff4fffc511c5caf59a47b0") false
  proved (fun _ h => by cases h) Zg (fun _ h => by cases h) channelHides_row_tie rfl ⟨rfl, rfl⟩ Zg rfl
  (fun f fn hf hfn => by
   obtain rfl : f = 3 := Option.some.inj ((show Tryz.prog.funcNamed "cringle/cringlelaw23.ChannelHides" = some 3 by kernel_rfl).symm.trans hf) |>.symm
   obtain rfl : fn = Tryz.f3 := (Option.some.inj (Tryz.func3.symm.trans hfn)).symm
   exact ⟨Zg, fun j t ht => by
    rw [Tryz.params3] at ht
    have hm : t ∈ [9, 22] := by simpa using Array.mem_of_getElem? ht
    have hall : ([9, 22].all fun u => !Tryz.prog.wantsStandIn u) = true := by kernel_rfl
    exact (show Tryz.prog.wantsStandIn t = false by simpa using List.all_eq_true.1 hall t hm)⟩)
  Zg
#print axioms proved
#print axioms card_holds
end Go.Proofs.YtfmjnmglagdcdaaGreatDoor.channelHides
namespace Go.Proofs.YtfmjnmglagdcdaaGreatDoor
theorem channelHides_card_holds : Rows.ChannelHidesCardSaid := channelHides.card_holds
end Go.Proofs.YtfmjnmglagdcdaaGreatDoor
