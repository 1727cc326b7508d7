import Derived.Test.YtihaeeldgimdiaaGreatDoorIURow
import Derived.Test.YtihaeeldgimdiaaGreatDoorIURv
import Derived.Test.YtihaeeldgimdiaaGreatDoorTie
import Derived.Test.YtihaeeldgimdiaaGreatDoorCards
import Derived.Deep.DeepHandedRow
set_option linter.all false
namespace Go.Proofs.YtihaeeldgimdiaaGreatDoor.identLists
open Go Go.ChangeShapes Go.WideShapes Go.ChangeAt Go.RowKit
open Go.ChangeMaps (open_string shut_string)
theorem own : ownKnob Tryz.prog.godebug = none := by kernel_rfl
theorem laidOut : laidOutB Tryz.prog = true := by kernel_rfl
theorem reads (os : Os) {H : Type} (enc : TypeId × Value → H) : ∃ places, DataW.whole enc Tryz.prog ((World.laidAll Tryz.prog os X.laidU).forCall (fun _ _ => 0) ⟨#[], #[.slice none 0 0, .slice none 0 0], []⟩).memory Tryz.f3.params.toList Rows.identListsSpec.vars false #[.slice none 0 0, .slice none 0 0].toList 8 = some ([.nil, .nil], [], places) :=
 ⟨[], Zi⟩
set_option maxRecDepth 100000 in
theorem lifted (os : Os) (started : os.Started) (H : Type) (enc : TypeId × Value → H) (F : Stop.Interp) :
  ReturnsInHanded {} Tryz.checked os 3 .any ((Rows.OpenSpec.upto Rows.identListsSpec).preRow enc Tryz.prog Tryz.f3 Rows.identListsUptoRow.domain false X.laidU) (((Rows.OpenSpec.upto Rows.identListsSpec).at F).post enc Tryz.prog Tryz.f3 false true false false) := by
 obtain ⟨places, hx⟩ := reads os enc
 refine returnsInHanded_of_row (C := Tryz.checked) (s := Rows.OpenSpec.upto Rows.identListsSpec) own started Zi Tryz.func3
  (witness_row_at (enc := enc) (C := Tryz.checked) false (World.laidAll Tryz.prog os X.laidU) #[.slice none 0 0, .slice none 0 0] (World.laidAll_os _ _ _) Zi Zi Zi
   (OpenSpec.preRow_of_cond 8 hx Zi (fun k hk => by cases hk; kernel_rfl) Zi
    (by rw [MakeChecks.laidMetH_plain _ _ _ Zi]; exact laidMet_laidAll _ Zi Zi))) ?_
 intro W base args ds gs before tV hW _ hcond aCa hL hS _
 have hE := X.env_of_row hL hS
 have hsz : (DataW.weightsEach Tryz.prog (Tryz.f3.params.toList ++ Rows.identListsSpec.plain.varTypes Tryz.prog) (ds ++ gs)).all (· ≤ reachBytes) = true := aCa
 have hk : Rows.uptoBulkAll (ds ++ gs) ≤ 1048576 := Km (hcond _ rfl)
 have hval : ∀ (j : Nat) t v, Tryz.f3.params[j]? = some t → args[j]? = some v → Value.okWide Tryz.prog W .any base t v := tV
 have hW' := hW
 obtain ⟨p, q, hA0, hV, rfl, hfz, hnd⟩ := hW
 have hA : DataW.TrodAll enc Tryz.prog W 0 (fun _ => true) true Tryz.f3.params.toList args.toList ds p := hA0
 rw [Tryz.params3] at hA hval hsz
 obtain ⟨v0, vs0, d0, ds0, p0, q0, hargs, rfl, rfl, h0, r0⟩ := trodAll_cons hA
 obtain ⟨v1, vs1, d1, ds1, p1, q1, rfl, rfl, rfl, h1, r1⟩ := trodAll_cons r0
 obtain ⟨rfl, rfl, rfl⟩ := trodAll_nil r1
 obtain rfl : args = #[v0, v1] := by cases args; simp_all
 obtain ⟨rfl, rfl⟩ := trodVars_none hV
 obtain ⟨ad0, bAP, aYL, rfl⟩ := okWide_slice Tryz.underlying22 (hval 0 22 v0 rfl rfl)
 have k0 := h0
 have lt0 : ∀ x ∈ p0, x.block < W.heap.size := by obtain ⟨m, hm⟩ := k0; exact DataW.trod_lt m _ _ _ hm
 obtain ⟨x0, ⟨A0, c0, e0, eE, hC0⟩, nD, hm0⟩ := X.opensB_entries.arg h0 hsz (j := 0) rfl rfl
 injection e0 with e0 _
 injection e0 with ea0 el0 ec0
 subst ea0 el0 ec0
 obtain ⟨ad1, bAQ, aYM, rfl⟩ := okWide_slice Tryz.underlying23 (hval 1 23 v1 rfl rfl)
 have k1 := h1
 have lt1 : ∀ x ∈ p1, x.block < W.heap.size := by obtain ⟨m, hm⟩ := k1; exact DataW.trod_lt m _ _ _ hm
 obtain ⟨x1, ⟨A1, c1, e1, fL, hC1⟩, hr1, uE⟩ := X.opensB_strs.arg h1 hsz (j := 1) rfl rfl
 injection e1 with e1 _
 injection e1 with ea1 el1 ec1
 subst ea1 el1 ec1
 clear hA0 tV aCa hsz
 refine (X.identLists_walk ad0 aYL x0 hC0 eE nD (Nat.le_trans hm0 hk) ad1 aYM x1 hC1 fL hr1 (Nat.le_trans uE hk) W hE).mono fun e W' ⟨he, bel⟩ => ?_
 subst he
 exact ⟨_, rfl, _, _, _, [], _, [], hW', trodAll_mk1 (shut_bool Tryz.underlying4 _), (trodAll_cons_mk (Below.trod laidOut Zi (Km Zi) k0 bel lt0) (trodAll_cons_mk (Below.trod laidOut Zi (Km Zi) k1 bel lt1) trodAll_mk0)), rfl, bel.frame _, fun h => by cases h⟩
theorem proved : Rows.IdentListsUptoSaid :=
 OpenClaim.holds_of_cond 3 Tryz.f3 rfl rfl rfl rfl rfl rfl rfl ⟨rfl, rfl, rfl, rfl, rfl⟩ rfl rfl rfl rfl rfl Zi Tryz.func3 Zi
  (Km Zi) (by unfold Func.isWrapper; first | (rw [if_pos Zza]; kernel_rfl) | (rw [if_neg Zza]; exact ⟨rfl, rfl⟩))
  (fun os started H enc _ F => by rw [OpenClaim.pre_eq_preRow]; exact lifted os started H enc F)
theorem card_holds : Rows.IdentListsUptoCardSaid :=
 Claim7.holds_tied_plain_at .later [] [.data, .pinned] true (true, "5ad7f0771f291ea6dc33c48cba6495f6befaa653a41a66fa8750b069ffaaca8c") false
  proved (fun _ h => by cases h) Zi (fun _ h => by cases h) identListsUpto_row_tie rfl ⟨rfl, rfl⟩ Zi rfl
  (fun f fn hf hfn => by
   obtain rfl : f = 3 := Kr ((show Tryz.prog.funcNamed "cringle/cringlelaw21.IdentLists" = some 3 by kernel_rfl).symm.trans hf) |>.symm
   obtain rfl : fn = Tryz.f3 := (Kr (Tryz.func3.symm.trans hfn)).symm
   exact ⟨Zi, fun j t ht => by
    rw [Tryz.params3] at ht
    have hm : t ∈ [22, 23] := by simpa using Array.mem_of_getElem? ht
    have hall : ([22, 23].all fun u => !Tryz.prog.wantsStandIn u) = true := by kernel_rfl
    exact (show Tryz.prog.wantsStandIn t = false by simpa using List.all_eq_true.1 hall t hm)⟩)
  Zi
#print axioms proved
#print axioms card_holds
end Go.Proofs.YtihaeeldgimdiaaGreatDoor.identLists
namespace Go.Proofs.YtihaeeldgimdiaaGreatDoor
theorem identLists_card_holds : Rows.IdentListsUptoCardSaid := identLists.card_holds
end Go.Proofs.YtihaeeldgimdiaaGreatDoor
