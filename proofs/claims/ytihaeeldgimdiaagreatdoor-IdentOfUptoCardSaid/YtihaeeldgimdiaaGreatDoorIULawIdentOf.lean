import Derived.Test.YtihaeeldgimdiaaGreatDoorIURow
import Derived.Test.YtihaeeldgimdiaaGreatDoorIULIOf
import Derived.Test.YtihaeeldgimdiaaGreatDoorTie
import Derived.Test.YtihaeeldgimdiaaGreatDoorCards
import Derived.Deep.DeepHandedRow
set_option linter.all false
namespace Go.Proofs.YtihaeeldgimdiaaGreatDoor.identOf
open Go Go.ChangeShapes Go.WideShapes Go.ChangeAt Go.RowKit
open Go.ChangeMaps (open_string shut_string)
theorem own : ownKnob Tryz.prog.godebug = none := by kernel_rfl
theorem laidOut : laidOutB Tryz.prog = true := by kernel_rfl
theorem reads (os : Os) {H : Type} (enc : TypeId × Value → H) : ∃ places, DataW.whole enc Tryz.prog ((World.laidAll Tryz.prog os X.laidU).forCall (fun _ _ => 0) ⟨#[], #[.agg #[.string ByteArray.empty, .string ByteArray.empty, .string ByteArray.empty, .string ByteArray.empty, .string ByteArray.empty, .string ByteArray.empty, .int .i64 0, .bool false, .string ByteArray.empty, .string ByteArray.empty, .string ByteArray.empty, .slice none 0 0, .slice none 0 0, .slice none 0 0, .slice none 0 0, .slice none 0 0], .string ByteArray.empty], []⟩).memory Tryz.f4.params.toList Rows.identOfSpec.vars false #[.agg #[.string ByteArray.empty, .string ByteArray.empty, .string ByteArray.empty, .string ByteArray.empty, .string ByteArray.empty, .string ByteArray.empty, .int .i64 0, .bool false, .string ByteArray.empty, .string ByteArray.empty, .string ByteArray.empty, .slice none 0 0, .slice none 0 0, .slice none 0 0, .slice none 0 0, .slice none 0 0], .string ByteArray.empty].toList 8 = some ([.agg [.lit (.string []), .lit (.string []), .lit (.string []), .lit (.string []), .lit (.string []), .lit (.string []), .lit (.int .i64 0), .lit (.bool false), .agg [.lit (.string []), .lit (.string []), .lit (.string [])], .nil, .nil, .nil, .nil, .nil], .lit (.string [])], [], places) :=
 ⟨[], Zi⟩
set_option maxRecDepth 100000 in
theorem lifted (os : Os) (started : os.Started) (H : Type) (enc : TypeId × Value → H) (F : Stop.Interp) :
  ReturnsInHanded {} Tryz.checked os 4 .any ((Rows.OpenSpec.upto Rows.identOfSpec).preRow enc Tryz.prog Tryz.f4 Rows.identOfUptoRow.domain false X.laidU) (((Rows.OpenSpec.upto Rows.identOfSpec).at F).post enc Tryz.prog Tryz.f4 false true false false) := by
 obtain ⟨places, hx⟩ := reads os enc
 refine returnsInHanded_of_row (C := Tryz.checked) (s := Rows.OpenSpec.upto Rows.identOfSpec) own started Zi Tryz.func4
  (witness_row_at (enc := enc) (C := Tryz.checked) false (World.laidAll Tryz.prog os X.laidU) #[.agg #[.string ByteArray.empty, .string ByteArray.empty, .string ByteArray.empty, .string ByteArray.empty, .string ByteArray.empty, .string ByteArray.empty, .int .i64 0, .bool false, .string ByteArray.empty, .string ByteArray.empty, .string ByteArray.empty, .slice none 0 0, .slice none 0 0, .slice none 0 0, .slice none 0 0, .slice none 0 0], .string ByteArray.empty] (World.laidAll_os _ _ _) Zi Zi Zi
   (OpenSpec.preRow_of_cond 8 hx Zi (fun k hk => by cases hk; kernel_rfl) Zi
    (by rw [MakeChecks.laidMetH_plain _ _ _ Zi]; exact laidMet_laidAll _ Zi Zi))) ?_
 intro W base args ds gs before tV hW _ hcond aCa hL hS _
 have hE := X.env_of_row hL hS
 have hsz : (DataW.weightsEach Tryz.prog (Tryz.f4.params.toList ++ Rows.identOfSpec.plain.varTypes Tryz.prog) (ds ++ gs)).all (· ≤ reachBytes) = true := aCa
 have hk : Rows.uptoBulkAll (ds ++ gs) ≤ 1048576 := Km (hcond _ rfl)
 have hval : ∀ (j : Nat) t v, Tryz.f4.params[j]? = some t → args[j]? = some v → Value.okWide Tryz.prog W .any base t v := tV
 have hW' := hW
 obtain ⟨p, q, hA0, hV, rfl, hfz, hnd⟩ := hW
 have hA : DataW.TrodAll enc Tryz.prog W 0 (fun _ => true) true Tryz.f4.params.toList args.toList ds p := hA0
 rw [Tryz.params4] at hA hval hsz
 obtain ⟨v0, vs0, d0, ds0, p0, q0, hargs, rfl, rfl, h0, r0⟩ := trodAll_cons hA
 obtain ⟨v1, vs1, d1, ds1, p1, q1, rfl, rfl, rfl, h1, r1⟩ := trodAll_cons r0
 obtain ⟨rfl, rfl, rfl⟩ := trodAll_nil r1
 obtain rfl : args = #[v0, v1] := by cases args; simp_all
 obtain ⟨rfl, rfl⟩ := trodVars_none hV
 obtain ⟨cs0, rfl, _⟩ := okWide_struct Tryz.underlying32 (hval 0 32 v0 rfl rfl)
 have k0 := h0
 have lt0 : ∀ x ∈ p0, x.block < W.heap.size := by obtain ⟨m, hm⟩ := k0; exact DataW.trod_lt m _ _ _ hm
 obtain ⟨x0, hK0, nD, hm0⟩ := X.opensB_entry.arg h0 hsz (j := 0) rfl rfl
 obtain ⟨b1, hB1, _, uE⟩ := X.opensB_str.arg h1 hsz (j := 1) rfl rfl
 obtain ⟨a1, rfl, rfl, rfl, y1⟩ := open_string Tryz.underlying9 (hval 1 9 v1 rfl rfl) h1
 obtain rfl : a1 = b1 := by have hB2 : [Value.string a1] = [Value.string b1] := hB1; injection hB2 with hB2; injection hB2
 clear hA0 tV aCa hsz
 refine (X.identOf_walk x0 cs0 hK0 nD (Nat.le_trans hm0 hk) a1 (Nat.le_trans uE hk) W hE).mono fun e W' ⟨he, bel⟩ => ?_
 subst he
 exact ⟨_, rfl, _, _, _, [], _, [], hW', trodAll_mk1 (shut_bool Tryz.underlying4 _), (trodAll_cons_mk (Below.trod laidOut Zi (Km Zi) k0 bel lt0) (trodAll_cons_mk (shut_string Tryz.underlying9 y1) trodAll_mk0)), rfl, bel.frame _, fun h => by cases h⟩
theorem proved : Rows.IdentOfUptoSaid :=
 OpenClaim.holds_of_cond 4 Tryz.f4 rfl rfl rfl rfl rfl rfl rfl ⟨rfl, rfl, rfl, rfl, rfl⟩ rfl rfl rfl rfl rfl Zi Tryz.func4 Zi
  (Km Zi) (by unfold Func.isWrapper; first | (rw [if_pos Zza]; kernel_rfl) | (rw [if_neg Zza]; exact ⟨rfl, rfl⟩))
  (fun os started H enc _ F => by rw [OpenClaim.pre_eq_preRow]; exact lifted os started H enc F)
theorem card_holds : Rows.IdentOfUptoCardSaid :=
 Claim7.holds_tied_plain_at .later [] [.data, .pinned] true (true, "5ad7f0771f291ea6dc33c48cba6495f6befaa653a41a66fa8750b069ffaaca8c") false
  proved (fun _ h => by cases h) Zi (fun _ h => by cases h) identOfUpto_row_tie rfl ⟨rfl, rfl⟩ Zi rfl
  (fun f fn hf hfn => by
   obtain rfl : f = 4 := Kr ((show Tryz.prog.funcNamed "cringle/cringlelaw21.IdentOf" = some 4 by kernel_rfl).symm.trans hf) |>.symm
   obtain rfl : fn = Tryz.f4 := (Kr (Tryz.func4.symm.trans hfn)).symm
   exact ⟨Zi, fun j t ht => by
    rw [Tryz.params4] at ht
    have hm : t ∈ [32, 9] := by simpa using Array.mem_of_getElem? ht
    have hall : ([32, 9].all fun u => !Tryz.prog.wantsStandIn u) = true := by kernel_rfl
    exact (show Tryz.prog.wantsStandIn t = false by simpa using List.all_eq_true.1 hall t hm)⟩)
  Zi
#print axioms proved
#print axioms card_holds
end Go.Proofs.YtihaeeldgimdiaaGreatDoor.identOf
namespace Go.Proofs.YtihaeeldgimdiaaGreatDoor
theorem identOf_card_holds : Rows.IdentOfUptoCardSaid := identOf.card_holds
end Go.Proofs.YtihaeeldgimdiaaGreatDoor
