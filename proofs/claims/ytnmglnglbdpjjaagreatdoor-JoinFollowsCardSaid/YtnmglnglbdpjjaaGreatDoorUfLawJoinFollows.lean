import Derived.Test.YtnmglnglbdpjjaaGreatDoorUfLJFollows
import Derived.Test.YtnmglnglbdpjjaaGreatDoorUfRs
import Derived.Test.YtnmglnglbdpjjaaGreatDoorTie
import Derived.Test.YtnmglnglbdpjjaaGreatDoorCards
set_option linter.all false
namespace Go.Proofs.YtnmglnglbdpjjaaGreatDoor.joinFollows
open Go Go.ChangeShapes Go.WideShapes Go.ChangeAt Go.RowKit
open Go.ChangeMaps (open_string shut_string)
open Go.Yw.PrintWords Go.Yw.PrintLast Go.Yw.PrintMore
theorem laidOut : laidOutB Tryz.prog = true := by kernel_rfl
theorem own : ownKnob Tryz.prog.godebug = none := by kernel_rfl
theorem Yhv {H : Type} {enc : TypeId × Value → H} {W : World} {A : Option Addr} {n c fuel : Nat} {x : DataW H × List MemPlace}
  (h : DataW.trod enc Tryz.prog W 0 (fun _ => true) true fuel 44 [.slice A n c] = some x) : ∃ l : List Y, n = l.length ∧ l.length ≤ c ∧ Kd.C Kd.string W A l.length l := by
 rcases open_strings Tryz.underlying44 Tryz.underlying9 Zi h with ⟨hcs, hx⟩ | ⟨a, len', cap', ss, hcs, _, hl, hm, hz, hx, hcell, _⟩
 ·simp at hcs
  obtain ⟨rfl, rfl, rfl⟩ := hcs
  exact ⟨[], rfl, Nat.zero_le _, rfl, Zv, fun h => absurd h (Nat.lt_irrefl 0)⟩
 ·simp at hcs
  obtain ⟨rfl, rfl, rfl⟩ := hcs
  simp only [if_true] at hz
  have hm' : c ≤ 9223372036854775807 := hm
  have hn : n = (ss.take n).length := by simp; omega
  refine ⟨ss.take n, hn, Zk, rfl, Zk, fun h0 => ⟨a, rfl, fun j p hj => ⟨[.string p], rfl, rfl, fun i u hu => ?_⟩⟩⟩
  obtain ⟨hj1, hp⟩ := List.getElem?_eq_some_iff.1 hj
  have hj2 : j < ss.length := by simp at hj1; omega
  have h2 := hcell j hj2
  have e : ss.getD j ByteArray.empty = p := by
   rw [← hp, List.getElem_take, List.getD_eq_getElem?_getD, List.getElem?_eq_getElem hj2]; rfl
  cases i with
  | zero =>
   obtain rfl : Value.string p = u := by simpa using hu
   rw [e] at h2
   simpa [Kd.string, Kd.scalar] using h2
  | succ i => simp at hu
set_option maxRecDepth 100000 in
theorem lifted (os : Os) (started : os.Started) (H : Type) (enc : TypeId × Value → H) :
  ReturnsInHanded {} Tryz.checked os 10 .any (fun w args => (Rows.joinFollowsSpec.pre enc Tryz.prog Tryz.f10 Rows.joinFollowsRow.domain false w args ∧ laidMetH Tryz.prog X.laidU w) ∧ sizedMet enc Tryz.prog Tryz.f10 (OpenSpec.ofChange Rows.joinFollowsSpec) false w args)
   (Rows.joinFollowsSpec.post enc Tryz.prog Tryz.f10 false true false false) := by
 refine X.returns_laid (C := Tryz.checked) own started Zi Tryz.func10
  (ChangeSpec.witness_shaped (enc := enc) (C := Tryz.checked) (os := os) (X := fun w _ => laidMetH Tryz.prog X.laidU w) false (World.laidAll Tryz.prog os X.laidU) #[.agg (X.uc ByteArray.empty ByteArray.empty 0 ByteArray.empty ByteArray.empty ByteArray.empty false false), .slice none 0 0] 8 (World.laidAll_os _ _ _)
   (World.shaped_of_ZipB Zi Zi) Zi Zi Zi
   (by rw [MakeChecks.laidMetH_plain _ _ _ Zi]; exact laidMet_laidAll _ Zi Zi)) ?_
 intro W base args ds gs before aFg hW aLn hL hS
 have hE := X.env_of_row hL hS
 have hsz : (DataW.weightsEach Tryz.prog (Tryz.f10.params.toList ++ Rows.joinFollowsSpec.plain.varTypes Tryz.prog) (ds ++ gs)).all (· ≤ reachBytes) = true := aLn
 have hval : ∀ (j : Nat) t v, Tryz.f10.params[j]? = some t → args[j]? = some v → Value.okWide Tryz.prog W .any base t v := aFg
 have hW' := hW
 obtain ⟨p, q, hA0, hV, rfl, hfz, hnd⟩ := hW
 have hA : DataW.TrodAll enc Tryz.prog W 0 (fun _ => true) true Tryz.f10.params.toList args.toList ds p := hA0
 rw [Tryz.params10] at hA hval hsz
 obtain ⟨v0, vs0, d0, ds0, p0, q0, hargs, rfl, rfl, h0, r0⟩ := trodAll_cons hA
 obtain ⟨v1, vs1, d1, ds1, p1, q1, rfl, rfl, rfl, h1, r1⟩ := trodAll_cons r0
 obtain ⟨rfl, rfl, rfl⟩ := trodAll_nil r1
 obtain rfl : args = #[v0, v1] := by cases args; simp_all
 obtain ⟨rfl, rfl⟩ := trodVars_none hV
 obtain ⟨b1, b2, b3, b4, b5, b6, b7, b8, rfl, rfl, aWL, aWM, rfl⟩ := X.open_url (hval 0 25 v0 rfl rfl) h0
 have zM := X.sizes_url hsz (j := 0) rfl rfl
 obtain ⟨A1, n1, c1, rfl⟩ := okWide_slice Tryz.underlying44 (hval 1 44 v1 rfl rfl)
 have h1k := h1
 obtain ⟨fuel, hf⟩ := h1
 obtain ⟨l1, rfl, cB, hC⟩ := Yhv hf
 simp only [List.append_nil, List.nil_append] at hW'
 have hlt : ∀ x ∈ p1, x.block < W.heap.size := fun x hx => by simpa using hW'.lt x hx
 clear hA0 aFg aLn hsz
 refine (X.joinFollows_walk b1 b2 b3 b4 b5 b6 b7 b8 A1 c1 l1 W hE (X.room_of aWL zM) hC cB).mono fun e W' ⟨he, bel⟩ => ?_
 subst he
 exact ⟨_, rfl, _, _, _, [], p1, [], hW', trodAll_mk1 (shut_bool Tryz.underlying4 _), (trodAll_mk2 (p := []) (aWM _ _) (Below.trod laidOut Zi (Kq Zi) h1k bel hlt)), rfl, bel.frame _, fun h => by cases h⟩
theorem over : Rows.joinFollowsRow.holds Tryz.pinned (OpenSpec.ofChange Rows.joinFollowsSpec) :=
 OpenClaim.holds_of_wide 10 Tryz.f10 rfl rfl rfl rfl rfl rfl rfl ⟨rfl, rfl, rfl, rfl, rfl⟩ rfl rfl rfl rfl rfl Zi Tryz.func10 Zi
  (Kq Zi) (by unfold Func.isWrapper; first | (rw [if_pos Zma]; kernel_rfl) | (rw [if_neg Zma]; exact ⟨rfl, rfl⟩))
  (fun os started H enc _ => lifted os started H enc)
theorem proved : Rows.JoinFollowsSaid := over
theorem card_holds : Rows.JoinFollowsCardSaid :=
 Claim7.holds_tied_plain_at .later [] [.data, .pinned] true (true, "d107912ca9fd9c3bc0ccf338ab86fb438381eebf2e12bf9ead652d3c1c11815c") false
  proved (fun _ h => by cases h) Zi (fun _ h => by cases h) joinFollows_row_tie rfl ⟨rfl, rfl⟩ Zi rfl
  (fun f fn hf hfn => by
   obtain rfl : f = 10 := Kv ((show Tryz.prog.funcNamed "cringle/cringlelaw05.JoinFollows" = some 10 by kernel_rfl).symm.trans hf) |>.symm
   obtain rfl : fn = Tryz.f10 := (Kv (Tryz.func10.symm.trans hfn)).symm
   exact ⟨Zi, fun j t ht => by
    rw [Tryz.params10] at ht
    have hm : t ∈ [25, 44] := by simpa using Array.mem_of_getElem? ht
    have hall : ([25, 44].all fun u => !Tryz.prog.wantsStandIn u) = true := by kernel_rfl
    exact (show Tryz.prog.wantsStandIn t = false by simpa using List.all_eq_true.1 hall t hm)⟩)
  Zi
#print axioms proved
#print axioms card_holds
end Go.Proofs.YtnmglnglbdpjjaaGreatDoor.joinFollows
namespace Go.Proofs.YtnmglnglbdpjjaaGreatDoor
theorem joinFollows_card_holds : Rows.JoinFollowsCardSaid := joinFollows.card_holds
end Go.Proofs.YtnmglnglbdpjjaaGreatDoor
