/- UrlParts: what a call of it does. -/
import Derived.Test.YtnmglnglbdpjjaaGreatDoorUbZu
import Derived.Test.YtnmglnglbdpjjaaGreatDoorUbRow
import Derived.Test.YtnmglnglbdpjjaaGreatDoorUbX2
namespace Go.Proofs.YtnmglnglbdpjjaaGreatDoor.X
open Go.RowKit Go.Lib Go.Shelf Go.Proofs.YtnmglnglbdpjjaaGreatDoorW.PrintWords Go.Proofs.YtnmglnglbdpjjaaGreatDoorW.PrintLast Go.Proofs.YtnmglnglbdpjjaaGreatDoorW.PrintMore
set_option linter.unusedVariables false
set_option linter.unusedSimpArgs false
theorem eqSame (d : Nat) (w : World) (u1 u2 : ByteArray) (u3 : Int) (u4 u5 u6 : ByteArray) (u7 u8 : Bool) : (Op.equalIn (d + 2) 25 (.agg #[.string u1, .string u2, .int .i64 u3, .string u4, .string u5, .string u6, .bool u7, .bool u8]) (.agg #[.string u1, .string u2, .int .i64 u3, .string u4, .string u5, .string u6, .bool u7, .bool u8])).run Tryz.prog w = .ok true w := by
 rw [eqA25]
 simp only [beq_self_eq_true, Bool.and_self]
attribute [local go_sem high] eqSame
theorem aliveAt_60 : aliveAt 60 := ⟨by kernel_rfl, by kernel_rfl⟩
set_option maxHeartbeats 8000000 in
set_option maxRecDepth 100000 in
theorem urlParts_long (k : Nat) (a0 : ByteArray) (w : World) (hE : EnvOk w) (hl : cringlelaw04_long.f a0 = some true) (ha : aliveAt k) :
  Calls Tryz.prog 4 #[.string a0] w fun e w' => e = .returned (.bool true) ∧ Below w.heap.size w w' := by
 have HE := Aside0.mk hE
 have HL := Aside0.mk hl
 have HA := Aside0.mk ha
 clear hE hl ha
 go_enter Tryz.func4, Tryz.ntmps4
 go_wp2_with fail
 refine (cringlelaw04_long.calls a0 true _ HE.out HL.out).mono ?_
 rintro e w1 ⟨rfl, hd1⟩
 have HB1 := Aside0.mk hd1.below
 clear hd1
 go_wp2_with fail
 refine (alive_calls k _ (HE.out.below HB1.out) HA.out).mono ?_
 rintro e w2 ⟨rfl, hb⟩
 have HB2 := Aside0.mk (HB1.out.trans (hb.mono HB1.out.size))
 clear hb
 go_wp2_with fail
 go_ret
 exact ⟨rfl, HB2.out⟩
set_option maxHeartbeats 8000000 in
set_option maxRecDepth 100000 in
theorem urlParts_short (k kh kr kc : Nat) (a0 hb c pb : ByteArray) (sg : Int) (w : World) (hE : EnvOk w) (hl : cringlelaw04_long.f a0 = some false) (ha : aliveAt k) (hs : a0.size ≤ 30000000)
  (hh : url_Host.f kh a0 = some (hb, sg)) (hr : cringleref04_Host.f kr a0 = some (hb, sg)) (hc : url_Clean.f a0 = some c) (hcr : cringleref04_Clean.f kc a0 = some c) (hp : url_Path.f a0 = some pb) (hpr : cringleref04_Path.f a0 = some pb) :
  Calls Tryz.prog 4 #[.string a0] w fun e w' => e = .returned (.bool true) ∧ Below w.heap.size w w' := by
 have HE := Aside0.mk hE
 have HL := Aside0.mk hl
 have HA := Aside0.mk ha
 have HH := Aside0.mk hh
 have HR := Aside0.mk hr
 have HC := Aside0.mk hc
 have HCR := Aside0.mk hcr
 have HP := Aside0.mk hp
 have HPR := Aside0.mk hpr
 have HS1 := Aside0.mk (show a0.size ≤ 100000000 by omega)
 have HS2 := Aside0.mk hs
 obtain ⟨z4, hz4⟩ : ∃ z, z = tailPath a0.data.toList := ⟨_, rfl⟩
 obtain ⟨z5, hz5⟩ : ∃ z, z = tailQuery a0.data.toList := ⟨_, rfl⟩
 obtain ⟨z6, hz6⟩ : ∃ z, z = tailFrag a0.data.toList := ⟨_, rfl⟩
 obtain ⟨z7, hz7⟩ : ∃ z, z = tailHasQ a0.data.toList := ⟨_, rfl⟩
 obtain ⟨z8, hz8⟩ : ∃ z, z = tailHasF a0.data.toList := ⟨_, rfl⟩
 have HTL := Aside0.mk (show z4 = tailPath a0.data.toList ∧ z5 = tailQuery a0.data.toList ∧ z6 = tailFrag a0.data.toList ∧ z7 = tailHasQ a0.data.toList ∧ z8 = tailHasF a0.data.toList from ⟨hz4, hz5, hz6, hz7, hz8⟩)
 have hu25 := Tryz.underlying25
 have hi25 : (Tryz.prog.info? 25).map (·.size) = some 8 := by kernel_rfl
 clear hE hl ha hh hr hc hcr hp hpr hs hz4 hz5 hz6 hz7 hz8
 go_enter Tryz.func4, Tryz.ntmps4
 go_wp2_with fail
 refine (cringlelaw04_long.calls a0 false _ HE.out HL.out).mono ?_
 rintro e w1 ⟨rfl, hd1⟩
 have HB1 := Aside0.mk hd1.below
 clear hd1
 have HZ := Aside0.mk (heap_alloc_new w1 (.cells urlZ 25))
 have HBZ := Aside0.mk (HB1.out.alloc HB1.out.size (.cells urlZ 25))
 have HG := Aside0.mk HB1.out.size
 go_wp2_with ((with_reducible refine gate_store (t := 25) (p := 3) rfl ?_); refine wpList_store_row rfl 25 (.tmp 3) (.tmp 11) rfl w1.heap.size (uc (⟨#[104, 116, 116, 112]⟩ : ByteArray) (⟨#[104]⟩ : ByteArray) 7 (⟨#[]⟩ : ByteArray) (⟨#[113]⟩ : ByteArray) (⟨#[102]⟩ : ByteArray) false false) rfl rfl 25 _ HZ.out hi25 rfl (url_one _ _ _ _ _ _ _ _) ?_; have BG := Aside0.mk (setRow_heap _ _ _ (uc (⟨#[104, 116, 116, 112]⟩ : ByteArray) (⟨#[104]⟩ : ByteArray) 7 (⟨#[]⟩ : ByteArray) (⟨#[113]⟩ : ByteArray) (⟨#[102]⟩ : ByteArray) false false) _ _ HZ.out); have HB2 := Aside0.mk (below_setRow HBZ.out HG.out (uc (⟨#[104, 116, 116, 112]⟩ : ByteArray) (⟨#[104]⟩ : ByteArray) 7 (⟨#[]⟩ : ByteArray) (⟨#[113]⟩ : ByteArray) (⟨#[102]⟩ : ByteArray) false false)); generalize (w1.alloc (.cells urlZ 25)).setRow w1.heap.size (uc (⟨#[104, 116, 116, 112]⟩ : ByteArray) (⟨#[104]⟩ : ByteArray) 7 (⟨#[]⟩ : ByteArray) (⟨#[113]⟩ : ByteArray) (⟨#[102]⟩ : ByteArray) false false) = w2 at BG HB2 ⊢)
 obtain ⟨g, hg⟩ : ∃ n, n = w1.heap.size := ⟨_, rfl⟩
 rw [← hg] at BG ⊢
 clear hg HZ HBZ HG
 refine start_ (n := 7) (S := fun w' => w'.cell? ⟨g, 0, none⟩ = some (.string (⟨#[104, 116, 116, 112]⟩ : ByteArray)) ∧ w'.cell? ⟨g, 1, none⟩ = some (.string (⟨#[104]⟩ : ByteArray)) ∧ w'.cell? ⟨g, 2, none⟩ = some (.int .i64 7) ∧ w'.cell? ⟨g, 3, none⟩ = some (.string (⟨#[]⟩ : ByteArray)) ∧ w'.cell? ⟨g, 4, none⟩ = some (.string (⟨#[113]⟩ : ByteArray)) ∧ w'.cell? ⟨g, 5, none⟩ = some (.string (⟨#[102]⟩ : ByteArray)) ∧ w'.cell? ⟨g, 6, none⟩ = some (.bool false) ∧ w'.cell? ⟨g, 7, none⟩ = some (.bool false)) (ds := []) #[false, false, false, false, false, false, false] (by kernel_rfl) rfl rfl (uc_cells (blk_drew BG.out)) (fun hHeld => ?_)
 replace BG := Aside0.mk (blk_drew BG.out)
 replace HB2 := Aside0.mk (below_drew1 HB2.out)
 generalize w2.drew = w3 at BG HB2 hHeld ⊢
 refine pure_ (i := 1) (N := some 13) (v := ?_) (a' := ?_) #[false, true, false, false, false, false, false] rfl rfl (by kernel_rfl) (fun _ _ _ h => h) (Or.inl ⟨by rfl, ?_⟩) ?_ ?_
 rotate_left
 ·intro w'
  go_simp
  with_reducible rfl
 rotate_left
 ·simp only [Act.put, List.setIfInBounds_toArray, List.set_cons_zero, List.set_cons_succ, i64_w, i32_w]
  rfl
 refine pure_ (i := 4) (N := some 16) (v := ?_) (a' := ?_) #[false, true, false, false, true, false, false] rfl rfl (by kernel_rfl) (fun _ _ _ h => h) (Or.inl ⟨by rfl, ?_⟩) ?_ ?_
 rotate_left
 ·intro w'
  go_simp
  with_reducible rfl
 rotate_left
 ·simp only [Act.put, List.setIfInBounds_toArray, List.set_cons_zero, List.set_cons_succ, i64_w, i32_w]
  rfl
 refine take_ (i := 0) (N := some 12) (v := ?_) (a' := ?_) #[true, true, false, false, true, false, false] rfl rfl (by kernel_rfl) (fun _ _ _ h => h) (Or.inl ⟨by rfl, ?_⟩) hHeld ?_ ?_
 rotate_left
 ·rintro w' ⟨s0, s1, s2, s3, s4, s5, s6, s7⟩
  go_simp
  with_reducible rfl
 rotate_left
 ·simp only [Act.put, List.setIfInBounds_toArray, List.set_cons_zero, List.set_cons_succ, i64_w, i32_w]
  rfl
 refine take_ (i := 3) (N := some 15) (v := ?_) (a' := ?_) #[true, true, false, true, true, false, false] rfl rfl (by kernel_rfl) (fun _ _ _ h => h) (Or.inl ⟨by rfl, ?_⟩) hHeld ?_ ?_
 rotate_left
 ·rintro w' ⟨s0, s1, s2, s3, s4, s5, s6, s7⟩
  go_simp
  with_reducible rfl
 rotate_left
 ·simp only [Act.put, List.setIfInBounds_toArray, List.set_cons_zero, List.set_cons_succ, i64_w, i32_w]
  rfl
 refine one_ (i := 2) (N := some 14) #[true, true, true, true, true, false, false] rfl rfl (by kernel_rfl) (by decide) (fun K hK => ?_)
 refine goes_ Tryz.func17 (by kernel_rfl) rfl #[.agg #[.string (⟨#[104, 116, 116, 112]⟩ : ByteArray), .string (⟨#[104]⟩ : ByteArray), .int .i64 7, .string (⟨#[]⟩ : ByteArray), .string (⟨#[113]⟩ : ByteArray), .string (⟨#[102]⟩ : ByteArray), .bool false, .bool false], .string a0] (by rfl) rfl rfl (by (try simp only [List.map_toArray, List.map_cons, List.map_nil]); first | done | rfl) ?_
 refine (urlTail_calls (⟨#[104, 116, 116, 112]⟩ : ByteArray) (⟨#[104]⟩ : ByteArray) 7 (⟨#[]⟩ : ByteArray) (⟨#[113]⟩ : ByteArray) (⟨#[102]⟩ : ByteArray) false false a0 _ (HE.out.below HB2.out) HS1.out).mono ?_
 rintro e w4 ⟨rfl, hb⟩
 refine ⟨_, rfl, ?_⟩
 replace BG := Aside0.mk (blk_bel BG.out hb)
 replace HB2 := Aside0.mk (HB2.out.trans (hb.mono HB2.out.size))
 clear hb
 refine hK.out _ _ (uc_cells BG.out) (fun hHeld => ?_)
 clear hK K
 rw [← HTL.out.1, ← HTL.out.2.1, ← HTL.out.2.2.1, ← HTL.out.2.2.2.1, ← HTL.out.2.2.2.2]
 refine norm_ (a' := ?_) ?_ ?_
 rotate_left
 ·show Act.put _ (some 14) _ = _
  simp only [Act.put, List.setIfInBounds_toArray, List.set_cons_zero, List.set_cons_succ, i64_w, i32_w]
  rfl
 refine one_ (i := 5) (N := some 17) #[true, true, true, true, true, true, false] rfl rfl (by kernel_rfl) (by decide) (fun K hK => ?_)
 refine goes_ Tryz.func18 (by kernel_rfl) rfl #[.agg #[.string (⟨#[104, 116, 116, 112]⟩ : ByteArray), .string (⟨#[104]⟩ : ByteArray), .int .i64 7, .string (⟨#[]⟩ : ByteArray), .string (⟨#[113]⟩ : ByteArray), .string (⟨#[102]⟩ : ByteArray), .bool false, .bool false], .string a0] (by rfl) rfl rfl (by (try simp only [List.map_toArray, List.map_cons, List.map_nil]); first | done | rfl) ?_
 refine (rtail_walk (⟨#[104, 116, 116, 112]⟩ : ByteArray) (⟨#[104]⟩ : ByteArray) 7 (⟨#[]⟩ : ByteArray) (⟨#[113]⟩ : ByteArray) (⟨#[102]⟩ : ByteArray) false false a0 _ (HE.out.below HB2.out) HS2.out).mono ?_
 rintro e w4 ⟨rfl, hb⟩
 refine ⟨_, rfl, ?_⟩
 replace BG := Aside0.mk (blk_bel BG.out hb)
 replace HB2 := Aside0.mk (HB2.out.trans (hb.mono HB2.out.size))
 clear hb
 refine hK.out _ _ (uc_cells BG.out) (fun hHeld => ?_)
 clear hK K
 rw [← HTL.out.1, ← HTL.out.2.1, ← HTL.out.2.2.1, ← HTL.out.2.2.2.1, ← HTL.out.2.2.2.2]
 refine norm_ (a' := ?_) ?_ ?_
 rotate_left
 ·show Act.put _ (some 17) _ = _
  simp only [Act.put, List.setIfInBounds_toArray, List.set_cons_zero, List.set_cons_succ, i64_w, i32_w]
  rfl
 refine pure_ (i := 6) (N := some 18) (v := ?_) (a' := ?_) #[true, true, true, true, true, true, true] rfl rfl (by kernel_rfl) (fun _ _ _ h => h) (Or.inl ⟨by rfl, ?_⟩) ?_ ?_
 rotate_left
 ·intro w'
  go_simp
  with_reducible rfl
 rotate_left
 ·simp only [Act.put, List.setIfInBounds_toArray, List.set_cons_zero, List.set_cons_succ, i64_w, i32_w]
  rfl
 refine done_ (by kernel_rfl) ?_
 try go_wp2_with fail
 refine (url_Host.calls kh a0 _ _ _ (HE.out.below HB2.out) HH.out).mono ?_
 rintro e w5 ⟨rfl, hb5⟩
 have HB5 := Aside0.mk (HB2.out.trans (hb5.mono HB2.out.size))
 clear hb5
 go_wp2_with fail
 refine (cringleref04_Host.calls kr a0 _ _ _ (HE.out.below HB5.out) HR.out).mono ?_
 rintro e w6 ⟨rfl, hb6⟩
 have HB6 := Aside0.mk (HB5.out.trans (hb6.mono HB5.out.size))
 clear hb6
 go_wp2_with fail
 refine (url_Clean.calls a0 c _ (HE.out.below HB6.out) HC.out).mono ?_
 rintro e w7 ⟨rfl, hb7⟩
 have HB7 := Aside0.mk (HB6.out.trans (hb7.mono HB6.out.size))
 clear hb7
 go_wp2_with fail
 refine (cringleref04_Clean.calls kc a0 c _ (HE.out.below HB7.out) HCR.out).mono ?_
 rintro e w8 ⟨rfl, hb8⟩
 have HB8 := Aside0.mk (HB7.out.trans (hb8.mono HB7.out.size))
 clear hb8
 have ec : (c.toList == c.toList) = true := by simp
 go_wp2_with fail
 refine (url_Path.calls a0 pb _ (HE.out.below HB8.out) HP.out).mono ?_
 rintro e w9 ⟨rfl, hb9⟩
 have HB9 := Aside0.mk (HB8.out.trans (hb9.mono HB8.out.size))
 clear hb9
 go_wp2_with fail
 refine (cringleref04_Path.calls a0 pb _ (HE.out.below HB9.out) HPR.out).mono ?_
 rintro e wa ⟨rfl, hba⟩
 have HBa := Aside0.mk (HB9.out.trans (hba.mono HB9.out.size))
 clear hba
 go_wp2_with fail
 refine (alive_calls k _ (HE.out.below HBa.out) HA.out).mono ?_
 rintro e wb ⟨rfl, hbb⟩
 have HBb := Aside0.mk (HBa.out.trans (hbb.mono HBa.out.size))
 clear hbb
 go_wp2_with fail
 go_ret
 exact ⟨rfl, HBb.out⟩
theorem urlParts_walk (a0 : ByteArray) (w : World) (hE : EnvOk w) (w0 : a0.size ≤ 140737488351232) :
  Calls Tryz.prog 4 #[.string a0] w fun e w' => e = .returned (.bool true) ∧ Below w.heap.size w w' := by
 by_cases hl : (a0.size : Int) > 2200
 ·exact urlParts_long 60 a0 w hE (by unfold cringlelaw04_long.f; rw [decide_eq_true hl]) aliveAt_60
 ·obtain ⟨k1, h1⟩ := host_f a0 (by omega)
  obtain ⟨k2, h2⟩ := rhost_f a0 (by omega)
  obtain ⟨k3, h3⟩ := rclean_f a0 (by omega)
  exact urlParts_short 60 k1 k2 k3 a0 _ _ _ _ w hE (by unfold cringlelaw04_long.f; rw [decide_eq_false hl]) aliveAt_60 (by omega) (h1 _ (Nat.le_refl _)) (h2 _ (Nat.le_refl _)) (by unfold url_Clean.f; rw [if_pos (by omega)]) (h3 _ (Nat.le_refl _)) (by unfold url_Path.f; rw [if_pos (by omega)]) (by unfold cringleref04_Path.f; rw [if_pos (by omega)])
end Go.Proofs.YtnmglnglbdpjjaaGreatDoor.X
