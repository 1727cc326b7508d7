import Derived.Test.YtnmglnglbdpjjaaGreatDoorUfZl
set_option linter.all false
namespace Go.Proofs.YtnmglnglbdpjjaaGreatDoor.X
open Go.RowKit Go.Lib Go.Shelf Go.Yw.PrintWords Go.Yw.PrintLast Go.Yw.PrintMore
set_option maxHeartbeats 8000000 in
set_option maxRecDepth 100000 in
theorem Yai (s h : Y) (p : Int) (o3 o4 o5 : Y) (o6 o7 : Bool) (a1 : Y) (w : World) (hE : EnvOk w) (hs : a1.size ≤ 100000000) :
  Calls Tryz.prog 17 #[.agg (uc s h p o3 o4 o5 o6 o7), .string a1] w fun e w' => e = .returned (.agg (uc s h p (Ycd a1.data.toList) (Yyb a1.data.toList) (Ycc a1.data.toList) (Yqc a1.data.toList) (Ydc a1.data.toList))) ∧ Below w.heap.size w w' := by
 have HE := Ya.mk hE
 have bQ := Tryz.underlying25
 have bD : (Tryz.prog.info? 25).map (·.size) = some 8 := by kernel_rfl
 obtain ⟨z4, hz4⟩ : ∃ z, z = Ycd a1.data.toList := ⟨_, rfl⟩
 obtain ⟨z5, hz5⟩ : ∃ z, z = Yyb a1.data.toList := ⟨_, rfl⟩
 obtain ⟨z6, hz6⟩ : ∃ z, z = Ycc a1.data.toList := ⟨_, rfl⟩
 obtain ⟨z7, hz7⟩ : ∃ z, z = Yqc a1.data.toList := ⟨_, rfl⟩
 obtain ⟨z8, hz8⟩ : ∃ z, z = Ydc a1.data.toList := ⟨_, rfl⟩
 obtain ⟨rx, hT⟩ : ∃ rx, Yvd.f a1 s h p ⟨#[]⟩ ⟨#[]⟩ ⟨#[]⟩ false false = some (rx, s, h, p, z4, z5, z6, z7, z8) := by
  refine ⟨ofL (Yvi (Yeb (Yjd a1.data.toList))), ?_⟩
  unfold Yvd.f
  rw [if_pos hs, hz4, hz5, hz6, hz7, hz8]
  rfl
 rw [← hz4, ← hz5, ← hz6, ← hz7, ← hz8]
 have HT := Ya.mk hT
 clear hT hE hz4 hz5 hz6 hz7 hz8 hs
 have hbkA := heap_alloc_new w (.cells (uc s h p o3 o4 o5 o6 o7) 25)
 have hbk := Ym hbkA (.cells urlZ 25)
 have HBA := Ya.mk ((Below.refl w.heap.size w).alloc (Kw _) (.cells (uc s h p o3 o4 o5 o6 o7) 25))
 have iB := Ya.mk (HBA.out.alloc HBA.out.size (.cells urlZ 25))
 have zW := Ya.mk (heap_alloc_new (w.alloc (.cells (uc s h p o3 o4 o5 o6 o7) 25)) (.cells urlZ 25))
 rw [Yof] at zW
 have uY := Ya.mk (IsS53.new w ((w.alloc (.cells (uc s h p o3 o4 o5 o6 o7) 25)).alloc (.cells urlZ 25)) a1 s h p ⟨#[]⟩ ⟨#[]⟩ ⟨#[]⟩ false false iB.out)
 have tW := Ya.mk (Ym zW.out (.cells #[.string a1, .string s, .string h, .int .i64 p, .string ⟨#[]⟩, .string ⟨#[]⟩, .string ⟨#[]⟩, .bool false, .bool false] 53))
 have eL := Ya.mk (iB.out.alloc iB.out.size (.cells #[.string a1, .string s, .string h, .int .i64 p, .string ⟨#[]⟩, .string ⟨#[]⟩, .string ⟨#[]⟩, .bool false, .bool false] 53))
 rw [Yof, Yof] at uY
 obtain ⟨cQ, cB, cN, _⟩ := Yea hbk
 clear hbk hbkA HBA
 go_enter Tryz.func17, Tryz.ntmps17
 go_wp2_with fail
 clear cQ cB cN
 refine (Yvd.calls (w.heap.size + 1 + 1) _ _ _ _ _ _ _ _ _ _ _ _ _ _ _ _ _ _ w _ HE.out uY.out eL.out HT.out).mono ?_
 rintro e w5 ⟨rfl, hix, hbx, hkx⟩
 have eB := Ya.mk (Yom tW.out hkx Zk)
 have cM := Ya.mk hbx
 have hq1 := Ymc hix.1
 have cH := Ync hix.1
 have hq3 := Yoc hix.1
 have hq4 := Ykc hix.1
 have hq5 := Yjc hix.1
 have hq6 := Ygc hix.1
 have hq7 := Ylc hix.1
 have hq8 := Yhc hix.1
 clear hix hbx hkx tW eL uY iB zW
 go_wp2_with ((with_reducible refine Yxa (t := 25) (p := 4) rfl ?_); refine wpList_store_row rfl 25 (.tmp 4) (.tmp 22) rfl (w.heap.size + 1) (uc s h p z4 z5 z6 z7 z8) rfl rfl 25 _ eB.out bD rfl (Ypb _ _ _ _ _ _ _ _) ?_)
 refine bodyPost_ret (results_cell_row rfl _ _ (w.heap.size + 1) 25 (uc s h p z4 z5 z6 z7 z8) (0, 0) _ rfl (setRow_heap _ _ _ _ _ _ eB.out) bQ rfl bD) rfl ?_
 exact ⟨rfl, below_setRow cM.out Zk _⟩
end Go.Proofs.YtnmglnglbdpjjaaGreatDoor.X
