/- url.Tail: what stands behind a place. -/
import Derived.Test.YtnmglnglbdpjjaaGreatDoorUlWords
import Derived.Test.YtnmglnglbdpjjaaGreatDoorUlZl
namespace Go.Proofs.YtnmglnglbdpjjaaGreatDoor.X
open Go.RowKit Go.Lib Go.Shelf Go.Yw.PrintWords Go.Yw.PrintLast Go.Yw.PrintMore
set_option linter.unusedVariables false
set_option linter.unusedSimpArgs false
set_option maxHeartbeats 8000000 in
set_option maxRecDepth 100000 in
theorem Ywh (s h : ByteArray) (p : Int) (o3 o4 o5 : ByteArray) (o6 o7 : Bool) (a1 : ByteArray) (w : World) (hE : EnvOk w) (hs : a1.size ≤ 100000000) :
  Calls Tryz.prog 17 #[.agg (uc s h p o3 o4 o5 o6 o7), .string a1] w fun e w' => e = .returned (.agg (uc s h p (Ydd a1.data.toList) (Yzb a1.data.toList) (Ybc a1.data.toList) (Ytc a1.data.toList) (Yqc a1.data.toList))) ∧ Below w.heap.size w w' := by
 have HE := Ya.mk hE
 have bQ := Tryz.underlying25
 have bG : (Tryz.prog.info? 25).map (·.size) = some 8 := by kernel_rfl
 obtain ⟨z4, hz4⟩ : ∃ z, z = Ydd a1.data.toList := ⟨_, rfl⟩
 obtain ⟨z5, hz5⟩ : ∃ z, z = Yzb a1.data.toList := ⟨_, rfl⟩
 obtain ⟨z6, hz6⟩ : ∃ z, z = Ybc a1.data.toList := ⟨_, rfl⟩
 obtain ⟨z7, hz7⟩ : ∃ z, z = Ytc a1.data.toList := ⟨_, rfl⟩
 obtain ⟨z8, hz8⟩ : ∃ z, z = Yqc a1.data.toList := ⟨_, rfl⟩
 obtain ⟨rx, hT⟩ : ∃ rx, Ysd.f a1 s h p ⟨#[]⟩ ⟨#[]⟩ ⟨#[]⟩ false false = some (rx, s, h, p, z4, z5, z6, z7, z8) := by
  refine ⟨ofL (Yoi (Ygb (Yud a1.data.toList))), ?_⟩
  unfold Ysd.f
  rw [if_pos hs, hz4, hz5, hz6, hz7, hz8]
  rfl
 rw [← hz4, ← hz5, ← hz6, ← hz7, ← hz8]
 have HT := Ya.mk hT
 clear hT hE hz4 hz5 hz6 hz7 hz8 hs
 have hbkA := heap_alloc_new w (.cells (uc s h p o3 o4 o5 o6 o7) 25)
 have hbk := Yn hbkA (.cells urlZ 25)
 have HBA := Ya.mk ((Below.refl w.heap.size w).alloc (Nat.le_refl _) (.cells (uc s h p o3 o4 o5 o6 o7) 25))
 have hZ := Ya.mk (HBA.out.alloc HBA.out.size (.cells urlZ 25))
 have zP := Ya.mk (heap_alloc_new (w.alloc (.cells (uc s h p o3 o4 o5 o6 o7) 25)) (.cells urlZ 25))
 rw [Ybh] at zP
 have uR := Ya.mk (IsS53.new w ((w.alloc (.cells (uc s h p o3 o4 o5 o6 o7) 25)).alloc (.cells urlZ 25)) a1 s h p ⟨#[]⟩ ⟨#[]⟩ ⟨#[]⟩ false false hZ.out)
 have tS := Ya.mk (Yn zP.out (.cells #[.string a1, .string s, .string h, .int .i64 p, .string ⟨#[]⟩, .string ⟨#[]⟩, .string ⟨#[]⟩, .bool false, .bool false] 53))
 have eK := Ya.mk (hZ.out.alloc hZ.out.size (.cells #[.string a1, .string s, .string h, .int .i64 p, .string ⟨#[]⟩, .string ⟨#[]⟩, .string ⟨#[]⟩, .bool false, .bool false] 53))
 rw [Ybh, Ybh] at uR
 obtain ⟨cW, cR, cV, _⟩ := Yka hbk
 clear hbk hbkA HBA
 go_enter Tryz.func17, Tryz.ntmps17
 go_wp2_with fail
 clear cW cR cV
 refine (Ysd.calls (w.heap.size + 1 + 1) _ _ _ _ _ _ _ _ _ _ _ _ _ _ _ _ _ _ w _ HE.out uR.out eK.out HT.out).mono ?_
 rintro e w5 ⟨rfl, hix, hbx, hkx⟩
 have eA := Ya.mk (Yzl tS.out hkx Zk)
 have cK := Ya.mk hbx
 have hq1 := Yjc hix.1
 have cN := Ykc hix.1
 have hq3 := Ymc hix.1
 have hq4 := Ygc hix.1
 have hq5 := Yic hix.1
 have hq6 := Ycc hix.1
 have hq7 := Yhc hix.1
 have hq8 := Yec hix.1
 clear hix hbx hkx tS eK uR hZ zP
 go_wp2_with ((with_reducible refine Ydb (t := 25) (p := 4) rfl ?_); refine wpList_store_row rfl 25 (.tmp 4) (.tmp 22) rfl (w.heap.size + 1) (uc s h p z4 z5 z6 z7 z8) rfl rfl 25 _ eA.out bG rfl (Yrb _ _ _ _ _ _ _ _) ?_)
 refine bodyPost_ret (results_cell_row rfl _ _ (w.heap.size + 1) 25 (uc s h p z4 z5 z6 z7 z8) (0, 0) _ rfl (setRow_heap _ _ _ _ _ _ eA.out) bQ rfl bG) rfl ?_
 exact ⟨rfl, below_setRow cK.out Zk _⟩
end Go.Proofs.YtnmglnglbdpjjaaGreatDoor.X
