/- url.Tail: what stands behind a place. -/
import Derived.Test.YtnmglnglbdpjjaaGreatDoorUkWords
import Derived.Test.YtnmglnglbdpjjaaGreatDoorUkZl
namespace Go.Proofs.YtnmglnglbdpjjaaGreatDoor.X
open Go.RowKit Go.Lib Go.Shelf Go.Yw.PrintWords Go.Yw.PrintLast Go.Yw.PrintMore
set_option linter.unusedVariables false
set_option linter.unusedSimpArgs false
set_option maxHeartbeats 8000000 in
set_option maxRecDepth 100000 in
theorem Yxh (s h : ByteArray) (p : Int) (o3 o4 o5 : ByteArray) (o6 o7 : Bool) (a1 : ByteArray) (w : World) (hE : EnvOk w) (hs : a1.size ≤ 100000000) :
  Calls Tryz.prog 17 #[.agg (uc s h p o3 o4 o5 o6 o7), .string a1] w fun e w' => e = .returned (.agg (uc s h p (Ymd a1.data.toList) (Yhc a1.data.toList) (Ypc a1.data.toList) (Yid a1.data.toList) (Yfd a1.data.toList))) ∧ Below w.heap.size w w' := by
 have HE := Ya.mk hE
 have cB := Tryz.underlying25
 have bX : (Tryz.prog.info? 25).map (·.size) = some 8 := by kernel_rfl
 obtain ⟨z4, hz4⟩ : ∃ z, z = Ymd a1.data.toList := ⟨_, rfl⟩
 obtain ⟨z5, hz5⟩ : ∃ z, z = Yhc a1.data.toList := ⟨_, rfl⟩
 obtain ⟨z6, hz6⟩ : ∃ z, z = Ypc a1.data.toList := ⟨_, rfl⟩
 obtain ⟨z7, hz7⟩ : ∃ z, z = Yid a1.data.toList := ⟨_, rfl⟩
 obtain ⟨z8, hz8⟩ : ∃ z, z = Yfd a1.data.toList := ⟨_, rfl⟩
 obtain ⟨rx, hT⟩ : ∃ rx, Ytd.f a1 s h p ⟨#[]⟩ ⟨#[]⟩ ⟨#[]⟩ false false = some (rx, s, h, p, z4, z5, z6, z7, z8) := by
  refine ⟨ofL (Yni (Yfb (Yfe a1.data.toList))), ?_⟩
  unfold Ytd.f
  rw [if_pos hs, hz4, hz5, hz6, hz7, hz8]
  rfl
 rw [← hz4, ← hz5, ← hz6, ← hz7, ← hz8]
 have HT := Ya.mk hT
 clear hT hE hz4 hz5 hz6 hz7 hz8 hs
 have hbkA := heap_alloc_new w (.cells (uc s h p o3 o4 o5 o6 o7) 25)
 have hbk := Yj hbkA (.cells urlZ 25)
 have HBA := Ya.mk ((Below.refl w.heap.size w).alloc (Nat.le_refl _) (.cells (uc s h p o3 o4 o5 o6 o7) 25))
 have iE := Ya.mk (HBA.out.alloc HBA.out.size (.cells urlZ 25))
 have BZ1 := Ya.mk (heap_alloc_new (w.alloc (.cells (uc s h p o3 o4 o5 o6 o7) 25)) (.cells urlZ 25))
 rw [Ycc] at BZ1
 have vK := Ya.mk (IsS53.new w ((w.alloc (.cells (uc s h p o3 o4 o5 o6 o7) 25)).alloc (.cells urlZ 25)) a1 s h p ⟨#[]⟩ ⟨#[]⟩ ⟨#[]⟩ false false iE.out)
 have uH := Ya.mk (Yj BZ1.out (.cells #[.string a1, .string s, .string h, .int .i64 p, .string ⟨#[]⟩, .string ⟨#[]⟩, .string ⟨#[]⟩, .bool false, .bool false] 53))
 have eM := Ya.mk (iE.out.alloc iE.out.size (.cells #[.string a1, .string s, .string h, .int .i64 p, .string ⟨#[]⟩, .string ⟨#[]⟩, .string ⟨#[]⟩, .bool false, .bool false] 53))
 rw [Ycc, Ycc] at vK
 obtain ⟨bN, bM, bO, _⟩ := Yv hbk
 clear hbk hbkA HBA
 go_enter Tryz.func17, Tryz.ntmps17
 go_wp2_with fail
 clear bN bM bO
 refine (Ytd.calls (w.heap.size + 1 + 1) _ _ _ _ _ _ _ _ _ _ _ _ _ _ _ _ _ _ w _ HE.out vK.out eM.out HT.out).mono ?_
 rintro e w5 ⟨rfl, hix, hbx, hkx⟩
 have eC := Ya.mk (Yrl uH.out hkx Zl)
 have cU := Ya.mk hbx
 have hq1 := Yjc hix.1
 have cV := Ygc hix.1
 have hq3 := Yfc hix.1
 have hq4 := Yac hix.1
 have hq5 := Ydc hix.1
 have hq6 := Yyb hix.1
 have hq7 := Ybc hix.1
 have hq8 := Yxb hix.1
 clear hix hbx hkx uH eM vK iE BZ1
 go_wp2_with ((with_reducible refine Yub (t := 25) (p := 4) rfl ?_); refine wpList_store_row rfl 25 (.tmp 4) (.tmp 22) rfl (w.heap.size + 1) (uc s h p z4 z5 z6 z7 z8) rfl rfl 25 _ eC.out bX rfl (Yvc _ _ _ _ _ _ _ _) ?_)
 refine bodyPost_ret (results_cell_row rfl _ _ (w.heap.size + 1) 25 (uc s h p z4 z5 z6 z7 z8) (0, 0) _ rfl (setRow_heap _ _ _ _ _ _ eC.out) cB rfl bX) rfl ?_
 exact ⟨rfl, below_setRow cU.out Zl _⟩
end Go.Proofs.YtnmglnglbdpjjaaGreatDoor.X
