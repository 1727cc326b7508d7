/- UrlCleaned: what a call of it does, where Clean and Parse do what they should. -/
import Derived.Test.YtenikjnnpbgaoaaDoorH5
import Derived.Test.YtenikjnnpbgaoaaDoorPq
namespace Go.Proofs.YtenikjnnpbgaoaaDoor.X
open Go.RowKit Go.Lib Go.Shelf Go.Proofs.YtenikjnnpbgaoaaDoorW.PrintWords Go.Proofs.YtenikjnnpbgaoaaDoorW.PrintLast Go.Proofs.YtenikjnnpbgaoaaDoorW.PrintMore
set_option linter.unusedVariables false
set_option linter.unusedSimpArgs false

abbrev urlCells (u1 u2 : ByteArray) (u3 : Int) (u4 u5 u6 : ByteArray) (u7 u8 : Bool) : Array Value := #[.string u1, .string u2, .int .i64 u3, .string u4, .string u5, .string u6, .bool u7, .bool u8]
theorem eqSame (d : Nat) (w : World) (u1 u2 : ByteArray) (u3 : Int) (u4 u5 u6 : ByteArray) (u7 u8 : Bool) : (Op.equalIn (d + 2) 26 (.agg #[.string u1, .string u2, .int .i64 u3, .string u4, .string u5, .string u6, .bool u7, .bool u8]) (.agg #[.string u1, .string u2, .int .i64 u3, .string u4, .string u5, .string u6, .bool u7, .bool u8])).run Tryd.prog w = .ok true w := by
  rw [eqA26]
  simp only [beq_self_eq_true, Bool.and_self]
attribute [local go_sem high] eqSame

set_option maxHeartbeats 8000000 in
set_option maxRecDepth 100000 in
theorem urlCleaned_long (k : Nat) (a0 : ByteArray) (w : World) (hE : EnvOk w) (hl : cringlelaw04_long.f a0 = some true) (ha : aliveAt k) :
    Calls Tryd.prog 4 #[.string a0] w fun e w' => e = .returned (.bool true) ∧ Below w.heap.size w w' := by
  have HE := Aside0.mk hE
  have HL := Aside0.mk hl
  have HA := Aside0.mk ha
  clear hE hl ha
  go_enter Tryd.func4, Tryd.ntmps4
  go_wp2_with fail
  refine (cringlelaw04_long.calls a0 true _ HE.out HL.out).mono ?_
  rintro e w1 ⟨rfl, hd1⟩
  have HB1 := Aside0.mk hd1.below
  clear hd1
  go_wp2_with fail
  refine (alive_calls k _ (HE.out.below HB1.out) HA.out).mono ?_
  rintro e w2 ⟨rfl, hb⟩
  have HB2 := Aside0.mk (HB1.out.trans (hb.mono HB1.out.size))
  clear hb
  go_wp2_with fail
  go_ret
  exact ⟨rfl, HB2.out⟩

set_option maxHeartbeats 8000000 in
set_option maxRecDepth 100000 in
theorem urlCleaned_short (k : Nat) (a0 c : ByteArray) (u1 u2 : ByteArray) (u3 : Int) (u4 u5 u6 : ByteArray) (u7 u8 : Bool) (u9 : Int) (w : World) (hE : EnvOk w) (hl : cringlelaw04_long.f a0 = some false) (ha : aliveAt k)
    (hc : url_Clean.f a0 = some c) (hcc : url_Clean.f c = some c) (hp : url_Parse.f k a0 = some (u1, u2, u3, u4, u5, u6, u7, u8, u9)) (hpc : url_Parse.f k c = some (u1, u2, u3, u4, u5, u6, u7, u8, u9)) (hz : c.size ≤ a0.size) :
    Calls Tryd.prog 4 #[.string a0] w fun e w' => e = .returned (.bool true) ∧ Below w.heap.size w w' := by
  have HE := Aside0.mk hE
  have HL := Aside0.mk hl
  have HA := Aside0.mk ha
  have HC := Aside0.mk hc
  have HCC := Aside0.mk hcc
  have HP := Aside0.mk hp
  have HPC := Aside0.mk hpc
  have hu26 := Tryd.underlying26
  have hi26 : (Tryd.prog.info? 26).map (·.size) = some 8 := by kernel_rfl
  have hzd : decide ((c.size : Int) ≤ (a0.size : Int)) = true := decide_eq_true (by omega)
  have hzn : decide (c.size ≤ a0.size) = true := decide_eq_true hz
  clear hE hl ha hc hcc hp hpc
  go_enter Tryd.func4, Tryd.ntmps4
  go_wp2_with fail
  refine (cringlelaw04_long.calls a0 false _ HE.out HL.out).mono ?_
  rintro e w1 ⟨rfl, hd1⟩
  have HB1 := Aside0.mk hd1.below
  clear hd1
  go_wp2_with fail
  refine (url_Clean.calls a0 c _ (HE.out.below HB1.out) HC.out).mono ?_
  rintro e w2 ⟨rfl, hb⟩
  have HB2 := Aside0.mk (HB1.out.trans (hb.mono HB1.out.size))
  clear hb
  go_wp2_with fail
  refine (url_Parse.calls k a0 _ _ _ _ _ _ _ _ _ _ (HE.out.below HB2.out) HP.out).mono ?_
  rintro e w3 ⟨rfl, hb⟩
  have HB3 := Aside0.mk (HB2.out.trans (hb.mono HB2.out.size))
  have HZ := Aside0.mk (heap_alloc_new w3 (.cells urlZ 26))
  have HBZ := Aside0.mk (HB3.out.alloc HB3.out.size (.cells urlZ 26))
  have HG := Aside0.mk HB3.out.size
  clear hb
  go_wp2_with (refine wpList_store_row rfl 26 (.tmp 4) (.tmp 16) rfl w3.heap.size (urlCells u1 u2 u3 u4 u5 u6 u7 u8) rfl rfl 26 _ HZ.out hi26 rfl (url_one _ _ _ _ _ _ _ _) ?_
               have hbk := setRow_heap _ _ _ (urlCells u1 u2 u3 u4 u5 u6 u7 u8) _ _ HZ.out
               have HBX := Aside0.mk (below_setRow HBZ.out HG.out (urlCells u1 u2 u3 u4 u5 u6 u7 u8))
               generalize (w3.alloc (.cells urlZ 26)).setRow w3.heap.size (urlCells u1 u2 u3 u4 u5 u6 u7 u8) = w4 at hbk HBX ⊢
               have BK4 := Aside0.mk hbk
               have HB4 := Aside0.mk HBX.out
               clear hbk HBX)
  refine (url_Parse.calls k c _ _ _ _ _ _ _ _ _ _ (HE.out.below HB4.out) HPC.out).mono ?_
  rintro e w5 ⟨rfl, hb⟩
  have HB5 := Aside0.mk (HB4.out.trans (hb.mono HB4.out.size))
  have BK5 := Aside0.mk (blk_bel BK4.out hb)
  have HLT := Aside0.mk (show w3.heap.size < w5.heap.size from (Array.getElem?_eq_some_iff.1 BK5.out).1)
  have HZ5 := Aside0.mk (heap_alloc_new w5 (.cells urlZ 26))
  have HBZ5 := Aside0.mk (HB5.out.alloc HB5.out.size (.cells urlZ 26))
  have HG5 := Aside0.mk HB5.out.size
  have BK5a := Aside0.mk (blk_alloc BK5.out (.cells urlZ 26))
  clear hb
  go_wp2_with (refine wpList_store_row rfl 26 (.tmp 6) (.tmp 21) rfl w5.heap.size (urlCells u1 u2 u3 u4 u5 u6 u7 u8) rfl rfl 26 _ HZ5.out hi26 rfl (url_one _ _ _ _ _ _ _ _) ?_
               have hbk := setRow_heap _ _ _ (urlCells u1 u2 u3 u4 u5 u6 u7 u8) _ _ HZ5.out
               have hbk4 := (setRow_other (w5.alloc (.cells urlZ 26)) w5.heap.size w3.heap.size (urlCells u1 u2 u3 u4 u5 u6 u7 u8) (Nat.ne_of_lt HLT.out)).trans BK5a.out
               have HBX := Aside0.mk (below_setRow HBZ5.out HG5.out (urlCells u1 u2 u3 u4 u5 u6 u7 u8))
               generalize (w5.alloc (.cells urlZ 26)).setRow w5.heap.size (urlCells u1 u2 u3 u4 u5 u6 u7 u8) = w6 at hbk hbk4 HBX ⊢
               have BK6 := Aside0.mk hbk
               have BK64 := Aside0.mk hbk4
               have HB6 := Aside0.mk HBX.out
               clear hbk hbk4 HBX)
  refine (url_Clean.calls c c _ (HE.out.below HB6.out) HCC.out).mono ?_
  rintro e w7 ⟨rfl, hb⟩
  have HB7 := Aside0.mk (HB6.out.trans (hb.mono HB6.out.size))
  have hk6 := blk_bel BK6.out hb
  have hk4 := blk_bel BK64.out hb
  have hc0 := (blk_cell hk6 0).trans rfl
  have hc1 := (blk_cell hk6 1).trans rfl
  have hc2 := (blk_cell hk6 2).trans rfl
  have hc3 := (blk_cell hk6 3).trans rfl
  have hc4 := (blk_cell hk6 4).trans rfl
  have hc5 := (blk_cell hk6 5).trans rfl
  have hc6 := (blk_cell hk6 6).trans rfl
  have hc7 := (blk_cell hk6 7).trans rfl
  have hd0 := (blk_cell hk4 0).trans rfl
  have hd1 := (blk_cell hk4 1).trans rfl
  have hd2 := (blk_cell hk4 2).trans rfl
  have hd3 := (blk_cell hk4 3).trans rfl
  have hd4 := (blk_cell hk4 4).trans rfl
  have hd5 := (blk_cell hk4 5).trans rfl
  have hd6 := (blk_cell hk4 6).trans rfl
  have hd7 := (blk_cell hk4 7).trans rfl
  clear hb hk6 hk4
  go_wp2_with fail
  refine (alive_calls k _ (HE.out.below HB7.out) HA.out).mono ?_
  rintro e w8 ⟨rfl, hb⟩
  have HB8 := Aside0.mk (HB7.out.trans (hb.mono HB7.out.size))
  clear hb
  go_wp2_with fail
  go_ret
  exact ⟨rfl, HB8.out⟩
end Go.Proofs.YtenikjnnpbgaoaaDoor.X
