/- UrlParses: what a call of it does. -/
import Derived.Test.YtnmglnglbdpjjaaGreatDoorUaZq
import Derived.Test.YtnmglnglbdpjjaaGreatDoorUaRow
import Derived.Test.YtnmglnglbdpjjaaGreatDoorUaX2
namespace Go.Proofs.YtnmglnglbdpjjaaGreatDoor.X
open Go.RowKit Go.Lib Go.Shelf Go.Proofs.YtnmglnglbdpjjaaGreatDoorW.PrintWords Go.Proofs.YtnmglnglbdpjjaaGreatDoorW.PrintLast Go.Proofs.YtnmglnglbdpjjaaGreatDoorW.PrintMore
set_option linter.unusedVariables false
set_option linter.unusedSimpArgs false
theorem eqSame (d : Nat) (w : World) (u1 u2 : ByteArray) (u3 : Int) (u4 u5 u6 : ByteArray) (u7 u8 : Bool) : (Op.equalIn (d + 2) 25 (.agg #[.string u1, .string u2, .int .i64 u3, .string u4, .string u5, .string u6, .bool u7, .bool u8]) (.agg #[.string u1, .string u2, .int .i64 u3, .string u4, .string u5, .string u6, .bool u7, .bool u8])).run Tryz.prog w = .ok true w := by
 rw [eqA25]
 simp only [beq_self_eq_true, Bool.and_self]
attribute [local go_sem high] eqSame
theorem aliveAt_60 : aliveAt 60 := ⟨by kernel_rfl, by kernel_rfl⟩
set_option maxHeartbeats 8000000 in
set_option maxRecDepth 100000 in
theorem urlParses_long (k : Nat) (a0 : ByteArray) (w : World) (hE : EnvOk w) (hl : cringlelaw04_long.f a0 = some true) (ha : aliveAt k) :
  Calls Tryz.prog 3 #[.string a0] w fun e w' => e = .returned (.bool true) ∧ Below w.heap.size w w' := by
 have HE := Aside0.mk hE
 have HL := Aside0.mk hl
 have HA := Aside0.mk ha
 clear hE hl ha
 go_enter Tryz.func3, Tryz.ntmps3
 go_wp2_with fail
 refine (cringlelaw04_long.calls a0 true _ HE.out HL.out).mono ?_
 rintro e w1 ⟨rfl, hd1⟩
 have HB1 := Aside0.mk hd1.below
 clear hd1
 go_wp2_with fail
 refine (alive_calls k _ (HE.out.below HB1.out) HA.out).mono ?_
 rintro e w2 ⟨rfl, hb⟩
 have HB2 := Aside0.mk (HB1.out.trans (hb.mono HB1.out.size))
 clear hb
 go_wp2_with fail
 go_ret
 exact ⟨rfl, HB2.out⟩
set_option maxHeartbeats 8000000 in
set_option maxRecDepth 100000 in
theorem urlParses_short (k : Nat) (a0 : ByteArray) (u1 u2 : ByteArray) (u3 : Int) (u4 u5 u6 : ByteArray) (u7 u8 : Bool) (u9 : Int) (w : World) (hE : EnvOk w) (hl : cringlelaw04_long.f a0 = some false) (ha : aliveAt k) (hs : a0.size ≤ 100000000)
  (hp : url_Parse.f k a0 = some (u1, u2, u3, u4, u5, u6, u7, u8, u9)) (hr : parseR a0.data.toList = (u1, u2, u3, u4, u5, u6, u7, u8, u9)) :
  Calls Tryz.prog 3 #[.string a0] w fun e w' => e = .returned (.bool true) ∧ Below w.heap.size w w' := by
 have HE := Aside0.mk hE
 have HL := Aside0.mk hl
 have HA := Aside0.mk ha
 have HP := Aside0.mk hp
 have HR := Aside0.mk hr
 have HS := Aside0.mk hs
 have hu25 := Tryz.underlying25
 have hi25 : (Tryz.prog.info? 25).map (·.size) = some 8 := by kernel_rfl
 clear hE hl ha hp hr hs
 go_enter Tryz.func3, Tryz.ntmps3
 go_wp2_with fail
 refine (cringlelaw04_long.calls a0 false _ HE.out HL.out).mono ?_
 rintro e w1 ⟨rfl, hd1⟩
 have HB1 := Aside0.mk hd1.below
 clear hd1
 go_wp2_with fail
 refine (url_Parse.calls k a0 _ _ _ _ _ _ _ _ _ _ (HE.out.below HB1.out) HP.out).mono ?_
 rintro e w3 ⟨rfl, hb⟩
 have HB3 := Aside0.mk (HB1.out.trans (hb.mono HB1.out.size))
 have HZ := Aside0.mk (heap_alloc_new w3 (.cells urlZ 25))
 have HBZ := Aside0.mk (HB3.out.alloc HB3.out.size (.cells urlZ 25))
 have HG := Aside0.mk HB3.out.size
 clear hb
 go_wp2_with ((with_reducible refine gate_store (t := 25) (p := 3) rfl ?_); refine wpList_store_row rfl 25 (.tmp 3) (.tmp 13) rfl w3.heap.size (uc u1 u2 u3 u4 u5 u6 u7 u8) rfl rfl 25 _ HZ.out hi25 rfl (url_one _ _ _ _ _ _ _ _) ?_; have hbk := setRow_heap _ _ _ (uc u1 u2 u3 u4 u5 u6 u7 u8) _ _ HZ.out; have HBX := Aside0.mk (below_setRow HBZ.out HG.out (uc u1 u2 u3 u4 u5 u6 u7 u8)); generalize (w3.alloc (.cells urlZ 25)).setRow w3.heap.size (uc u1 u2 u3 u4 u5 u6 u7 u8) = w4 at hbk HBX ⊢; have BK4 := Aside0.mk hbk; have HB4 := Aside0.mk HBX.out; clear hbk HBX)
 refine (rparse_calls a0 _ _ _ _ _ _ _ _ _ _ (HE.out.below HB4.out) HS.out HR.out).mono ?_
 rintro e w5 ⟨rfl, hb⟩
 have HB5 := Aside0.mk (HB4.out.trans (hb.mono HB4.out.size))
 have BK5 := Aside0.mk (blk_bel BK4.out hb)
 have HLT := Aside0.mk (show w3.heap.size < w5.heap.size from (Array.getElem?_eq_some_iff.1 BK5.out).1)
 have HZ5 := Aside0.mk (heap_alloc_new w5 (.cells urlZ 25))
 have HBZ5 := Aside0.mk (HB5.out.alloc HB5.out.size (.cells urlZ 25))
 have HG5 := Aside0.mk HB5.out.size
 have BK5a := Aside0.mk (blk_alloc BK5.out (.cells urlZ 25))
 clear hb
 go_wp2_with ((with_reducible refine gate_store (t := 25) (p := 5) rfl ?_); refine wpList_store_row rfl 25 (.tmp 5) (.tmp 18) rfl w5.heap.size (uc u1 u2 u3 u4 u5 u6 u7 u8) rfl rfl 25 _ HZ5.out hi25 rfl (url_one _ _ _ _ _ _ _ _) ?_; have hbk := setRow_heap _ _ _ (uc u1 u2 u3 u4 u5 u6 u7 u8) _ _ HZ5.out; have hbk4 := (setRow_other (w5.alloc (.cells urlZ 25)) w5.heap.size w3.heap.size (uc u1 u2 u3 u4 u5 u6 u7 u8) (Nat.ne_of_lt HLT.out)).trans BK5a.out; have HBX := Aside0.mk (below_setRow HBZ5.out HG5.out (uc u1 u2 u3 u4 u5 u6 u7 u8)); generalize (w5.alloc (.cells urlZ 25)).setRow w5.heap.size (uc u1 u2 u3 u4 u5 u6 u7 u8) = w6 at hbk hbk4 HBX ⊢; have HB6 := Aside0.mk HBX.out; clear HBX; obtain ⟨hc0, hc1, hc2, hc3, hc4, hc5, hc6, hc7⟩ := uc_cells hbk; obtain ⟨hd0, hd1, hd2, hd3, hd4, hd5, hd6, hd7⟩ := uc_cells hbk4; clear hbk hbk4)
 refine (alive_calls k _ (HE.out.below HB6.out) HA.out).mono ?_
 rintro e w8 ⟨rfl, hb⟩
 have HB8 := Aside0.mk (HB6.out.trans (hb.mono HB6.out.size))
 clear hb
 go_wp2_with fail
 go_ret
 exact ⟨rfl, HB8.out⟩
theorem urlParses_walk (a0 : ByteArray) (w : World) (hE : EnvOk w) (w0 : a0.size ≤ 140737488351232) :
  Calls Tryz.prog 3 #[.string a0] w fun e w' => e = .returned (.bool true) ∧ Below w.heap.size w w' := by
 by_cases hl : (a0.size : Int) > 2200
 ·exact urlParses_long 60 a0 w hE (by unfold cringlelaw04_long.f; rw [decide_eq_true hl]) aliveAt_60
 ·obtain ⟨k1, h1⟩ := parse_f a0 (by omega)
  exact urlParses_short (k1 + 60) a0 _ _ _ _ _ _ _ _ _ w hE (by unfold cringlelaw04_long.f; rw [decide_eq_false hl]) (aliveAt_60.more (by omega)) (by omega) (h1 _ (by omega)) rfl
end Go.Proofs.YtnmglnglbdpjjaaGreatDoor.X
