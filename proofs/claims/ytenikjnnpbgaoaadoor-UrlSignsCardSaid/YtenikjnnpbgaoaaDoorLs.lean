/- UrlSigns: what a call of it does, where Parse and String do what they should. -/
import Derived.Test.YtenikjnnpbgaoaaDoorH5
import Derived.Test.YtenikjnnpbgaoaaDoorPq
namespace Go.Proofs.YtenikjnnpbgaoaaDoor.X
open Go.RowKit Go.Lib Go.Shelf Go.Proofs.YtenikjnnpbgaoaaDoorW.PrintWords Go.Proofs.YtenikjnnpbgaoaaDoorW.PrintLast Go.Proofs.YtenikjnnpbgaoaaDoorW.PrintMore
set_option linter.unusedVariables false
set_option linter.unusedSimpArgs false

abbrev urlCells (u1 u2 : ByteArray) (u3 : Int) (u4 u5 u6 : ByteArray) (u7 u8 : Bool) : Array Value := #[.string u1, .string u2, .int .i64 u3, .string u4, .string u5, .string u6, .bool u7, .bool u8]

set_option maxHeartbeats 8000000 in
set_option maxRecDepth 100000 in
theorem urlSigns_long (k : Nat) (a0 : ByteArray) (w : World) (hE : EnvOk w) (hl : cringlelaw04_long.f a0 = some true) (ha : aliveAt k) :
    Calls Tryd.prog 5 #[.string a0] w fun e w' => e = .returned (.bool true) ∧ Below w.heap.size w w' := by
  have HE := Aside0.mk hE
  have HL := Aside0.mk hl
  have HA := Aside0.mk ha
  clear hE hl ha
  go_enter Tryd.func5, Tryd.ntmps5
  go_wp2_with fail
  refine (cringlelaw04_long.calls a0 true _ HE.out HL.out).mono ?_
  rintro e w1 ⟨rfl, hd1⟩
  have HB1 := Aside0.mk hd1.below
  clear hd1
  go_wp2_with fail
  refine (alive_calls k _ (HE.out.below HB1.out) HA.out).mono ?_
  rintro e w2 ⟨rfl, hb⟩
  have HB2 := Aside0.mk (HB1.out.trans (hb.mono HB1.out.size))
  clear hb
  go_wp2_with fail
  go_ret
  exact ⟨rfl, HB2.out⟩

set_option maxHeartbeats 8000000 in
set_option maxRecDepth 100000 in
theorem urlSigns_err (k : Nat) (a0 : ByteArray) (u1 u2 : ByteArray) (u3 : Int) (u4 u5 u6 : ByteArray) (u7 u8 : Bool) (u9 : Int) (w : World) (hE : EnvOk w) (hl : cringlelaw04_long.f a0 = some false) (ha : aliveAt k)
    (hp : url_Parse.f k a0 = some (u1, u2, u3, u4, u5, u6, u7, u8, u9)) (hne : ¬ u9 = 0) :
    Calls Tryd.prog 5 #[.string a0] w fun e w' => e = .returned (.bool true) ∧ Below w.heap.size w w' := by
  have HE := Aside0.mk hE
  have HL := Aside0.mk hl
  have HA := Aside0.mk ha
  have HP := Aside0.mk hp
  have hd : decide (u9 = 0) = false := decide_eq_false hne
  have hu26 := Tryd.underlying26
  have hi26 : (Tryd.prog.info? 26).map (·.size) = some 8 := by kernel_rfl
  clear hE hl ha hp
  go_enter Tryd.func5, Tryd.ntmps5
  go_wp2_with fail
  refine (cringlelaw04_long.calls a0 false _ HE.out HL.out).mono ?_
  rintro e w1 ⟨rfl, hd1⟩
  have HB1 := Aside0.mk hd1.below
  clear hd1
  go_wp2_with fail
  refine (url_Parse.calls k a0 _ _ _ _ _ _ _ _ _ _ (HE.out.below HB1.out) HP.out).mono ?_
  rintro e w3 ⟨rfl, hb⟩
  have HB3 := Aside0.mk (HB1.out.trans (hb.mono HB1.out.size))
  have HZ := Aside0.mk (heap_alloc_new w3 (.cells urlZ 26))
  have HBZ := Aside0.mk (HB3.out.alloc HB3.out.size (.cells urlZ 26))
  have HG := Aside0.mk HB3.out.size
  clear hb
  go_wp2_with (refine wpList_store_row rfl 26 (.tmp 3) (.tmp 13) rfl w3.heap.size (urlCells u1 u2 u3 u4 u5 u6 u7 u8) rfl rfl 26 _ HZ.out hi26 rfl (url_one _ _ _ _ _ _ _ _) ?_
               have HBX := Aside0.mk (below_setRow HBZ.out HG.out (urlCells u1 u2 u3 u4 u5 u6 u7 u8))
               generalize (w3.alloc (.cells urlZ 26)).setRow w3.heap.size (urlCells u1 u2 u3 u4 u5 u6 u7 u8) = w4 at HBX ⊢
               have HB4 := Aside0.mk HBX.out
               clear HBX)
  refine (alive_calls k _ (HE.out.below HB4.out) HA.out).mono ?_
  rintro e w8 ⟨rfl, hb⟩
  have HB8 := Aside0.mk (HB4.out.trans (hb.mono HB4.out.size))
  clear hb
  go_wp2_with fail
  go_ret
  exact ⟨rfl, HB8.out⟩

set_option maxHeartbeats 8000000 in
set_option maxRecDepth 100000 in
theorem urlSigns_ok (k : Nat) (a0 t : ByteArray) (q1 q2 : ByteArray) (q3 : Int) (q4 q5 q6 : ByteArray) (q7 q8 : Bool) (w : World) (hE : EnvOk w) (hl : cringlelaw04_long.f a0 = some false) (ha : aliveAt k)
    (hp : url_Parse.f k a0 = some (q1, q2, q3, q4, q5, q6, q7, q8, 0)) (hst : url_String.f k q1 q2 q3 q4 q5 q6 q7 q8 = some t)
    (h1 : q1 = ⟨#[104, 116, 116, 112]⟩ ∨ q1 = ⟨#[104, 116, 116, 112, 115]⟩) (h2 : q2.toList ≠ []) (h3 : 0 ≤ q3) (h4 : q3 ≤ 65535) (hsafe : ∀ b ∈ t.data.toList, 33 ≤ b.toNat ∧ b.toNat ≤ 126) (hts : t.size ≤ 1000000000) :
    Calls Tryd.prog 5 #[.string a0] w fun e w' => e = .returned (.bool true) ∧ Below w.heap.size w w' := by
  have HE := Aside0.mk hE
  have HL := Aside0.mk hl
  have HA := Aside0.mk ha
  have HP := Aside0.mk hp
  have HST := Aside0.mk hst
  have HSAFE := Aside0.mk hsafe
  have H1 := Aside0.mk h1
  have H2 := Aside0.mk h2
  have H3 := Aside0.mk (And.intro h3 h4)
  have hu26 := Tryd.underlying26
  have hi26 : (Tryd.prog.info? 26).map (·.size) = some 8 := by kernel_rfl
  clear hE hl ha hp hst hsafe h1 h2 h3 h4
  go_enter Tryd.func5, Tryd.ntmps5
  go_wp2_with fail
  refine (cringlelaw04_long.calls a0 false _ HE.out HL.out).mono ?_
  rintro e w1 ⟨rfl, hd1⟩
  have HB1 := Aside0.mk hd1.below
  clear hd1
  go_wp2_with fail
  refine (url_Parse.calls k a0 _ _ _ _ _ _ _ _ _ _ (HE.out.below HB1.out) HP.out).mono ?_
  rintro e w3 ⟨rfl, hb⟩
  have HB3 := Aside0.mk (HB1.out.trans (hb.mono HB1.out.size))
  have HZ := Aside0.mk (heap_alloc_new w3 (.cells urlZ 26))
  have HBZ := Aside0.mk (HB3.out.alloc HB3.out.size (.cells urlZ 26))
  have HG := Aside0.mk HB3.out.size
  clear hb
  go_wp2_with (refine wpList_store_row rfl 26 (.tmp 3) (.tmp 13) rfl w3.heap.size (urlCells q1 q2 q3 q4 q5 q6 q7 q8) rfl rfl 26 _ HZ.out hi26 rfl (url_one _ _ _ _ _ _ _ _) ?_
               have hbk := setRow_heap _ _ _ (urlCells q1 q2 q3 q4 q5 q6 q7 q8) _ _ HZ.out
               have HBX := Aside0.mk (below_setRow HBZ.out HG.out (urlCells q1 q2 q3 q4 q5 q6 q7 q8))
               generalize (w3.alloc (.cells urlZ 26)).setRow w3.heap.size (urlCells q1 q2 q3 q4 q5 q6 q7 q8) = w4 at hbk HBX ⊢
               have BK4 := Aside0.mk hbk
               have HB4 := Aside0.mk HBX.out
               clear HBX
               have hc0 := (blk_cell hbk 0).trans rfl
               have hc1 := (blk_cell hbk 1).trans rfl
               have hc2 := (blk_cell hbk 2).trans rfl
               have hc3 := (blk_cell hbk 3).trans rfl
               have hc4 := (blk_cell hbk 4).trans rfl
               have hc5 := (blk_cell hbk 5).trans rfl
               have hc6 := (blk_cell hbk 6).trans rfl
               have hc7 := (blk_cell hbk 7).trans rfl
               clear hbk)
  clear hc0 hc1 hc2 hc3 hc4 hc5 hc6 hc7
  refine (url_String.calls k _ _ _ _ _ _ _ _ _ _ (HE.out.below HB4.out) HST.out).mono ?_
  rintro e w5 ⟨rfl, hb⟩
  have HB5 := Aside0.mk (HB4.out.trans (hb.mono HB4.out.size))
  have BK5 := Aside0.mk (blk_bel BK4.out hb)
  clear hb
  go_wp2_with fail
  go_loopg [6, 22] t.size (fun g _ v22 wx => ∃ (i : Nat), i + g ≤ t.size ∧ t.size ≤ i + g ∧ v22 = .int .i64 (i : Int) ∧ Aside0 (wx.heap[w3.heap.size]? = some (.cells (urlCells q1 q2 q3 q4 q5 q6 q7 q8) 26 (0, 0))) ∧ Aside0 (Below w.heap.size w wx))
  case atStart => exact ⟨0, by omega, by omega, rfl, BK5, HB5⟩
  case round =>
    obtain ⟨i, hi1, hi2, rfl, BK, HB⟩ := hrel
    cases gk with
    | zero =>
      obtain rfl : i = t.size := by omega
      have hlt : decide ((t.size : Int) < (t.size : Int)) = false := decide_eq_false (by omega)
      have hc0 := (blk_cell BK.out 0).trans rfl
      have hc1 := (blk_cell BK.out 1).trans rfl
      have hc2 := (blk_cell BK.out 2).trans rfl
      have h2a : ¬ q2.toList = [] := H2.out
      have h2b : (q2.toList == ([] : List UInt8)) = false := by rw [beq_eq_false_iff_ne]; exact h2a
      have h2c : (q2.toList != ([] : List UInt8)) = true := by rw [bne_iff_ne]; exact h2a
      have h3a : decide ((0 : Int) ≤ q3) = true := decide_eq_true H3.out.1
      have h3b : decide (q3 ≤ 65535) = true := decide_eq_true H3.out.2
      rcases H1.out with rfl | rfl
      · go_wp2_with fail
        refine (alive_calls k _ (HE.out.below HB.out) HA.out).mono ?_
        rintro e w8 ⟨rfl, hb⟩
        have HB8 := Aside0.mk (HB.out.trans (hb.mono HB.out.size))
        clear hb
        go_wp2_with fail
        go_ret
        exact ⟨rfl, HB8.out⟩
      · go_wp2_with fail
        refine (alive_calls k _ (HE.out.below HB.out) HA.out).mono ?_
        rintro e w8 ⟨rfl, hb⟩
        have HB8 := Aside0.mk (HB.out.trans (hb.mono HB.out.size))
        clear hb
        go_wp2_with fail
        go_ret
        exact ⟨rfl, HB8.out⟩
    | succ g =>
      have hi : i < t.size := by omega
      have hlt : decide ((i : Int) < (t.size : Int)) = true := decide_eq_true (by omega)
      have hg := get!_at t i hi
      have hs := HSAFE.out (t.get! i) (by
        have := get!_data t i hi
        exact List.mem_of_getElem? this)
      obtain ⟨b, hb⟩ : ∃ b, b = t.get! i := ⟨_, rfl⟩
      rw [← hb] at hg hs
      have hx : (t[i]'hi).toNat = b.toNat := by rw [hg]
      clear hb hg
      have d1 : decide ((b.toNat : Int) < 33) = false := decide_eq_false (by omega)
      have d2 : decide ((126 : Int) < (b.toNat : Int)) = false := decide_eq_false (by omega)
      go_wp2_with fail
      go_roundg g
      case measure => omega
      case rel => exact ⟨i + 1, by omega, by omega, by go_num, BK, HB⟩
end Go.Proofs.YtenikjnnpbgaoaaDoor.X
