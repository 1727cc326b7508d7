/- ident.Of: what a call of it gives, of an entry that is read. -/
import Derived.Test.YtihaeeldgimdiaaDoorUiIp
import Derived.Maps.OwnSet
namespace Go.Proofs.YtihaeeldgimdiaaDoor.X
open Go.RowKit Go.Lib Go.Shelf Go.Proofs.YtihaeeldgimdiaaDoorW.PrintWords Go.Proofs.YtihaeeldgimdiaaDoorW.PrintLast Go.Proofs.YtihaeeldgimdiaaDoorW.PrintMore
set_option linter.unusedVariables false
set_option linter.unusedSimpArgs false
abbrev ec (f0 f1 f2 f3 f4 f5 : ByteArray) (f6 : Int) (f7 : Bool) (c0 c1 c2 : ByteArray) (v9 v10 v11 v12 v13 : Value) : Array Value :=
 #[.string f0, .string f1, .string f2, .string f3, .string f4, .string f5, .int .i64 f6, .bool f7, .string c0, .string c1, .string c2, v9, v10, v11, v12, v13]
theorem lists_at {w wx : World} {g t : Nat} {A0 A1 A2 A3 : Option Addr} {c0 c1 c2 c3 : Nat} {l0 l1 l2 l3 : List ByteArray}
  (hb : wx.heap[g]? = some (.cells #[.slice A0 l0.length c0, .slice A1 l1.length c1, .slice A2 l2.length c2, .slice A3 l3.length c3] t (0, 0)))
  (h0 : l0.length ≤ c0 ∧ Kd.C Kd.string w A0 l0.length l0) (h1 : l1.length ≤ c1 ∧ Kd.C Kd.string w A1 l1.length l1) (h2 : l2.length ≤ c2 ∧ Kd.C Kd.string w A2 l2.length l2) (h3 : l3.length ≤ c3 ∧ Kd.C Kd.string w A3 l3.length l3) (i : Nat) (hi : i < 4) :
  ∃ A c, wx.cell? ⟨g, i, none⟩ = some (.slice A (rd_L1 [l0, l1, l2, l3] (i : Int)).length c) ∧ Kd.C Kd.string w A (rd_L1 [l0, l1, l2, l3] (i : Int)).length (rd_L1 [l0, l1, l2, l3] (i : Int)) := by
 rcases i with _ | _ | _ | _ | i
 ·exact ⟨A0, c0, (blk_cell hb 0).trans rfl, h0.2⟩
 ·exact ⟨A1, c1, (blk_cell hb 1).trans rfl, h1.2⟩
 ·exact ⟨A2, c2, (blk_cell hb 2).trans rfl, h2.2⟩
 ·exact ⟨A3, c3, (blk_cell hb 3).trans rfl, h3.2⟩
 ·omega
set_option maxHeartbeats 4000000 in
set_option maxRecDepth 100000 in
theorem of_uid (f0 f1 f2 f3 f4 f5 : ByteArray) (f6 : Int) (f7 : Bool) (c0 c1 c2 : ByteArray) (v9 v10 v11 v12 v13 : Value) (w : World) (h1 : ¬ f1.toList = ([] : List UInt8)) (hz : f1.size ≤ 140737488355328) :
  Calls Tryd.prog 9 #[.agg (ec f0 f1 f2 f3 f4 f5 f6 f7 c0 c1 c2 v9 v10 v11 v12 v13)] w fun e w' => e = .returned (.string ((⟨#[117, 58]⟩ : ByteArray) ++ f1)) ∧ Below w.heap.size w w' := by
 have d1 : (f1.toList != ([] : List UInt8)) = true := bne_iff_ne.2 h1
 have d1e : f1.toList.isEmpty = false := by rw [Bool.eq_false_iff]; exact fun h => h1 (List.isEmpty_iff.1 h)
 have hu30 := Tryd.underlying30
 have BK := Aside0.mk (heap_alloc_new w (.cells (ec f0 f1 f2 f3 f4 f5 f6 f7 c0 c1 c2 v9 v10 v11 v12 v13) 30))
 have HB := Aside0.mk ((Below.refl w.heap.size w).alloc (Nat.le_refl _) (.cells (ec f0 f1 f2 f3 f4 f5 f6 f7 c0 c1 c2 v9 v10 v11 v12 v13) 30))
 have hs : (2 + f1.size ≤ 9223372036854775807) := by omega
 have hs2 : (9223372036854775807 < 2 + f1.size) = False := eq_false (by omega)
 clear h1
 have hc1 := (blk_cell BK.out 1).trans rfl
 go_enter Tryd.func9, Tryd.ntmps9
 go_wp2_with fail
 go_ret
 exact ⟨rfl, HB.out⟩
set_option maxHeartbeats 4000000 in
set_option maxRecDepth 100000 in
theorem of_key (k : Nat) (f0 f1 f2 f3 f4 f5 : ByteArray) (f6 : Int) (f7 : Bool) (c0 c1 c2 : ByteArray) (v9 v10 v11 v12 v13 : Value) (u1 u2 : ByteArray) (u3 : Int) (u4 u5 u6 : ByteArray) (u7 u8 : Bool) (r : ByteArray) (w : World) (hE : EnvOk w) (h1 : f1.toList = ([] : List UInt8))
  (hp : url_Parse.f k f2 = some (u1, u2, u3, u4, u5, u6, u7, u8, 0)) (hk : join_Key.f k u1 u2 u3 u4 u5 u6 u7 u8 = some r) (hz : r.size ≤ 140737488355328) :
  Calls Tryd.prog 9 #[.agg (ec f0 f1 f2 f3 f4 f5 f6 f7 c0 c1 c2 v9 v10 v11 v12 v13)] w fun e w' => e = .returned (.string ((⟨#[108, 58]⟩ : ByteArray) ++ r)) ∧ Below w.heap.size w w' := by
 have d1 : (f1.toList != ([] : List UInt8)) = false := bne_eq_false_iff_eq.2 h1
 have d1e : f1.toList.isEmpty = true := List.isEmpty_iff.2 h1
 have hu30 := Tryd.underlying30
 have BK := Aside0.mk (heap_alloc_new w (.cells (ec f0 f1 f2 f3 f4 f5 f6 f7 c0 c1 c2 v9 v10 v11 v12 v13) 30))
 have HB := Aside0.mk ((Below.refl w.heap.size w).alloc (Nat.le_refl _) (.cells (ec f0 f1 f2 f3 f4 f5 f6 f7 c0 c1 c2 v9 v10 v11 v12 v13) 30))
 have hs : (2 + r.size ≤ 9223372036854775807) := by omega
 have hs2 : (9223372036854775807 < 2 + r.size) = False := eq_false (by omega)
 have HE := Aside0.mk hE
 have HP := Aside0.mk hp
 have HK := Aside0.mk hk
 clear h1 hE hp hk
 have hc1 := (blk_cell BK.out 1).trans rfl
 have hc2 := (blk_cell BK.out 2).trans rfl
 go_enter Tryd.func9, Tryd.ntmps9
 go_wp2_with fail
 clear hc1 hc2
 refine (url_Parse.calls k _ _ _ _ _ _ _ _ _ _ _ (HE.out.below HB.out) HP.out).mono ?_
 rintro e w1 ⟨rfl, hb⟩
 replace HB := Aside0.mk (HB.out.trans (hb.mono HB.out.size))
 clear hb
 have BU := Aside0.mk (heap_alloc_new w1 (.cells #[.string u1, .string u2, .int .i64 u3, .string u4, .string u5, .string u6, .bool u7, .bool u8] 42))
 replace HB := Aside0.mk (HB.out.alloc HB.out.size (.cells #[.string u1, .string u2, .int .i64 u3, .string u4, .string u5, .string u6, .bool u7, .bool u8] 42))
 have hc0 := (blk_cell BU.out 0).trans rfl
 have hc1 := (blk_cell BU.out 1).trans rfl
 have hc2 := (blk_cell BU.out 2).trans rfl
 have hc3 := (blk_cell BU.out 3).trans rfl
 have hc4 := (blk_cell BU.out 4).trans rfl
 have hc5 := (blk_cell BU.out 5).trans rfl
 have hc6 := (blk_cell BU.out 6).trans rfl
 have hc7 := (blk_cell BU.out 7).trans rfl
 have hu42 := Tryd.underlying42
 go_wp2_with fail
 clear hc0 hc1 hc2 hc3 hc4 hc5 hc6 hc7
 refine (join_Key.calls k u1 u2 u3 u4 u5 u6 u7 u8 r _ (HE.out.below HB.out) HK.out).mono ?_
 rintro e w2 ⟨rfl, hb⟩
 replace HB := Aside0.mk (HB.out.trans (hb.mono HB.out.size))
 clear hb
 go_wp2_with fail
 go_ret
 exact ⟨rfl, HB.out⟩
set_option maxHeartbeats 4000000 in
set_option maxRecDepth 100000 in
theorem of_url (k : Nat) (f0 f1 f2 f3 f4 f5 : ByteArray) (f6 : Int) (f7 : Bool) (c0 c1 c2 : ByteArray) (v9 v10 v11 v12 v13 : Value) (u1 u2 : ByteArray) (u3 : Int) (u4 u5 u6 : ByteArray) (u7 u8 : Bool) (u9 : Int) (w : World) (hE : EnvOk w) (h1 : f1.toList = ([] : List UInt8))
  (hp : url_Parse.f k f2 = some (u1, u2, u3, u4, u5, u6, u7, u8, u9)) (h9 : ¬ u9 = 0) (h2 : ¬ f2.toList = ([] : List UInt8)) (hz : f2.size ≤ 140737488355328) :
  Calls Tryd.prog 9 #[.agg (ec f0 f1 f2 f3 f4 f5 f6 f7 c0 c1 c2 v9 v10 v11 v12 v13)] w fun e w' => e = .returned (.string ((⟨#[108, 58]⟩ : ByteArray) ++ f2)) ∧ Below w.heap.size w w' := by
 have d1 : (f1.toList != ([] : List UInt8)) = false := bne_eq_false_iff_eq.2 h1
 have d1e : f1.toList.isEmpty = true := List.isEmpty_iff.2 h1
 have d2 : (f2.toList != ([] : List UInt8)) = true := bne_iff_ne.2 h2
 have d2e : f2.toList.isEmpty = false := by rw [Bool.eq_false_iff]; exact fun h => h2 (List.isEmpty_iff.1 h)
 have d9 : (u9 == 0) = false := beq_eq_false_iff_ne.2 h9
 have hu30 := Tryd.underlying30
 have BK := Aside0.mk (heap_alloc_new w (.cells (ec f0 f1 f2 f3 f4 f5 f6 f7 c0 c1 c2 v9 v10 v11 v12 v13) 30))
 have HB := Aside0.mk ((Below.refl w.heap.size w).alloc (Nat.le_refl _) (.cells (ec f0 f1 f2 f3 f4 f5 f6 f7 c0 c1 c2 v9 v10 v11 v12 v13) 30))
 have hs : (2 + f2.size ≤ 9223372036854775807) := by omega
 have hs2 : (9223372036854775807 < 2 + f2.size) = False := eq_false (by omega)
 have HE := Aside0.mk hE
 have HP := Aside0.mk hp
 clear h1 hE hp h2 h9
 have hc1 := (blk_cell BK.out 1).trans rfl
 have hc2 := (blk_cell BK.out 2).trans rfl
 go_enter Tryd.func9, Tryd.ntmps9
 go_wp2_with fail
 clear hc1 hc2
 refine (url_Parse.calls k _ _ _ _ _ _ _ _ _ _ _ (HE.out.below HB.out) HP.out).mono ?_
 rintro e w1 ⟨rfl, hb⟩
 replace BK := Aside0.mk (blk_alloc (blk_bel BK.out hb) (.cells #[.string u1, .string u2, .int .i64 u3, .string u4, .string u5, .string u6, .bool u7, .bool u8] 42))
 replace HB := Aside0.mk ((HB.out.trans (hb.mono HB.out.size)).alloc (HB.out.trans (hb.mono HB.out.size)).size (.cells #[.string u1, .string u2, .int .i64 u3, .string u4, .string u5, .string u6, .bool u7, .bool u8] 42))
 clear hb
 have hc2 := (blk_cell BK.out 2).trans rfl
 go_wp2_with fail
 go_ret
 exact ⟨rfl, HB.out⟩
set_option maxHeartbeats 8000000 in
set_option maxRecDepth 100000 in
theorem of_mark (k : Nat) (f0 f1 f2 f3 f4 f5 : ByteArray) (f6 : Int) (f7 : Bool) (c0 c1 c2 : ByteArray) (x9 x11 x12 x13 : List ByteArray) (A9 A11 A12 A13 : Option Addr) (n9 n11 n12 n13 : Nat) (v10 : Value) (u1 u2 : ByteArray) (u3 : Int) (u4 u5 u6 : ByteArray) (u7 u8 : Bool) (u9 : Int) (w : World) (hE : EnvOk w) (h1 : f1.toList = ([] : List UInt8))
  (hp : url_Parse.f k f2 = some (u1, u2, u3, u4, u5, u6, u7, u8, u9)) (h9 : ¬ u9 = 0) (h2 : f2.toList = ([] : List UInt8))
  (r9 : x9.length ≤ n9 ∧ Kd.C Kd.string w A9 x9.length x9) (r11 : x11.length ≤ n11 ∧ Kd.C Kd.string w A11 x11.length x11) (r12 : x12.length ≤ n12 ∧ Kd.C Kd.string w A12 x12.length x12) (r13 : x13.length ≤ n13 ∧ Kd.C Kd.string w A13 x13.length x13)
  (hn : ∀ l ∈ [x11, x12, x13, x9], l.length ≤ 1000000000) (hs : ∀ l ∈ [x11, x12, x13, x9], ∀ s ∈ l, s.size ≤ 140737488355328) (h3 : f3.size ≤ 140737488355328) (h4 : f4.size ≤ 140737488355328) (h5 : f5.size ≤ 140737488355328) :
  Calls Tryd.prog 9 #[.agg (ec f0 f1 f2 f3 f4 f5 f6 f7 c0 c1 c2 (.slice A9 x9.length n9) v10 (.slice A11 x11.length n11) (.slice A12 x12.length n12) (.slice A13 x13.length n13))] w fun e w' => e = .returned (.string ((⟨#[104, 58]⟩ : ByteArray) ++ markZ (partsL [f3, f4, f5] [x11, x12, x13, x9]))) ∧ Below w.heap.size w w' := by
 have d1 : (f1.toList != ([] : List UInt8)) = false := bne_eq_false_iff_eq.2 h1
 have d1e : f1.toList.isEmpty = true := List.isEmpty_iff.2 h1
 have d2 : (f2.toList != ([] : List UInt8)) = false := bne_eq_false_iff_eq.2 h2
 have d2e : f2.toList.isEmpty = true := List.isEmpty_iff.2 h2
 have d9 : (u9 == 0) = false := beq_eq_false_iff_ne.2 h9
 have hu30 := Tryd.underlying30
 generalize hcs : (ec f0 f1 f2 f3 f4 f5 f6 f7 c0 c1 c2 (.slice A9 x9.length n9) v10 (.slice A11 x11.length n11) (.slice A12 x12.length n12) (.slice A13 x13.length n13)) = cs
 have BK := Aside0.mk (heap_alloc_new w (.cells cs 30))
 have HB := Aside0.mk ((Below.refl w.heap.size w).alloc (Nat.le_refl _) (.cells cs 30))
 have HE := Aside0.mk hE
 have HP := Aside0.mk hp
 have HN := Aside0.mk hn
 have HS := Aside0.mk hs
 have HF := Aside0.mk (And.intro h3 (And.intro h4 h5))
 have R := Aside0.mk (And.intro r9 (And.intro r11 (And.intro r12 r13)))
 subst hcs
 clear h1 hE hp h2 h9 hn hs h3 h4 h5 r9 r11 r12 r13
 have hc1 := (blk_cell BK.out 1).trans rfl
 have hc2 := (blk_cell BK.out 2).trans rfl
 go_enter Tryd.func9, Tryd.ntmps9
 go_wp2_with fail
 clear hc1 hc2
 refine (url_Parse.calls k _ _ _ _ _ _ _ _ _ _ _ (HE.out.below HB.out) HP.out).mono ?_
 rintro e w1 ⟨rfl, hb⟩
 replace BK := Aside0.mk (blk_alloc (blk_bel BK.out hb) (.cells #[.string u1, .string u2, .int .i64 u3, .string u4, .string u5, .string u6, .bool u7, .bool u8] 42))
 replace HB := Aside0.mk ((HB.out.trans (hb.mono HB.out.size)).alloc (HB.out.trans (hb.mono HB.out.size)).size (.cells #[.string u1, .string u2, .int .i64 u3, .string u4, .string u5, .string u6, .bool u7, .bool u8] 42))
 clear hb
 have hc2 := (blk_cell BK.out 2).trans rfl
 have hc3 := (blk_cell BK.out 3).trans rfl
 have hc4 := (blk_cell BK.out 4).trans rfl
 have hc5 := (blk_cell BK.out 5).trans rfl
 replace BK := Aside0.mk (blk_alloc BK.out (.cells #[.string f3, .string f4, .string f5] 9))
 have BP := Aside0.mk (heap_alloc_new (w1.alloc (.cells #[.string u1, .string u2, .int .i64 u3, .string u4, .string u5, .string u6, .bool u7, .bool u8] 42)) (.cells #[.string f3, .string f4, .string f5] 9))
 have HR := Aside0.mk (OwnRow.lit (R := Kd.string.M w w.heap.size (fun _ => True)) (e := 9) (size := 1) (w1.alloc (.cells #[.string u1, .string u2, .int .i64 u3, .string u4, .string u5, .string u6, .bool u7, .bool u8] 42)) w.heap.size (ps := [f3, f4, f5]) (inner := [.string f3, .string f4, .string f5]) ⟨rfl, fun j p hj => by
  rcases j with _ | _ | _ | j
  ·obtain rfl : f3 = p := by simpa using hj
   rfl
  ·obtain rfl : f4 = p := by simpa using hj
   rfl
  ·obtain rfl : f5 = p := by simpa using hj
   rfl
  ·simp at hj⟩ HB.out.size (by simp))
 replace HB := Aside0.mk (HB.out.alloc HB.out.size (.cells #[.string f3, .string f4, .string f5] 9))
 have hc11 := (blk_cell BK.out 11).trans rfl
 have hc13 := (blk_cell BK.out 13).trans rfl
 have hc14 := (blk_cell BK.out 14).trans rfl
 have hc15 := (blk_cell BK.out 15).trans rfl
 go_wp2_with fail
 clear hc2 hc3 hc4 hc5 hc11 hc13 hc14 hc15 d1 d1e d2 d2e d9 BP
 have hgu : (w1.alloc (.cells #[.string u1, .string u2, .int .i64 u3, .string u4, .string u5, .string u6, .bool u7, .bool u8] 42)).heap.size = w1.heap.size + 1 := Array.size_push _
 rw [hgu] at HR
 clear hgu
 replace HR := Aside0.mk (show Kd.R Kd.string 9 ((w1.alloc (.cells #[.string u1, .string u2, .int .i64 u3, .string u4, .string u5, .string u6, .bool u7, .bool u8] 42)).alloc (.cells #[.string f3, .string f4, .string f5] 9)) w.heap.size (fun _ => True) (.slice (some ⟨w1.heap.size + 1, 0, none⟩) 3 3) [f3, f4, f5] from ⟨fun _ _ => trivial, HR.out⟩)
 replace BK := Aside0.mk (heap_alloc_new ((w1.alloc (.cells #[.string u1, .string u2, .int .i64 u3, .string u4, .string u5, .string u6, .bool u7, .bool u8] 42)).alloc (.cells #[.string f3, .string f4, .string f5] 9)) (.cells #[.slice A11 x11.length n11, .slice A12 x12.length n12, .slice A13 x13.length n13, .slice A9 x9.length n9] 23))
 have HG := Aside0.mk HB.out.size
 replace HR := Aside0.mk (Kd.R_alloc HR.out (.cells #[.slice A11 x11.length n11, .slice A12 x12.length n12, .slice A13 x13.length n13, .slice A9 x9.length n9] 23))
 replace HB := Aside0.mk (HB.out.alloc HB.out.size (.cells #[.slice A11 x11.length n11, .slice A12 x12.length n12, .slice A13 x13.length n13, .slice A9 x9.length n9] 23))
 generalize ((w1.alloc (.cells #[.string u1, .string u2, .int .i64 u3, .string u4, .string u5, .string u6, .bool u7, .bool u8] 42)).alloc (.cells #[.string f3, .string f4, .string f5] 9)).alloc (.cells #[.slice A11 x11.length n11, .slice A12 x12.length n12, .slice A13 x13.length n13, .slice A9 x9.length n9] 23) = w2 at BK HR HB ⊢
 have hgz : ((w1.alloc (.cells #[.string u1, .string u2, .int .i64 u3, .string u4, .string u5, .string u6, .bool u7, .bool u8] 42)).alloc (.cells #[.string f3, .string f4, .string f5] 9)).heap.size = w1.heap.size + 2 := by
  rw [World.alloc, World.alloc]
  simp
 rw [hgz] at BK HG
 clear hgz
 generalize w1.heap.size + 2 = g at BK HG ⊢
 go_loopg [5, 48] 4 (fun gk v5 v48 wx => ∃ (i : Nat) (acc : List ByteArray), i + gk = 4 ∧ v48 = .int .i64 (i : Int) ∧ Aside0 (partsL acc ([x11, x12, x13, x9].drop i) = partsL [f3, f4, f5] [x11, x12, x13, x9]) ∧ Aside0 (acc.length ≤ i * 1000000001 + 3) ∧ Aside0 (∀ s ∈ acc, s.size ≤ 140737488355328) ∧ Aside0 (Kd.R Kd.string 9 wx w.heap.size (fun _ => True) v5 acc) ∧ Aside0 (wx.heap[g]? = some (.cells #[.slice A11 x11.length n11, .slice A12 x12.length n12, .slice A13 x13.length n13, .slice A9 x9.length n9] 23 (0, 0))) ∧ Aside0 (Below w.heap.size w wx))
 case atStart => exact ⟨0, [f3, f4, f5], rfl, rfl, ⟨rfl⟩, ⟨by simp⟩, ⟨by
  intro s hm
  have := HF.out
  simp only [List.mem_cons, List.not_mem_nil, or_false] at hm
  rcases hm with rfl | rfl | rfl <;> omega⟩, HR, BK, HB⟩
 case round =>
  clear BK HR HB
  obtain ⟨i, acc, hi, rfl, HT, HL, HA, HR, BK, HB⟩ := hrel
  cases gk with
  | zero =>
   obtain rfl : i = 4 := by omega
   obtain ⟨A, c, rfl, hlc, hC⟩ := Kd.R_reads HR.out
   have HC := Aside0.mk hC
   have HLC := Aside0.mk hlc
   clear hC hlc
   go_wp2_with fail
   refine (sum_Mark.calls A c acc (markZ acc) _ (HE.out.below HB.out) HC.out HLC.out (by unfold sum_Mark.f; rw [if_pos HA.out])).mono ?_
   rintro e w3 ⟨rfl, hb⟩
   replace HB := Aside0.mk (HB.out.trans (hb.mono HB.out.size))
   clear hb
   have hz := markZ_size acc
   have hs1 : (2 + (markZ acc).size ≤ 9223372036854775807) := by omega
   have hs2 : (9223372036854775807 < 2 + (markZ acc).size) = False := eq_false (by omega)
   have HM := Aside0.mk (show markZ acc = markZ (partsL [f3, f4, f5] [x11, x12, x13, x9]) by rw [← HT.out]; rfl)
   clear hz
   go_wp2_with fail
   go_ret
   exact ⟨by rw [HM.out]; rfl, HB.out⟩
  | succ g1 =>
   have hlt : i < 4 := by omega
   have c0_ : decide ((i : Int) < (4 : Int)) = true := decide_eq_true (by omega)
   have p5 : 0 ≤ (i : Int) := by omega
   have q5 : (i : Int) < ((4 : Nat) : Int) := by omega
   obtain ⟨A0, n0, hx5, hC0⟩ := lists_at BK.out R.out.2.1 R.out.2.2.1 R.out.2.2.2 R.out.1 i hlt
   have hrd : rd_L1 [x11, x12, x13, x9] (i : Int) = ([x11, x12, x13, x9] : List (List ByteArray))[i]'hlt := by unfold rd_L1; rw [Int.toNat_natCast, List.getD_eq_getElem?_getD, List.getElem?_eq_getElem hlt]; rfl
   have hmem : rd_L1 [x11, x12, x13, x9] (i : Int) ∈ [x11, x12, x13, x9] := by rw [hrd]; exact List.getElem_mem hlt
   have hdr : ([x11, x12, x13, x9] : List (List ByteArray)).drop i = rd_L1 [x11, x12, x13, x9] (i : Int) :: [x11, x12, x13, x9].drop (i + 1) := by rw [hrd]; exact List.drop_eq_getElem_cons hlt
   have hl1 := HN.out _ hmem
   have HS1 := Aside0.mk (HS.out _ hmem)
   rw [hdr] at HT
   clear hrd hmem hdr
   generalize rd_L1 [x11, x12, x13, x9] (i : Int) = l at hx5 hC0 hl1 HS1 HT
   have HC0 := Aside0.mk hC0
   have hw1 : wrap64 ((i : Int) + 1) = ((i + 1 : Nat) : Int) := by unfold wrap64; omega
   have HW := Aside0.mk hw1
   have HL1 := Aside0.mk hl1
   obtain ⟨kt, hkt⟩ := text_f l.length (by omega)
   have HTX := Aside0.mk (hkt kt (Nat.le_refl _))
   have HTZ := Aside0.mk (show (strOfNums (textN l.length)).size ≤ 20 by rw [strOfNums_size]; exact textN_length _)
   have HAL := Aside0.mk (show acc.length ≤ 5000000000 by have := HL.out; have := Nat.mul_le_mul_right 1000000001 (show i ≤ 4 by omega); omega)
   clear hC0 hw1 hkt hl1
   generalize htx : strOfNums (textN l.length) = tx at HTX HTZ
   have HTE := Aside0.mk htx
   clear htx
   go_wp2_with fail
   refine (ascii_Text.calls kt _ _ _ (HE.out.below HB.out) HTX.out).mono ?_
   rintro e w3 ⟨rfl, hb⟩
   have HB3 := Aside0.mk (HB.out.trans (hb.mono HB.out.size))
   have HR3 := Aside0.mk (Kd.R_below HR.out hb)
   have BK3 := Aside0.mk (blk_bel BK.out hb)
   clear hb
   go_wp2_with (first | ((with_reducible refine gate_builtin (b := .append) (xs := #[.tmp 52, .tmp 56]) rfl ?_); at_builtin; refine Kd.R_append Kd.string (w0 := w) w.heap.size rfl (.tmp 52) (.tmp 56) 23 9 (.string ⟨#[]⟩) 16 rfl Tryd.underlying23 info9 rfl (by decide) (by decide) _ acc tx [.string tx] (fun _ => True) (fun _ => False) rfl rfl rfl (fun _ hk => hk.elim) (fun _ _ => trivial) HR3.out HB3.out HB3.out.size (by have := HAL.out; omega) ?_; intro v1 w4 hR4 hB4 hg4 hat4; have BK4 := Aside0.mk (blk_grown BK3.out hg4 (Kd.R_ne HR3.out BK3.out (by decide))); have HR4 := Aside0.mk hR4; have HB4 := Aside0.mk hB4; have HX4 := Aside0.mk (Kd.C_below HC0.out hB4); clear hR4 hB4 hg4 hat4) | ((with_reducible refine gate_builtin (b := .append) (xs := #[.tmp 58, .tmp 59]) rfl ?_); at_builtin; refine Kd.R_append_rows Kd.string (Rr := Kd.string.K w) (w0 := w) w.heap.size rfl (.tmp 58) (.tmp 59) 23 9 (.string ⟨#[]⟩) 16 rfl Tryd.underlying23 info9 rfl (by decide) (by decide) _ (acc ++ [tx]) l _ _ _ (fun _ => True) (fun _ => False) rfl rfl HR4.out HX4.out (fun _ _ h => h) (fun _ hk => hk.elim) (fun _ _ => trivial) HB4.out HB4.out.size (by have := HAL.out; have := HL1.out; simp; omega) ?_; intro v2 w5 hR5 hB5 hg5 hat5; have BK5 := Aside0.mk (blk_grown BK4.out hg5 (Kd.R_ne HR4.out BK4.out (by decide))); have HR5 := Aside0.mk hR5; have HB5 := Aside0.mk hB5; clear hR5 hB5 hg5 hat5))
   have HW2 := Aside0.mk HW.out
   go_roundg g1
   case measure => omega
   case rel => exact ⟨i + 1, (acc ++ [tx]) ++ l, by omega, by go_num, ⟨by rw [← HT.out, ← HTE.out]; rfl⟩, ⟨by rw [List.length_append, List.length_append, List.length_singleton]; have := HL.out; have := HL1.out; omega⟩, ⟨by
    intro s hm
    rcases List.mem_append.1 hm with hm | hm
    ·rcases List.mem_append.1 hm with hm | hm
     ·exact HA.out s hm
     ·rw [List.mem_singleton.1 hm]; have := HTZ.out; omega
    ·exact HS1.out s hm⟩, HR5, BK5, HB5⟩
def ofR (x : S30) : ByteArray := ofParts x.f1 x.f2 x.f3 x.f4 x.f5 x.f9 x.f11 x.f12 x.f13
structure OfOk (x : S30) : Prop where
 s1 : x.f1.size ≤ 1000000000
 s2 : x.f2.size ≤ 1000000000
 s3 : x.f3.size ≤ 1000000000
 s4 : x.f4.size ≤ 1000000000
 s5 : x.f5.size ≤ 1000000000
 hn : ∀ l ∈ [x.f11, x.f12, x.f13, x.f9], l.length ≤ 1000000000
 hs : ∀ l ∈ [x.f11, x.f12, x.f13, x.f9], ∀ s ∈ l, s.size ≤ 140737488355328
theorem ofR_size {x : S30} (h : OfOk x) : (ofR x).size ≤ 1000000000 + 2 := by
 unfold ofR ofParts
 have z1 : (⟨#[108, 58]⟩ : ByteArray).size = 2 := rfl
 have z2 : (⟨#[104, 58]⟩ : ByteArray).size = 2 := rfl
 have z3 : (⟨#[117, 58]⟩ : ByteArray).size = 2 := rfl
 by_cases e1 : x.f1.toList = ([] : List UInt8)
 ·rw [if_pos e1]
  obtain ⟨u1, u2, u3, u4, u5, u6, u7, u8, u9, hu⟩ : ∃ u1 u2 u3 u4 u5 u6 u7 u8 u9, parseR x.f2.data.toList = (u1, u2, u3, u4, u5, u6, u7, u8, u9) := ⟨_, _, _, _, _, _, _, _, _, rfl⟩
  rw [hu]
  by_cases e2 : u9 = 0
  ·subst e2
   rw [if_pos rfl]
   obtain ⟨host, r, hp⟩ := parsed_of hu
   have := key_size hp
   rw [ByteArray.size_append, z1]
   exact Nat.le_trans (Nat.add_le_add_left this 2) (by decide)
  ·rw [if_neg e2]
   by_cases e3 : x.f2.toList = ([] : List UInt8)
   ·rw [if_pos e3, ByteArray.size_append, markZ_size, z2]
    decide
   ·rw [if_neg e3, ByteArray.size_append, z1]
    have := h.s2
    omega
 ·rw [if_neg e1, ByteArray.size_append, z3]
  have := h.s1
  omega
theorem of_calls (x : S30) (cs : List Value) (w : World) (hE : EnvOk w) (hK : k30.K w x cs) (hx : OfOk x) :
  Calls Tryd.prog 9 #[.agg cs.toArray] w fun e w' => e = .returned (.string (ofR x)) ∧ Below w.heap.size w w' := by
 obtain ⟨A9, n9, A10, n10, A11, n11, A12, n12, A13, n13, rfl, l9, g9, l10, g10, l11, g11, l12, g12, l13, g13⟩ := k30_open hK
 unfold ofR ofParts
 by_cases e1 : x.f1.toList = ([] : List UInt8)
 ·rw [if_pos e1]
  obtain ⟨k1, hk1⟩ := parse_f x.f2 hx.s2
  obtain ⟨u1, u2, u3, u4, u5, u6, u7, u8, u9, hu⟩ : ∃ u1 u2 u3 u4 u5 u6 u7 u8 u9, parseR x.f2.data.toList = (u1, u2, u3, u4, u5, u6, u7, u8, u9) := ⟨_, _, _, _, _, _, _, _, _, rfl⟩
  rw [hu] at hk1
  rw [hu]
  by_cases e2 : u9 = 0
  ·subst e2
   rw [if_pos rfl]
   obtain ⟨host, r, hp⟩ := parsed_of hu
   obtain ⟨k2, hk2⟩ := ofKey_f hp
   exact of_key (k1 + k2) _ _ _ _ _ _ _ _ _ _ _ _ _ _ _ _ u1 u2 u3 u4 u5 u6 u7 u8 _ w hE e1 (hk1 _ (by omega)) (hk2 _ (by omega)) (Nat.le_trans (key_size hp) (by decide))
  ·rw [if_neg e2]
   by_cases e3 : x.f2.toList = ([] : List UInt8)
   ·rw [if_pos e3]
    exact of_mark k1 _ _ _ _ _ _ _ _ _ _ _ x.f9 x.f11 x.f12 x.f13 A9 A11 A12 A13 n9 n11 n12 n13 _ u1 u2 u3 u4 u5 u6 u7 u8 u9 w hE e1 (hk1 _ (Nat.le_refl _)) e2 e3 ⟨l9, g9⟩ ⟨l11, g11⟩ ⟨l12, g12⟩ ⟨l13, g13⟩ hx.hn hx.hs (by have := hx.s3; omega) (by have := hx.s4; omega) (by have := hx.s5; omega)
   ·rw [if_neg e3]
    exact of_url k1 _ _ _ _ _ _ _ _ _ _ _ _ _ _ _ _ u1 u2 u3 u4 u5 u6 u7 u8 u9 w hE e1 (hk1 _ (Nat.le_refl _)) e2 e3 (by have := hx.s2; omega)
 ·rw [if_neg e1]
  exact of_uid _ _ _ _ _ _ _ _ _ _ _ _ _ _ _ _ w e1 (by have := hx.s1; omega)
end Go.Proofs.YtihaeeldgimdiaaDoor.X
