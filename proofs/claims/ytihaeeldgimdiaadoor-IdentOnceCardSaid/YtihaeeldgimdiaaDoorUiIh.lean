/- Marks of texts: what half, Add and Mark of sums do. -/
import Derived.Test.YtihaeeldgimdiaaDoorUiH4
import Derived.Test.YtihaeeldgimdiaaDoorUiX4
import Derived.Laws.BitsAllLaws
namespace Go.Proofs.YtihaeeldgimdiaaDoor.X
open Go.RowKit Go.Lib Go.Shelf Go.Proofs.YtihaeeldgimdiaaDoorW.PrintWords Go.Proofs.YtihaeeldgimdiaaDoorW.PrintLast Go.Proofs.YtihaeeldgimdiaaDoorW.PrintMore
set_option linter.unusedVariables false
set_option linter.unusedSimpArgs false
theorem boxes2 (w : World) (c d : Array Value) (t : TypeId) : Aside0 (((w.alloc (.cells c t)).alloc (.cells d t)).heap[w.heap.size]? = some (.cells c t (0, 0))) ∧ Aside0 (((w.alloc (.cells c t)).alloc (.cells d t)).heap[w.heap.size + 1]? = some (.cells d t (0, 0))) ∧ Aside0 (Below w.heap.size w ((w.alloc (.cells c t)).alloc (.cells d t))) := by
 have h := heap_alloc_new (w.alloc (.cells c t)) (.cells d t)
 have hsz : (w.alloc (.cells c t)).heap.size = w.heap.size + 1 := Array.size_push _
 rw [hsz] at h
 have hb := (Below.refl w.heap.size w).alloc (Nat.le_refl _) (.cells c t)
 exact ⟨⟨blk_alloc (heap_alloc_new w (.cells c t)) (.cells d t)⟩, ⟨h⟩, ⟨hb.alloc hb.size (.cells d t)⟩⟩
theorem sum_one (a b : Int) : ((#[.int .u32 a, .int .u64 b] : Array Value).all (·.oneCell')) = true := by simp [Value.oneCell']
theorem and15u (n : Int) : ∃ j : Nat, j < 16 ∧ Go.bits .and .u32 n 15 = (j : Int) := by
 refine ⟨(BitVec.ofInt 32 n &&& BitVec.ofInt 32 15).toNat, ?_, ?_⟩
 ·rw [BitVec.toNat_and]; exact Nat.lt_of_le_of_lt Nat.and_le_right (by decide)
 ·have h : (BitVec.ofInt 32 n &&& BitVec.ofInt 32 15).toNat < 4294967296 := (BitVec.ofInt 32 n &&& BitVec.ofInt 32 15).isLt
  show IntKind.u32.wrap ((BitVec.ofInt 32 n &&& BitVec.ofInt 32 15).toNat : Int) = _
  generalize (BitVec.ofInt 32 n &&& BitVec.ofInt 32 15).toNat = m at h
  unfold IntKind.wrap
  simp [IntKind.bits, IntKind.signed]
  omega
set_option maxHeartbeats 2000000 in
set_option maxRecDepth 100000 in
theorem half_calls (n : Int) (w : World) : Calls Tryd.prog 50 #[.int .u32 n] w fun e w' => (∃ r, e = .returned (.int .u32 r)) ∧ Below w.heap.size w w' := by
 obtain ⟨j, hj, hje⟩ := and15u n
 have hle : (0 : Int) ≤ (j : Int) := by omega
 have hlt : ((j : Int) < 16) := by omega
 go_enter Tryd.func50, Tryd.ntmps50
 go_wp2
 go_ret
 refine ⟨?_, (Below.refl _ _).alloc (Nat.le_refl _) _⟩
 clear hje hle hlt
 iterate 16 (rcases j with _ | j; · exact ⟨_, rfl⟩)
 omega
def markS (m b : Int) : Int := IntKind.u64.wrap (Go.bits .xor .u64 m (b % 18446744073709551616) * 1099511628211)
def addM (m : Int) (bs : List Int) : Int := Go.bits .xor .u64 (bs.foldl markS (Go.bits .xor .u64 m 14695981039346656037)) 14695981039346656037
set_option maxHeartbeats 4000000 in
set_option maxRecDepth 100000 in
theorem add_calls (c m : Int) (A : Option Addr) (k : Nat) (bs : List Int) (w : World) (hr : Kd.C (Kd.int .u8) w A bs.length bs) :
  Calls Tryd.prog 28 #[.agg #[.int .u32 c, .int .u64 m], .slice A bs.length k] w fun e w' => (∃ c', e = .returned (.agg #[.int .u32 c', .int .u64 (addM m bs)])) ∧ Below w.heap.size w w' := by
 have HR := Aside0.mk hr
 have hmx : bs.length ≤ 9223372036854775807 := hr.2.1
 clear hr
 obtain ⟨BK, BZ, HB⟩ := boxes2 w #[.int .u32 c, .int .u64 m] #[.int .u32 0, .int .u64 0] 64
 go_enter Tryd.func28, Tryd.ntmps28
 go_wp2_with fail
 refine start_ (n := 8) (S := fun w' => w'.cell? ⟨w.heap.size, 0, none⟩ = some (.int .u32 c) ∧ w'.cell? ⟨w.heap.size, 1, none⟩ = some (.int .u64 m)) (ds := []) #[false, false, false, false, false, false, false, false] (by kernel_rfl) rfl rfl ⟨(blk_cell (blk_drew BK.out) 0).trans rfl, (blk_cell (blk_drew BK.out) 1).trans rfl⟩ (fun hHeld => ?_)
 replace BK := Aside0.mk (blk_drew BK.out)
 replace BZ := Aside0.mk (blk_drew BZ.out)
 replace HB := Aside0.mk (below_drew1 HB.out)
 generalize World.drew _ = wd at BK BZ HB hHeld ⊢
 refine pure_ (i := 0) (N := some 9) (v := ?_) (a' := ?_) #[true, false, false, false, false, false, false, false] rfl rfl (by kernel_rfl) (fun _ _ _ h => h) (Or.inl ⟨by rfl, ?_⟩) ?_ ?_
 rotate_left
 ·intro w'
  go_simp
  with_reducible rfl
 rotate_left
 ·simp only [Act.put, List.setIfInBounds_toArray, List.set_cons_zero, List.set_cons_succ, i64_w, i32_w]
  rfl
 refine take_ (i := 1) (N := some 10) (v := ?_) (a' := ?_) #[true, true, false, false, false, false, false, false] rfl rfl (by kernel_rfl) (fun _ _ _ h => h) (Or.inl ⟨by rfl, ?_⟩) hHeld ?_ ?_
 rotate_left
 ·rintro w' ⟨s0, s1⟩
  go_simp
  with_reducible rfl
 rotate_left
 ·simp only [Act.put, List.setIfInBounds_toArray, List.set_cons_zero, List.set_cons_succ, i64_w, i32_w]
  rfl
 refine pure_ (i := 2) (N := some 11) (v := ?_) (a' := ?_) #[true, true, true, false, false, false, false, false] rfl rfl (by kernel_rfl) (fun _ _ _ h => h) (Or.inl ⟨by rfl, ?_⟩) ?_ ?_
 rotate_left
 ·intro w'
  go_simp
  with_reducible rfl
 rotate_left
 ·simp only [Act.put, List.setIfInBounds_toArray, List.set_cons_zero, List.set_cons_succ, i64_w, i32_w]
  rfl
 refine pure_ (i := 3) (N := some 12) (v := ?_) (a' := ?_) #[true, true, true, true, false, false, false, false] rfl rfl (by kernel_rfl) (fun _ _ _ h => h) (Or.inl ⟨by rfl, ?_⟩) ?_ ?_
 rotate_left
 ·intro w'
  go_simp
  with_reducible rfl
 rotate_left
 ·simp only [Act.put, List.setIfInBounds_toArray, List.set_cons_zero, List.set_cons_succ, i64_w, i32_w]
  rfl
 refine take_ (i := 4) (N := some 13) (v := ?_) (a' := ?_) #[true, true, true, true, true, false, false, false] rfl rfl (by kernel_rfl) (fun _ _ _ h => h) (Or.inl ⟨by rfl, ?_⟩) hHeld ?_ ?_
 rotate_left
 ·rintro w' ⟨s0, s1⟩
  go_simp
  with_reducible rfl
 rotate_left
 ·simp only [Act.put, List.setIfInBounds_toArray, List.set_cons_zero, List.set_cons_succ, i64_w, i32_w]
  rfl
 refine pure_ (i := 5) (N := some 14) (v := ?_) (a' := ?_) #[true, true, true, true, true, true, false, false] rfl rfl (by kernel_rfl) (fun _ _ _ h => h) (Or.inl ⟨by rfl, ?_⟩) ?_ ?_
 rotate_left
 ·intro w'
  go_simp
  with_reducible rfl
 rotate_left
 ·simp only [Act.put, List.setIfInBounds_toArray, List.set_cons_zero, List.set_cons_succ, i64_w, i32_w]
  rfl
 refine pure_ (i := 6) (N := some 5) (v := ?_) (a' := ?_) #[true, true, true, true, true, true, true, false] rfl rfl (by kernel_rfl) (fun _ _ _ h => h) (Or.inl ⟨by rfl, ?_⟩) ?_ ?_
 rotate_left
 ·intro w'
  go_simp
  with_reducible rfl
 rotate_left
 ·simp only [Act.put, List.setIfInBounds_toArray, List.set_cons_zero, List.set_cons_succ, i64_w, i32_w]
  rfl
 refine pure_ (i := 7) (N := some 6) (v := ?_) (a' := ?_) #[true, true, true, true, true, true, true, true] rfl rfl (by kernel_rfl) (fun _ _ _ h => h) (Or.inl ⟨by rfl, ?_⟩) ?_ ?_
 rotate_left
 ·intro w'
  go_simp
  with_reducible rfl
 rotate_left
 ·simp only [Act.put, List.setIfInBounds_toArray, List.set_cons_zero, List.set_cons_succ, i64_w, i32_w]
  rfl
 refine done_ (by kernel_rfl) ?_
 generalize (Go.bits BinOp.xor IntKind.u32 (if IntKind.u32.signed = true then -1 else IntKind.u32.max) c) = c1
 have hi : (Tryd.prog.info? 64).map (·.size) = some 2 := by kernel_rfl
 have hu := Tryd.underlying64
 go_wp2_with fail
 go_loopg [5, 6, 8, 17] bs.length (fun g v5 v6 v8 v17 wx => ∃ (i : Nat) (cx : Int), i + g = bs.length ∧ v5 = .int .u32 cx ∧ v6 = .int .u64 ((bs.take i).foldl markS (Go.bits .xor .u64 m 14695981039346656037)) ∧ v17 = .int .i64 (i : Int) ∧ Aside0 (wx.heap[w.heap.size + 1]? = some (.cells #[.int .u32 0, .int .u64 0] 64 (0, 0))) ∧ Aside0 (Below w.heap.size w wx))
 case atStart => exact ⟨0, c1, by omega, rfl, rfl, rfl, BZ, HB⟩
 case round =>
  clear BK BZ HB
  obtain ⟨i, cx, hi1, rfl, rfl, rfl, BZ, HB⟩ := hrel
  obtain ⟨mi, hmi⟩ : ∃ z, List.foldl markS (Go.bits BinOp.xor IntKind.u64 m 14695981039346656037) (bs.take i) = z := ⟨_, rfl⟩
  rw [hmi]
  have HMI := Aside0.mk hmi
  clear hmi
  cases gk with
  | zero =>
   obtain rfl : i = bs.length := by omega
   have HT := Aside0.mk (List.take_length (l := bs))
   go_wp2_with ((with_reducible refine gate_store (t := 64) (p := 4) rfl ?_); refine wpList_store_row rfl 64 (.tmp 4) (.tmp 45) rfl (w.heap.size + 1) _ rfl rfl 64 _ BZ.out hi rfl (sum_one _ _) ?_)
   refine bodyPost_ret (v := ?v1x) ?hv1x ?dv1x ?_
   case hv1x => refine results_cell_row (p := 4) (ty := 64) ?_ _ _ (w.heap.size + 1) 64 #[.int .u32 (Go.bits BinOp.xor IntKind.u32 (if IntKind.u32.signed = true then -1 else IntKind.u32.max) cx), .int .u64 (Go.bits BinOp.xor IntKind.u64 mi 14695981039346656037)] (0, 0) _ ?_ (setRow_heap _ _ _ _ _ _ BZ.out) hu rfl hi <;> rfl
   case dv1x => rfl
   have ha : addM m bs = Go.bits .xor .u64 mi 14695981039346656037 := by rw [← HMI.out, HT.out]; rfl
   rw [ha]
   exact ⟨⟨_, rfl⟩, below_setRow HB.out (by omega) _⟩
  | succ g1 =>
   have hlt : i < bs.length := by omega
   have c0 : decide ((i : Int) < (bs.length : Int)) = true := decide_eq_true (by omega)
   have c1_ : decide (i < bs.length) = true := decide_eq_true hlt
   have p5 : 0 ≤ (i : Int) := by omega
   have q5 : (i : Int) < (bs.length : Int) := by omega
   obtain ⟨ad, e5, hx5⟩ := Kd.at_int HR.out (i : Int) p5 q5
   subst e5
   rw [Int.toNat_natCast] at hx5
   replace hx5 := (HB.out.cell (World.block_lt_of_cell? w _ hx5)).trans hx5
   have hts : bs.take (i + 1) = bs.take i ++ [rd bs (i : Int)] := by
    rw [List.take_add_one]; unfold rd; rw [Int.toNat_natCast, List.getD_eq_getElem?_getD, List.getElem?_eq_getElem hlt]; rfl
   have HTS := Aside0.mk hts
   have hw1 : wrap64 ((i : Int) + 1) = ((i + 1 : Nat) : Int) := by unfold wrap64; omega
   have HW := Aside0.mk hw1
   generalize rd bs (i : Int) = x at hx5 HTS
   clear hts hw1
   go_wp2_with fail
   refine (half_calls _ _).mono ?_
   rintro e w1 ⟨⟨r1, rfl⟩, hb⟩
   replace BZ := Aside0.mk (blk_bel BZ.out hb)
   replace HB := Aside0.mk (HB.out.trans (hb.mono HB.out.size))
   clear hb
   go_wp2_with fail
   refine (half_calls _ _).mono ?_
   rintro e w2 ⟨⟨r2, rfl⟩, hb⟩
   replace BZ := Aside0.mk (blk_bel BZ.out hb)
   replace HB := Aside0.mk (HB.out.trans (hb.mono HB.out.size))
   clear hb
   have HW2 := Aside0.mk HW.out
   go_wp2_with fail
   go_roundg g1
   case measure => omega
   case rel => exact ⟨i + 1, _, by omega, rfl, by rw [HTS.out, List.foldl_append, HMI.out]; rfl, by simp, BZ, HB⟩
def mark1 (m : Int) (s : ByteArray) : Int := addM (addM m (bytesOf s)) [0]
def hexS : ByteArray := ⟨#[48, 49, 50, 51, 52, 53, 54, 55, 56, 57, 97, 98, 99, 100, 101, 102]⟩
def hexD (n : Int) : Nat → List Int
 | 0 => []
 | i + 1 => bt hexS (Go.bits .and .u64 (shr .u64 n (4 * (i : Int))) 15) :: hexD n i
def markZ (l : List ByteArray) : ByteArray := strOfNums (hexD (Go.bits .xor .u64 (l.foldl mark1 0) 14695981039346656037) 16)
theorem and15v (n : Int) : 0 ≤ Go.bits .and .u64 n 15 ∧ Go.bits .and .u64 n 15 < 16 := by
 have e : Go.bits .and .u64 n 15 = ((BitVec.ofInt 64 n &&& BitVec.ofInt 64 15).toNat : Int) := by
  have h : (BitVec.ofInt 64 n &&& BitVec.ofInt 64 15).toNat < 18446744073709551616 := (BitVec.ofInt 64 n &&& BitVec.ofInt 64 15).isLt
  show IntKind.u64.wrap ((BitVec.ofInt 64 n &&& BitVec.ofInt 64 15).toNat : Int) = _
  generalize (BitVec.ofInt 64 n &&& BitVec.ofInt 64 15).toNat = m at h
  unfold IntKind.wrap
  simp [IntKind.bits, IntKind.signed]
  omega
 have h : (BitVec.ofInt 64 n &&& BitVec.ofInt 64 15).toNat < 16 := by rw [BitVec.toNat_and]; exact Nat.lt_of_le_of_lt Nat.and_le_right (by decide)
 omega
theorem hex_l0 (n : Int) : ∀ (d : Nat) (k : Nat) (acc : List Int), d ≤ 16 → acc.length + d ≤ 16 → d < k → sum_Hex.l0 k n acc ((d : Int) - 1) = some (strOfNums (acc ++ hexD n d))
 | 0, k, acc, _, _, hk => by
  obtain ⟨k, rfl⟩ : ∃ m, k = m + 1 := ⟨k - 1, by omega⟩
  simp only [sum_Hex.l0]
  rw [if_neg (by omega)]
  simp [hexD]
 | d + 1, k, acc, hd, ha, hk => by
  obtain ⟨k, rfl⟩ : ∃ m, k = m + 1 := ⟨k - 1, by omega⟩
  have e : (((d + 1 : Nat) : Int) - 1) = (d : Int) := by omega
  rw [e]
  have h4 : wrap64 (4 * (d : Int)) = 4 * (d : Int) := by unfold wrap64; omega
  have h1 : wrap64 ((d : Int) - 1) = (d : Int) - 1 := by unfold wrap64; omega
  obtain ⟨q1, q2⟩ := and15v (shr .u64 n (4 * (d : Int)))
  simp only [sum_Hex.l0]
  rw [if_pos (by omega), h4, if_pos (by omega), if_pos q1, if_pos q2, if_pos (by omega), h1, hex_l0 n d k _ (by omega) (by simp; omega) (by omega), List.append_assoc]
  rfl
theorem hex_f (n : Int) : sum_Hex.f 20 n 16 = some (strOfNums (hexD n 16)) := by
 have := hex_l0 n 16 20 [] (by omega) (by simp) (by omega)
 rw [List.nil_append] at this
 exact this
def sum_Mark.f (l : List ByteArray) : Option ByteArray := if (∀ s ∈ l, s.size ≤ 140737488355328) then some (markZ l) else none
set_option maxHeartbeats 4000000 in
set_option maxRecDepth 100000 in
theorem sum_Mark.calls (A0 : Option Addr) (c0 : Nat) (l0 : List ByteArray) (r : ByteArray) (w : World) (hE : EnvOk w) (hr0 : Kd.C Kd.string w A0 l0.length l0) (hc0 : l0.length ≤ c0) (h : sum_Mark.f l0 = some r) :
  Calls Tryd.prog 17 #[.slice A0 l0.length c0] w fun e w' => e = .returned (.string r) ∧ Below w.heap.size w w' := by
 unfold sum_Mark.f at h
 by_cases hs : ∀ s ∈ l0, s.size ≤ 140737488355328
 rotate_left
 ·rw [if_neg hs] at h; exact absurd h (by simp)
 rw [if_pos hs] at h
 obtain rfl := Option.some.inj h
 clear h
 have HE := Aside0.mk hE
 have HR := Aside0.mk hr0
 have HS := Aside0.mk hs
 have hmx : l0.length ≤ 9223372036854775807 := hr0.2.1
 clear hE hr0 hs
 have hi : (Tryd.prog.info? 64).map (·.size) = some 2 := by kernel_rfl
 have hu := Tryd.underlying64
 go_enter Tryd.func17, Tryd.ntmps17
 go_wp2_with fail
 refine (sum_New.calls 0 0 _ HE.out rfl).mono ?_
 rintro e w1 ⟨rfl, hb⟩
 have HB0 := Aside0.mk hb
 have HB := Aside0.mk hb
 clear hb
 have BT := Aside0.mk (heap_alloc_new w1 (.cells #[.int .u32 0, .int .u64 0] 64))
 replace HB := Aside0.mk (HB.out.alloc HB.out.size (.cells #[.int .u32 0, .int .u64 0] 64))
 have HG := Aside0.mk (show w.heap.size ≤ w1.heap.size from by have := HB.out.size; have e : (w1.alloc (.cells #[.int .u32 0, .int .u64 0] 64)).heap.size = w1.heap.size + 1 := Array.size_push _; have := HB0.out.size; omega)
 go_wp2_with fail
 generalize w1.alloc _ = w2 at BT HB ⊢
 generalize w1.heap.size = g at BT HG ⊢
 go_loopg [5, 9] l0.length (fun gk v5 v9 wx => ∃ (i : Nat) (cx : Int), i + gk = l0.length ∧ v9 = .int .i64 (i : Int) ∧ Aside0 (wx.heap[g]? = some (.cells #[.int .u32 cx, .int .u64 ((l0.take i).foldl mark1 0)] 64 (0, 0))) ∧ Aside0 (Below w.heap.size w wx))
 case atStart => exact ⟨0, 0, by omega, rfl, BT, HB⟩
 case round =>
  clear BT HB
  obtain ⟨i, cx, hi1, rfl, BT, HB⟩ := hrel
  cases gk with
  | zero =>
   obtain rfl : i = l0.length := by omega
   rw [List.take_length] at BT
   have hc0 := (blk_cell BT.out 0).trans rfl
   have hc1 := (blk_cell BT.out 1).trans rfl
   go_wp2_with fail
   refine (sum_Sum_Mark.calls cx _ _ _ (HE.out.below HB.out) rfl).mono ?_
   rintro e w3 ⟨rfl, hb⟩
   replace HB := Aside0.mk (HB.out.trans (hb.mono HB.out.size))
   clear hb hc0 hc1
   go_wp2_with fail
   refine (sum_Hex.calls 20 _ 16 _ _ (HE.out.below HB.out) (hex_f _)).mono ?_
   rintro e w4 ⟨rfl, hb⟩
   replace HB := Aside0.mk (HB.out.trans (hb.mono HB.out.size))
   clear hb
   go_wp2_with fail
   go_ret
   exact ⟨rfl, HB.out⟩
  | succ g1 =>
   have hlt : i < l0.length := by omega
   have c0_ : decide ((i : Int) < (l0.length : Int)) = true := decide_eq_true (by omega)
   have c1_ : decide (i < l0.length) = true := decide_eq_true hlt
   have p5 : 0 ≤ (i : Int) := by omega
   have q5 : (i : Int) < (l0.length : Int) := by omega
   obtain ⟨ad, e5, hx5⟩ := Kd.at_string HR.out (i : Int) p5 q5
   subst e5
   rw [Int.toNat_natCast] at hx5
   replace hx5 := (HB.out.cell (World.block_lt_of_cell? w _ hx5)).trans hx5
   have hrd : rdOf ByteArray.empty l0 (i : Int) = l0[i] := by unfold rdOf; rw [Int.toNat_natCast, List.getD_eq_getElem?_getD, List.getElem?_eq_getElem hlt]; rfl
   have hts : l0.take (i + 1) = l0.take i ++ [rdOf ByteArray.empty l0 (i : Int)] := by
    rw [hrd, List.take_add_one, List.getElem?_eq_getElem hlt]; rfl
   have HTS := Aside0.mk hts
   have HX := Aside0.mk (show (rdOf ByteArray.empty l0 (i : Int)).size ≤ 140737488355328 by rw [hrd]; exact HS.out _ (List.getElem_mem hlt))
   have hw1 : wrap64 ((i : Int) + 1) = ((i + 1 : Nat) : Int) := by unfold wrap64; omega
   have HW := Aside0.mk hw1
   generalize rdOf ByteArray.empty l0 (i : Int) = x at hx5 HTS HX
   obtain ⟨mi, hmi⟩ : ∃ z, List.foldl mark1 0 (l0.take i) = z := ⟨_, rfl⟩
   rw [hmi] at BT
   have HMI := Aside0.mk hmi
   clear hts hw1 hmi hrd
   have hq0 := (blk_cell BT.out 0).trans rfl
   have hq1 := (blk_cell BT.out 1).trans rfl
   have hcv := print_bytes (P := Tryd.prog) 9 67 5 Tryd.underlying9 Tryd.underlying67 Tryd.underlying5 x wr
   have BR := Aside0.mk (bytes_reads wr 5 x (by have := HX.out; omega))
   have HB2 := Aside0.mk (bytes_below HB.out HB.out.size 5 x)
   have BT2 := Aside0.mk ((Lib.bytesWorld_at_old wr 5 x g (by have := Array.getElem?_eq_some_iff.1 BT.out; exact this.1)).trans BT.out)
   go_wp2_with fail
   clear hq0 hq1 hcv
   have AC := add_calls cx mi (some ⟨wr.heap.size, 0, none⟩) (grownCap wr x.size 0 5) (bytesOf x) (Lib.bytesWorld wr 5 x) (Kd.C_of_reads (enc := Value.int .u8) (d := (0 : Int)) (h1 := fun _ => rfl) (by rw [bytesOf_length]; exact BR.out))
   rw [bytesOf_length] at AC
   refine AC.mono ?_
   clear AC
   rintro e w3 ⟨⟨r1, rfl⟩, hb⟩
   clear BT HB
   have BT := Aside0.mk (blk_bel BT2.out hb)
   have HB := Aside0.mk (HB2.out.trans (hb.mono HB2.out.size))
   clear hb BR BT2 HB2
   go_wp2_with fail
   have AC := add_calls r1 (addM mi (bytesOf x)) (some ⟨w3.heap.size, 0, none⟩) 1 [0] (w3.alloc (.cells #[.int .u8 0] 5)) ⟨rfl, by decide, fun _ => ⟨_, rfl, fun j p hj => ⟨[.int .u8 p], rfl, rfl, fun a u hu => by
    rcases j with _ | j
    ·rcases a with _ | a
     ·simp at hj hu
      subst hj hu
      exact (blk_cell (heap_alloc_new w3 (.cells #[.int .u8 0] 5)) 0).trans rfl
     ·simp at hu
    ·simp at hj⟩⟩⟩
   refine AC.mono ?_
   clear AC
   rintro e w4 ⟨⟨r2, rfl⟩, hb⟩
   replace BT := Aside0.mk (blk_bel (blk_alloc BT.out (.cells #[.int .u8 0] 5)) hb)
   replace HB := Aside0.mk ((HB.out.alloc HB.out.size (.cells #[.int .u8 0] 5)).trans (hb.mono (HB.out.alloc HB.out.size (.cells #[.int .u8 0] 5)).size))
   clear hb
   go_wp2_with ((with_reducible refine gate_store (t := 64) (p := 3) rfl ?_); refine wpList_store_row rfl 64 (.tmp 3) (.tmp 18) rfl g #[.int .u32 r2, .int .u64 (addM (addM mi (bytesOf x)) [0])] rfl rfl 64 _ BT.out hi rfl (sum_one _ _) ?_)
   have BT5 := Aside0.mk (setRow_heap _ _ _ #[.int .u32 r2, .int .u64 (addM (addM mi (bytesOf x)) [0])] _ _ BT.out)
   have HB5 := Aside0.mk (below_setRow HB.out HG.out #[.int .u32 r2, .int .u64 (addM (addM mi (bytesOf x)) [0])])
   have HW2 := Aside0.mk HW.out
   go_roundg g1
   case measure => omega
   case rel => exact ⟨i + 1, r2, by omega, by simp, by rw [HTS.out, List.foldl_append, HMI.out]; exact BT5, HB5⟩
end Go.Proofs.YtihaeeldgimdiaaDoor.X
