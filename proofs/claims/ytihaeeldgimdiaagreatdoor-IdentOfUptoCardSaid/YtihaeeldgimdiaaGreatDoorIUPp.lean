import Derived.Test.YtihaeeldgimdiaaGreatDoorIUPq
set_option linter.all false
section
namespace Go.Proofs.YtihaeeldgimdiaaGreatDoor.X
open Go.RowKit Go.Lib Go.Yw.PrintWords Go.Yw.PrintLast
structure Ygj (u1 u2 : Y) (u3 : Int) (u4 u5 u6 : Y) (u7 u8 : Bool) (host r : List UInt8) : Prop where
 sch : u1 = ofL Yxg ∨ u1 = ofL Ybg
 hostEq : u2 = ofL host
 ne : host ≠ []
 name : Ylj host = true
 low : ∃ m, host = lowL (Yhb m)
 p0 : 0 ≤ u3
 p1 : u3 ≤ 65535
 path : u4 = Yie r
 query : u5 = Ypd r
 frag : u6 = Yje r
 hasQ : u7 = Ybf r
 hasF : u8 = Yve r
 size : (Ygg u1 u2 u3 u4 u5 u6 u7 u8).size ≤ 2048
 rest : r.length ≤ 2048
theorem Ybm {l : List UInt8} {u1 u2 : Y} {u3 : Int} {u4 u5 u6 : Y} {u7 u8 : Bool} (h : Ytg l = (u1, u2, u3, u4, u5, u6, u7, u8, 0)) : ∃ host r, Ygj u1 u2 u3 u4 u5 u6 u7 u8 host r := by
 unfold Ytg Ypn at h
 generalize Ywf l = c at h
 by_cases h1 : (c.length : Int) > 2048
 ·rw [if_pos h1] at h
  simp only [Yjc, Kaa] at h
  exact absurd h.2.2.2.2.2.2.2.2 Zw
 ·rw [if_neg h1] at h
  unfold Yup at h
  have hrl := (Ynn c [58]).2
  by_cases h2 : (Yaf c ⟨#[]⟩).1 = 0
  ·rw [if_neg (by simpa using h2)] at h
   have hs : (lowL (Lib.cut c [58]).1 = Yxg ∨ lowL (Lib.cut c [58]).1 = Ybg) ∧ Yaf c ⟨#[]⟩ = (0, ofL (Lib.cut c [58]).2.1, ofL (lowL (Lib.cut c [58]).1)) := by
    unfold Yaf at h2 ⊢
    split at h2
    ·next hc =>
     rw [if_pos hc]
     by_cases hl : lowL (Lib.cut c [58]).1 = Yxg ∨ lowL (Lib.cut c [58]).1 = Ybg
     ·exact ⟨hl, by rw [if_pos hl]⟩
     ·simp only [if_neg hl] at h2
      exact absurd h2 Zw
    ·exact absurd (show (3 : Int) = 0 from h2) Zw
   rw [hs.2] at h
   simp only [Ytb] at h
   unfold Yzn at h
   have hps := Yhl (Lib.cut c [58]).2.1 (lowL (Lib.cut c [58]).1)
   by_cases h3 : (Yof (Lib.cut c [58]).2.1 (lowL (Lib.cut c [58]).1) ⟨#[]⟩ 0).1 = 0
   ·rw [if_neg (by simpa using h3)] at h
    have hh : ∃ m, (Ywe m).2 = 0 ∧ (Yof (Lib.cut c [58]).2.1 (lowL (Lib.cut c [58]).1) ⟨#[]⟩ 0).2.2.1 = ofL (Ywe m).1 := by
     refine ⟨(Lib.cut (Yqb (Lib.cut c [58]).2.1) [58]).1, ?_⟩
     revert h3
     unfold Yof
     split
     ·split
      ·intro h3; exact absurd (show (3 : Int) = 0 from h3) Zw
      ·split
       ·next h5 =>
        split
        ·intro _; exact ⟨h5, rfl⟩
        ·split
         ·split
          ·intro _; exact ⟨h5, rfl⟩
          ·intro _; exact ⟨h5, rfl⟩
         ·intro h3; exact absurd (show (3 : Int) = 0 from h3) Zw
       ·next h5 => intro h3; exact absurd h3 h5
     ·intro h3; exact absurd (show (3 : Int) = 0 from h3) Zw
    obtain ⟨m, uE, pK⟩ := hh
    have hm3 : (Ywe m).1 = lowL (Yhb m) ∧ lowL (Yhb m) ≠ [] ∧ Ylj (lowL (Yhb m)) = true := by
     unfold Ywe at uE ⊢
     by_cases e1 : lowL (Yhb m) = []
     ·rw [if_pos e1] at uE; exact absurd uE Zw
     ·rw [if_neg e1] at uE ⊢
      by_cases e2 : Ylj (lowL (Yhb m)) = true
      ·rw [if_pos e2]; exact ⟨rfl, e1, e2⟩
      ·rw [if_neg e2] at uE; exact absurd uE Zw
    generalize Yof (Lib.cut c [58]).2.1 (lowL (Lib.cut c [58]).1) ⟨#[]⟩ 0 = y at h hps pK h3
    unfold urlOf at h
    split at h
    ·simp only [Yjc, Kaa] at h
     exact absurd h.2.2.2.2.2.2.2.2 Zw
    ·next hsz =>
     simp only [Kaa] at h
     obtain ⟨rfl, rfl, rfl, rfl, rfl, rfl, rfl, rfl, _⟩ := h
     refine ⟨(Ywe m).1, y.2.1.data.toList, ?_⟩
     refine ⟨?_, pK, by rw [hm3.1]; exact hm3.2.1, by rw [hm3.1]; exact hm3.2.2, ⟨m, hm3.1⟩, hps.2.2.1, hps.2.2.2, rfl, rfl, rfl, rfl, rfl, Zj, ?_⟩
     ·rcases hs.1 with e | e <;> rw [e]
      ·exact .inl rfl
      ·exact .inr rfl
     ·have := hps.1
      rw [Lib.size_eq] at this
      omega
   ·rw [if_pos (by simpa using h3)] at h
    simp only [Yjc, Kaa] at h
    exact absurd h.2.2.2.2.2.2.2.2 h3
  ·rw [if_pos (by simpa using h2)] at h
   simp only [Yjc, Kaa] at h
   exact absurd h.2.2.2.2.2.2.2.2 h2
end Go.Proofs.YtihaeeldgimdiaaGreatDoor.X
end
section
section
namespace Go.Proofs.YtihaeeldgimdiaaGreatDoor.X
open Go.RowKit Go.Lib Go.Shelf Go.Yw.PrintWords Go.Yw.PrintLast Go.Yw.PrintMore
theorem boxes2 (w : World) (c d : Array Value) (t : TypeId) : Ya (((w.alloc (.cells c t)).alloc (.cells d t)).heap[w.heap.size]? = some (.cells c t (0, 0))) ∧ Ya (((w.alloc (.cells c t)).alloc (.cells d t)).heap[w.heap.size + 1]? = some (.cells d t (0, 0))) ∧ Ya (Below w.heap.size w ((w.alloc (.cells c t)).alloc (.cells d t))) := by
 have h := heap_alloc_new (w.alloc (.cells c t)) (.cells d t)
 have hsz : (w.alloc (.cells c t)).heap.size = w.heap.size + 1 := Array.size_push _
 rw [hsz] at h
 have hb := (Below.refl w.heap.size w).alloc (Ks _) (.cells c t)
 exact ⟨⟨Yja (heap_alloc_new w (.cells c t)) (.cells d t)⟩, ⟨h⟩, ⟨hb.alloc hb.size (.cells d t)⟩⟩
theorem sum_one (a b : Int) : ((#[.int .u32 a, .int .u64 b] : Array Value).all (·.oneCell')) = true := by simp [Value.oneCell']
theorem and15u (n : Int) : ∃ j : Nat, j < 16 ∧ Go.bits .and .u32 n 15 = (j : Int) := by
 refine ⟨(BitVec.ofInt 32 n &&& BitVec.ofInt 32 15).toNat, ?_, ?_⟩
 ·rw [BitVec.toNat_and]; exact Nat.lt_of_le_of_lt Nat.and_le_right Zw
 ·have h : (BitVec.ofInt 32 n &&& BitVec.ofInt 32 15).toNat < 4294967296 := (BitVec.ofInt 32 n &&& BitVec.ofInt 32 15).isLt
  show IntKind.u32.wrap ((BitVec.ofInt 32 n &&& BitVec.ofInt 32 15).toNat : Int) = _
  generalize (BitVec.ofInt 32 n &&& BitVec.ofInt 32 15).toNat = m at h
  unfold IntKind.wrap
  simp [IntKind.bits, IntKind.signed]
  omega
set_option maxHeartbeats 2000000 in
set_option maxRecDepth 100000 in
theorem Yyn (n : Int) (w : World) : Calls Tryz.prog 82 #[.int .u32 n] w fun e w' => (∃ r, e = .returned (.int .u32 r)) ∧ Below w.heap.size w w' := by
 obtain ⟨j, hj, hje⟩ := and15u n
 have hle : (0 : Int) ≤ (j : Int) := by omega
 have hlt : ((j : Int) < 16) := by omega
 go_enter Tryz.func82, Tryz.ntmps82
 go_wp2
 go_ret
 refine ⟨?_, (Below.refl _ _).alloc (Ks _) _⟩
 clear hje hle hlt
 iterate 16 (rcases j with _ | j; · exact ⟨_, rfl⟩)
 omega
def Yyh (m b : Int) : Int := IntKind.u64.wrap (Go.bits .xor .u64 m (b % 18446744073709551616) * 1099511628211)
def addM (m : Int) (bs : List Int) : Int := Go.bits .xor .u64 (bs.foldl Yyh (Go.bits .xor .u64 m 14695981039346656037)) 14695981039346656037
set_option maxHeartbeats 4000000 in
set_option maxRecDepth 100000 in
theorem Yzo (c m : Int) (A : Option Addr) (k : Nat) (bs : List Int) (w : World) (hr : Kd.C (Kd.int .u8) w A bs.length bs) :
  Calls Tryz.prog 52 #[.agg #[.int .u32 c, .int .u64 m], .slice A bs.length k] w fun e w' => (∃ c', e = .returned (.agg #[.int .u32 c', .int .u64 (addM m bs)])) ∧ Below w.heap.size w w' := by
 have HR := Ya.mk hr
 have hmx : bs.length ≤ 9223372036854775807 := hr.2.1
 clear hr
 obtain ⟨BK, BZ, HB⟩ := boxes2 w #[.int .u32 c, .int .u64 m] #[.int .u32 0, .int .u64 0] 80
 go_enter Tryz.func52, Tryz.ntmps52
 go_wp2_with fail
 refine Ydh (n := 8) (S := fun w' => w'.cell? ⟨w.heap.size, 0, none⟩ = some (.int .u32 c) ∧ w'.cell? ⟨w.heap.size, 1, none⟩ = some (.int .u64 m)) (ds := []) #[false, false, false, false, false, false, false, false] Zi rfl rfl ⟨(Yf (Yma BK.out) 0).trans rfl, (Yf (Yma BK.out) 1).trans rfl⟩ (fun hHeld => ?_)
 replace BK := Ya.mk (Yma BK.out)
 replace BZ := Ya.mk (Yma BZ.out)
 replace HB := Ya.mk (Yc HB.out)
 generalize World.drew _ = wd at BK BZ HB hHeld ⊢
 refine Yjb (i := 0) (N := some 9) (v := ?_) (a' := ?_) #[true, false, false, false, false, false, false, false] rfl rfl Zi (fun _ _ _ h => h) (Or.inl ⟨Zda, ?_⟩) ?_ ?_
 rotate_left
 ·exact Zsb
 rotate_left
 ·exact Ztb
 refine Yxf (i := 1) (N := some 10) (v := ?_) (a' := ?_) #[true, true, false, false, false, false, false, false] rfl rfl Zi (fun _ _ _ h => h) (Or.inl ⟨Zda, ?_⟩) hHeld ?_ ?_
 rotate_left
 ·exact Zub
 rotate_left
 ·exact Ztb
 refine Yjb (i := 2) (N := some 11) (v := ?_) (a' := ?_) #[true, true, true, false, false, false, false, false] rfl rfl Zi (fun _ _ _ h => h) (Or.inl ⟨Zda, ?_⟩) ?_ ?_
 rotate_left
 ·exact Zsb
 rotate_left
 ·exact Ztb
 refine Yjb (i := 3) (N := some 12) (v := ?_) (a' := ?_) #[true, true, true, true, false, false, false, false] rfl rfl Zi (fun _ _ _ h => h) (Or.inl ⟨Zda, ?_⟩) ?_ ?_
 rotate_left
 ·exact Zsb
 rotate_left
 ·exact Ztb
 refine Yxf (i := 4) (N := some 13) (v := ?_) (a' := ?_) #[true, true, true, true, true, false, false, false] rfl rfl Zi (fun _ _ _ h => h) (Or.inl ⟨Zda, ?_⟩) hHeld ?_ ?_
 rotate_left
 ·exact Zub
 rotate_left
 ·exact Ztb
 refine Yjb (i := 5) (N := some 14) (v := ?_) (a' := ?_) #[true, true, true, true, true, true, false, false] rfl rfl Zi (fun _ _ _ h => h) (Or.inl ⟨Zda, ?_⟩) ?_ ?_
 rotate_left
 ·exact Zsb
 rotate_left
 ·exact Ztb
 refine Yjb (i := 6) (N := some 5) (v := ?_) (a' := ?_) #[true, true, true, true, true, true, true, false] rfl rfl Zi (fun _ _ _ h => h) (Or.inl ⟨Zda, ?_⟩) ?_ ?_
 rotate_left
 ·exact Zsb
 rotate_left
 ·exact Ztb
 refine Yjb (i := 7) (N := some 6) (v := ?_) (a' := ?_) #[true, true, true, true, true, true, true, true] rfl rfl Zi (fun _ _ _ h => h) (Or.inl ⟨Zda, ?_⟩) ?_ ?_
 rotate_left
 ·exact Zsb
 rotate_left
 ·exact Ztb
 refine Yoi Zi ?_
 generalize (Go.bits BinOp.xor IntKind.u32 (if IntKind.u32.signed = true then -1 else IntKind.u32.max) c) = c1
 have hi : (Tryz.prog.info? 80).map (·.size) = some 2 := by kernel_rfl
 have hu := Tryz.underlying80
 go_wp2_with fail
 go_loopg [5, 6, 8, 17] bs.length (fun g v5 v6 v8 v17 wx => ∃ (i : Nat) (cx : Int), i + g = bs.length ∧ v5 = .int .u32 cx ∧ v6 = .int .u64 ((bs.take i).foldl Yyh (Go.bits .xor .u64 m 14695981039346656037)) ∧ v17 = .int .i64 (i : Int) ∧ Ya (wx.heap[w.heap.size + 1]? = some (.cells #[.int .u32 0, .int .u64 0] 80 (0, 0))) ∧ Ya (Below w.heap.size w wx))
 case atStart => exact ⟨0, c1, Zj, rfl, rfl, rfl, BZ, HB⟩
 case round =>
  clear BK BZ HB
  obtain ⟨i, cx, hi1, rfl, rfl, rfl, BZ, HB⟩ := hrel
  obtain ⟨mi, hmi⟩ : ∃ z, List.foldl Yyh (Go.bits BinOp.xor IntKind.u64 m 14695981039346656037) (bs.take i) = z := ⟨_, rfl⟩
  rw [hmi]
  have HMI := Ya.mk hmi
  clear hmi
  cases gk with
  | zero =>
   obtain rfl : i = bs.length := by omega
   have HT := Ya.mk (List.take_length (l := bs))
   go_wp2_with ((with_reducible refine Ynb (t := 80) (p := 4) rfl ?_); refine wpList_store_row rfl 80 (.tmp 4) (.tmp 45) rfl (w.heap.size + 1) _ rfl rfl 80 _ BZ.out hi rfl (sum_one _ _) ?_)
   refine bodyPost_ret (v := ?v1x) ?hv1x ?dv1x ?_
   case hv1x => refine results_cell_row (p := 4) (ty := 80) ?_ _ _ (w.heap.size + 1) 80 #[.int .u32 (Go.bits BinOp.xor IntKind.u32 (if IntKind.u32.signed = true then -1 else IntKind.u32.max) cx), .int .u64 (Go.bits BinOp.xor IntKind.u64 mi 14695981039346656037)] (0, 0) _ ?_ (setRow_heap _ _ _ _ _ _ BZ.out) hu rfl hi <;> rfl
   case dv1x => rfl
   have ha : addM m bs = Go.bits .xor .u64 mi 14695981039346656037 := by rw [← HMI.out, HT.out]; rfl
   rw [ha]
   exact ⟨⟨_, rfl⟩, below_setRow HB.out Zj _⟩
  | succ g1 =>
   have hlt : i < bs.length := by omega
   have c0 : decide ((i : Int) < (bs.length : Int)) = true := Kn Zj
   have c1_ : decide (i < bs.length) = true := Kn hlt
   have p5 : 0 ≤ (i : Int) := by omega
   have q5 : (i : Int) < (bs.length : Int) := by omega
   obtain ⟨ad, e5, gJ⟩ := Kd.at_int HR.out (i : Int) p5 q5
   subst e5
   rw [Int.toNat_natCast] at gJ
   replace gJ := (HB.out.cell (World.block_lt_of_cell? w _ gJ)).trans gJ
   have hts : bs.take (i + 1) = bs.take i ++ [rd bs (i : Int)] := by
    rw [List.take_add_one]; unfold rd; rw [Int.toNat_natCast, List.getD_eq_getElem?_getD, List.getElem?_eq_getElem hlt]; rfl
   have HTS := Ya.mk hts
   have iN : wrap64 ((i : Int) + 1) = ((i + 1 : Nat) : Int) := by unfold wrap64; omega
   have HW := Ya.mk iN
   generalize rd bs (i : Int) = x at gJ HTS
   clear hts iN
   go_wp2_with fail
   refine (Yyn _ _).mono ?_
   rintro e w1 ⟨⟨r1, rfl⟩, hb⟩
   replace BZ := Ya.mk (Ycb BZ.out hb)
   replace HB := Ya.mk (HB.out.trans (hb.mono HB.out.size))
   clear hb
   go_wp2_with fail
   refine (Yyn _ _).mono ?_
   rintro e w2 ⟨⟨r2, rfl⟩, hb⟩
   replace BZ := Ya.mk (Ycb BZ.out hb)
   replace HB := Ya.mk (HB.out.trans (hb.mono HB.out.size))
   clear hb
   have HW2 := Ya.mk HW.out
   go_wp2_with fail
   go_roundg g1
   case measure => omega
   case rel => exact ⟨i + 1, _, Zj, rfl, by rw [HTS.out, List.foldl_append, HMI.out]; rfl, Zq, BZ, HB⟩
def Ypl (m : Int) (s : Y) : Int := addM (addM m (bytesOf s)) [0]
def Yrl : Y := ⟨#[48, 49, 50, 51, 52, 53, 54, 55, 56, 57, 97, 98, 99, 100, 101, 102]⟩
def hexD (n : Int) : Nat → List Int
 | 0 => []
 | i + 1 => bt Yrl (Go.bits .and .u64 (shr .u64 n (4 * (i : Int))) 15) :: hexD n i
def Ypg (l : List Y) : Y := strOfNums (hexD (Go.bits .xor .u64 (l.foldl Ypl 0) 14695981039346656037) 16)
theorem and15v (n : Int) : 0 ≤ Go.bits .and .u64 n 15 ∧ Go.bits .and .u64 n 15 < 16 := by
 have e : Go.bits .and .u64 n 15 = ((BitVec.ofInt 64 n &&& BitVec.ofInt 64 15).toNat : Int) := by
  have h : (BitVec.ofInt 64 n &&& BitVec.ofInt 64 15).toNat < 18446744073709551616 := (BitVec.ofInt 64 n &&& BitVec.ofInt 64 15).isLt
  show IntKind.u64.wrap ((BitVec.ofInt 64 n &&& BitVec.ofInt 64 15).toNat : Int) = _
  generalize (BitVec.ofInt 64 n &&& BitVec.ofInt 64 15).toNat = m at h
  unfold IntKind.wrap
  simp [IntKind.bits, IntKind.signed]
  omega
 have h : (BitVec.ofInt 64 n &&& BitVec.ofInt 64 15).toNat < 16 := by rw [BitVec.toNat_and]; exact Nat.lt_of_le_of_lt Nat.and_le_right Zw
 omega
theorem hex_l0 (n : Int) : ∀ (d k : Nat) (acc : List Int), d ≤ 16 → acc.length + d ≤ 16 → d < k → Yoe.l0 k n acc ((d : Int) - 1) = some (strOfNums (acc ++ hexD n d))
 | 0, k, acc, _, _, hk => by
  obtain ⟨k, rfl⟩ : ∃ m, k = m + 1 := ⟨k - 1, Zj⟩
  simp only [Yoe.l0]
  rw [if_neg Zj]
  simp [hexD]
 | d + 1, k, acc, hd, ha, hk => by
  obtain ⟨k, rfl⟩ : ∃ m, k = m + 1 := ⟨k - 1, Zj⟩
  have e : (((d + 1 : Nat) : Int) - 1) = (d : Int) := by omega
  rw [e]
  have h4 : wrap64 (4 * (d : Int)) = 4 * (d : Int) := by unfold wrap64; omega
  have h1 : wrap64 ((d : Int) - 1) = (d : Int) - 1 := by unfold wrap64; omega
  obtain ⟨q1, q2⟩ := and15v (shr .u64 n (4 * (d : Int)))
  simp only [Yoe.l0]
  rw [if_pos Zj, h4, if_pos Zj, if_pos q1, if_pos q2, if_pos Zj, h1, hex_l0 n d k _ Zj Zfb Zj, List.append_assoc]
  rfl
theorem hex_f (n : Int) : Yoe.f 20 n 16 = some (strOfNums (hexD n 16)) := by
 have := hex_l0 n 16 20 [] Zj Zq Zj
 rw [List.nil_append] at this
 exact this
def Yfj.f (l : List Y) : Option Y := if (∀ s ∈ l, s.size ≤ 140737488355328) then some (Ypg l) else none
set_option maxHeartbeats 4000000 in
set_option maxRecDepth 100000 in
theorem Yfj.calls (A0 : Option Addr) (c0 : Nat) (l0 : List Y) (r : Y) (w : World) (hE : EnvOk w) (nD : Kd.C Kd.string w A0 l0.length l0) (eE : l0.length ≤ c0) (h : Yfj.f l0 = some r) :
  Calls Tryz.prog 29 #[.slice A0 l0.length c0] w fun e w' => e = .returned (.string r) ∧ Below w.heap.size w w' := by
 unfold Yfj.f at h
 by_cases hs : ∀ s ∈ l0, s.size ≤ 140737488355328
 rotate_left
 ·rw [if_neg hs] at h; exact absurd h Zq
 rw [if_pos hs] at h
 obtain rfl := Kr h
 clear h
 have HE := Ya.mk hE
 have HR := Ya.mk nD
 have HS := Ya.mk hs
 have hmx : l0.length ≤ 9223372036854775807 := nD.2.1
 clear hE nD hs
 have hi : (Tryz.prog.info? 80).map (·.size) = some 2 := by kernel_rfl
 have hu := Tryz.underlying80
 go_enter Tryz.func29, Tryz.ntmps29
 go_wp2_with fail
 refine (Yrp.calls 0 0 _ HE.out rfl).mono ?_
 rintro e w1 ⟨rfl, hb⟩
 have jT := Ya.mk hb
 have HB := Ya.mk hb
 clear hb
 have BT := Ya.mk (heap_alloc_new w1 (.cells #[.int .u32 0, .int .u64 0] 80))
 replace HB := Ya.mk (HB.out.alloc HB.out.size (.cells #[.int .u32 0, .int .u64 0] 80))
 have HG := Ya.mk (show w.heap.size ≤ w1.heap.size from by have := HB.out.size; have e : (w1.alloc (.cells #[.int .u32 0, .int .u64 0] 80)).heap.size = w1.heap.size + 1 := Array.size_push _; have := jT.out.size; omega)
 go_wp2_with fail
 generalize w1.alloc _ = w2 at BT HB ⊢
 generalize w1.heap.size = g at BT HG ⊢
 go_loopg [5, 9] l0.length (fun gk v5 v9 wx => ∃ (i : Nat) (cx : Int), i + gk = l0.length ∧ v9 = .int .i64 (i : Int) ∧ Ya (wx.heap[g]? = some (.cells #[.int .u32 cx, .int .u64 ((l0.take i).foldl Ypl 0)] 80 (0, 0))) ∧ Ya (Below w.heap.size w wx))
 case atStart => exact ⟨0, 0, Zj, rfl, BT, HB⟩
 case round =>
  clear BT HB
  obtain ⟨i, cx, hi1, rfl, BT, HB⟩ := hrel
  cases gk with
  | zero =>
   obtain rfl : i = l0.length := by omega
   rw [List.take_length] at BT
   have eE := (Yf BT.out 0).trans rfl
   have fL := (Yf BT.out 1).trans rfl
   go_wp2_with fail
   refine (Yui.calls cx _ _ _ (HE.out.below HB.out) rfl).mono ?_
   rintro e w3 ⟨rfl, hb⟩
   replace HB := Ya.mk (HB.out.trans (hb.mono HB.out.size))
   clear hb eE fL
   go_wp2_with fail
   refine (Yoe.calls 20 _ 16 _ _ (HE.out.below HB.out) (hex_f _)).mono ?_
   rintro e w4 ⟨rfl, hb⟩
   replace HB := Ya.mk (HB.out.trans (hb.mono HB.out.size))
   clear hb
   go_wp2_with fail
   go_ret
   exact ⟨rfl, HB.out⟩
  | succ g1 =>
   have hlt : i < l0.length := by omega
   have c0_ : decide ((i : Int) < (l0.length : Int)) = true := Kn Zj
   have c1_ : decide (i < l0.length) = true := Kn hlt
   have p5 : 0 ≤ (i : Int) := by omega
   have q5 : (i : Int) < (l0.length : Int) := by omega
   obtain ⟨ad, e5, gJ⟩ := Kd.at_string HR.out (i : Int) p5 q5
   subst e5
   rw [Int.toNat_natCast] at gJ
   replace gJ := (HB.out.cell (World.block_lt_of_cell? w _ gJ)).trans gJ
   have hrd : rdOf ByteArray.empty l0 (i : Int) = l0[i] := by unfold rdOf; rw [Int.toNat_natCast, List.getD_eq_getElem?_getD, List.getElem?_eq_getElem hlt]; rfl
   have hts : l0.take (i + 1) = l0.take i ++ [rdOf ByteArray.empty l0 (i : Int)] := by
    rw [hrd, List.take_add_one, List.getElem?_eq_getElem hlt]; rfl
   have HTS := Ya.mk hts
   have HX := Ya.mk (show (rdOf ByteArray.empty l0 (i : Int)).size ≤ 140737488355328 by rw [hrd]; exact HS.out _ (List.getElem_mem hlt))
   have iN : wrap64 ((i : Int) + 1) = ((i + 1 : Nat) : Int) := by unfold wrap64; omega
   have HW := Ya.mk iN
   generalize rdOf ByteArray.empty l0 (i : Int) = x at gJ HTS HX
   obtain ⟨mi, hmi⟩ : ∃ z, List.foldl Ypl 0 (l0.take i) = z := ⟨_, rfl⟩
   rw [hmi] at BT
   have HMI := Ya.mk hmi
   clear hts iN hmi hrd
   have hq0 := (Yf BT.out 0).trans rfl
   have hq1 := (Yf BT.out 1).trans rfl
   have hcv := Ydr (P := Tryz.prog) 9 67 5 Tryz.underlying9 Tryz.underlying67 Tryz.underlying5 x wr
   have BR := Ya.mk (Yzq wr 5 x (by have := HX.out; omega))
   have fJ := Ya.mk (Yxr HB.out HB.out.size 5 x)
   have BT2 := Ya.mk ((Lib.bytesWorld_at_old wr 5 x g (by have := Array.getElem?_eq_some_iff.1 BT.out; exact this.1)).trans BT.out)
   go_wp2_with fail
   clear hq0 hq1 hcv
   have AC := Yzo cx mi (some ⟨wr.heap.size, 0, none⟩) (grownCap wr x.size 0 5) (bytesOf x) (Lib.bytesWorld wr 5 x) (Kd.C_of_reads (enc := Value.int .u8) (d := (0 : Int)) (h1 := fun _ => rfl) (by rw [bytesOf_length]; exact BR.out))
   rw [bytesOf_length] at AC
   refine AC.mono ?_
   clear AC
   rintro e w3 ⟨⟨r1, rfl⟩, hb⟩
   clear BT HB
   have BT := Ya.mk (Ycb BT2.out hb)
   have HB := Ya.mk (fJ.out.trans (hb.mono fJ.out.size))
   clear hb BR BT2 fJ
   go_wp2_with fail
   have AC := Yzo r1 (addM mi (bytesOf x)) (some ⟨w3.heap.size, 0, none⟩) 1 [0] (w3.alloc (.cells #[.int .u8 0] 5)) ⟨rfl, Zw, fun _ => ⟨_, rfl, fun j p hj => ⟨[.int .u8 p], rfl, rfl, fun a u hu => by
    rcases j with _ | j
    ·rcases a with _ | a
     ·simp at hj hu
      subst hj hu
      exact (Yf (heap_alloc_new w3 (.cells #[.int .u8 0] 5)) 0).trans rfl
     ·simp at hu
    ·simp at hj⟩⟩⟩
   refine AC.mono ?_
   clear AC
   rintro e w4 ⟨⟨r2, rfl⟩, hb⟩
   replace BT := Ya.mk (Ycb (Yja BT.out (.cells #[.int .u8 0] 5)) hb)
   replace HB := Ya.mk ((HB.out.alloc HB.out.size (.cells #[.int .u8 0] 5)).trans (hb.mono (HB.out.alloc HB.out.size (.cells #[.int .u8 0] 5)).size))
   clear hb
   go_wp2_with ((with_reducible refine Ynb (t := 80) (p := 3) rfl ?_); refine wpList_store_row rfl 80 (.tmp 3) (.tmp 18) rfl g #[.int .u32 r2, .int .u64 (addM (addM mi (bytesOf x)) [0])] rfl rfl 80 _ BT.out hi rfl (sum_one _ _) ?_)
   have BT5 := Ya.mk (setRow_heap _ _ _ #[.int .u32 r2, .int .u64 (addM (addM mi (bytesOf x)) [0])] _ _ BT.out)
   have cH := Ya.mk (below_setRow HB.out HG.out #[.int .u32 r2, .int .u64 (addM (addM mi (bytesOf x)) [0])])
   have HW2 := Ya.mk HW.out
   go_roundg g1
   case measure => omega
   case rel => exact ⟨i + 1, r2, Zj, Zq, by rw [HTS.out, List.foldl_append, HMI.out]; exact BT5, cH⟩
end Go.Proofs.YtihaeeldgimdiaaGreatDoor.X
end
section
namespace Go.Proofs.YtihaeeldgimdiaaGreatDoor.X
open Go.RowKit Go.Lib Go.Yw.PrintWords Go.Yw.PrintLast Go.Yw.PrintMore
def Ydq (n : Nat) : Y := strOfNums (Yvf n)
def Yug : List Y → List (List Y) → List Y
 | p, [] => p
 | p, l :: r => Yug ((p ++ [Ydq l.length]) ++ l) r
def keyE (u : UrlE) : Y := Ygg u.1 u.2.1 u.2.2.1 u.2.2.2.1 u.2.2.2.2.1 ⟨#[]⟩ u.2.2.2.2.2.2.1 false
def Yvm (uid url name text html : Y) (photos replies likes reposts : List Y) : Y :=
 if uid.toList = ([] : List UInt8) then
  (if (Ytg url.data.toList).2.2.2.2.2.2.2.2 = 0 then (⟨#[108, 58]⟩ : Y) ++ keyE (Ytg url.data.toList)
  else (if url.toList = ([] : List UInt8) then (⟨#[104, 58]⟩ : Y) ++ Ypg (Yug [name, text, html] [replies, likes, reposts, photos])
  else (⟨#[108, 58]⟩ : Y) ++ url))
 else (⟨#[117, 58]⟩ : Y) ++ uid
theorem Yvk (l : List Y) : (Ypg l).size = 16 := by
 unfold Ypg
 rw [strOfNums_size]
 have : ∀ (n : Int) (d : Nat), (hexD n d).length = d := fun n d => by
  induction d with
  | zero => rfl
  | succ d ih => simp [hexD, ih]
 exact this _ 16
theorem Ywi {u1 u2 : Y} {u3 : Int} {u4 u5 u6 : Y} {u7 u8 : Bool} {host r : List UInt8} (hp : Ygj u1 u2 u3 u4 u5 u6 u7 u8 host r) :
  u1.size ≤ 100000 ∧ u2.size ≤ 100000 ∧ u4.size ≤ 100000 ∧ u5.size ≤ 100000 := by
 have hrl := hp.rest
 have ht := Yok r
 refine ⟨?_, ?_, ?_, ?_⟩
 ·rcases hp.sch with e | e <;> (rw [e]; decide)
 ·have e1 := hp.hostEq
  have hn := hp.name
  unfold Ylj at hn
  simp only [Bool.and_eq_true, decide_eq_true_eq] at hn
  rw [e1, Yfa]; omega
 ·rw [hp.path]; omega
 ·rw [hp.query]; omega
theorem ofKey_f {u1 u2 : Y} {u3 : Int} {u4 u5 u6 : Y} {u7 u8 : Bool} {host r : List UInt8} (hp : Ygj u1 u2 u3 u4 u5 u6 u7 u8 host r) :
  EvR (fun k => Yni.f k u1 u2 u3 u4 u5 u6 u7 u8) (Ygg u1 u2 u3 u4 u5 ⟨#[]⟩ u7 false) := by
 obtain ⟨s1, s2, s4, s5⟩ := Ywi hp
 have hz : (⟨#[]⟩ : Y).size = 0 := rfl
 have h3 := Ysr u1 u2 u3 u4 u5 ⟨#[]⟩ u7 false Zj Zj Zj Zj Zj hp.p0 (by have := hp.p1; omega)
 unfold Yni.f Yii.f
 simp only [Kba]
 exact EvR.bind h3 (EvR.of fun k => rfl)
theorem Ybo {u1 u2 : Y} {u3 : Int} {u4 u5 u6 : Y} {u7 u8 : Bool} {host r : List UInt8} (hp : Ygj u1 u2 u3 u4 u5 u6 u7 u8 host r) :
  (Ygg u1 u2 u3 u4 u5 ⟨#[]⟩ u7 false).size ≤ 1000000 := by
 obtain ⟨s1, s2, s4, s5⟩ := Ywi hp
 have ho := Yri u1 u2 u3
 have hz : (⟨#[]⟩ : Y).size = 0 := rfl
 unfold Ygg Yyp Ypp
 cases u7 <;> simp [ByteArray.size_append, Ydn, hz] <;> omega
end Go.Proofs.YtihaeeldgimdiaaGreatDoor.X
end
end
