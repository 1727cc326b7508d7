import Derived.Test.YtnmglnglbdpjjaaGreatDoorUfZu
import Derived.Test.YtnmglnglbdpjjaaGreatDoorUfJp
set_option linter.all false
namespace Go.Proofs.YtnmglnglbdpjjaaGreatDoor.X
open Go.RowKit Go.Lib Go.Shelf Go.Yw.PrintWords Go.Yw.PrintLast Go.Yw.PrintMore
attribute [local go_sem] Yfe Ybe Yre Yue Yld Ykd Yee Yde
def Yzq : Bool × List (List Nat × List Nat) := (true, [([], []), ([], []), ([1], [1]), ([], []), ([3], [3]), ([4], [4]), ([5], [5]), ([2, 6], [2, 6]), ([], []), ([7, 8], [7, 8]), ([0, 9, 5], [0, 9]), ([10, 10, 0, 1, 2, 3, 4, 5, 6, 7, 8, 9, 10], [10])])
def within_B3 : List Nat := [0, 0, 2, 0, 8, 24, 56, 126, 0, 510, 1023, 2047]
theorem Yps : rtab .any (opsOf Tryz.f72 3) = Yzq := by kernel_rfl
theorem Yis : Yig Yzq.2 within_B3 = true := by kernel_rfl
theorem put8 {W : World} {g : Nat} {t : TypeId} {o1 o2 : Y} {o3 : Int} {o4 o5 o6 : Y} {o7 o8 : Bool} {u1 u2 : Y} {u3 : Int} {u4 u5 u6 : Y} {u7 u8 : Bool} (h : W.heap[g]? = some (.cells (uc o1 o2 o3 o4 o5 o6 o7 o8) t (0, 0))) :
  ((((((((W.setCell ⟨g, 0, none⟩ (.string u1)).setCell ⟨g, 1, none⟩ (.string u2)).setCell ⟨g, 2, none⟩ (.int .i64 u3)).setCell ⟨g, 3, none⟩ (.string u4)).setCell ⟨g, 4, none⟩ (.string u5)).setCell ⟨g, 5, none⟩ (.string u6)).setCell ⟨g, 6, none⟩ (.bool u7)).setCell ⟨g, 7, none⟩ (.bool u8)).heap[g]? = some (.cells (uc u1 u2 u3 u4 u5 u6 u7 u8) t (0, 0)) := by
 have h0 : (W.setCell ⟨g, 0, none⟩ (.string u1)).heap[g]? = some (.cells (uc u1 o2 o3 o4 o5 o6 o7 o8) t (0, 0)) := Yoa h 0 _ rfl
 have h1 : ((W.setCell ⟨g, 0, none⟩ (.string u1)).setCell ⟨g, 1, none⟩ (.string u2)).heap[g]? = some (.cells (uc u1 u2 o3 o4 o5 o6 o7 o8) t (0, 0)) := Yoa h0 1 _ rfl
 have h2 : (((W.setCell ⟨g, 0, none⟩ (.string u1)).setCell ⟨g, 1, none⟩ (.string u2)).setCell ⟨g, 2, none⟩ (.int .i64 u3)).heap[g]? = some (.cells (uc u1 u2 u3 o4 o5 o6 o7 o8) t (0, 0)) := Yoa h1 2 _ rfl
 have h3 : ((((W.setCell ⟨g, 0, none⟩ (.string u1)).setCell ⟨g, 1, none⟩ (.string u2)).setCell ⟨g, 2, none⟩ (.int .i64 u3)).setCell ⟨g, 3, none⟩ (.string u4)).heap[g]? = some (.cells (uc u1 u2 u3 u4 o5 o6 o7 o8) t (0, 0)) := Yoa h2 3 _ rfl
 have h4 : (((((W.setCell ⟨g, 0, none⟩ (.string u1)).setCell ⟨g, 1, none⟩ (.string u2)).setCell ⟨g, 2, none⟩ (.int .i64 u3)).setCell ⟨g, 3, none⟩ (.string u4)).setCell ⟨g, 4, none⟩ (.string u5)).heap[g]? = some (.cells (uc u1 u2 u3 u4 u5 o6 o7 o8) t (0, 0)) := Yoa h3 4 _ rfl
 have h5 : ((((((W.setCell ⟨g, 0, none⟩ (.string u1)).setCell ⟨g, 1, none⟩ (.string u2)).setCell ⟨g, 2, none⟩ (.int .i64 u3)).setCell ⟨g, 3, none⟩ (.string u4)).setCell ⟨g, 4, none⟩ (.string u5)).setCell ⟨g, 5, none⟩ (.string u6)).heap[g]? = some (.cells (uc u1 u2 u3 u4 u5 u6 o7 o8) t (0, 0)) := Yoa h4 5 _ rfl
 have h6 : (((((((W.setCell ⟨g, 0, none⟩ (.string u1)).setCell ⟨g, 1, none⟩ (.string u2)).setCell ⟨g, 2, none⟩ (.int .i64 u3)).setCell ⟨g, 3, none⟩ (.string u4)).setCell ⟨g, 4, none⟩ (.string u5)).setCell ⟨g, 5, none⟩ (.string u6)).setCell ⟨g, 6, none⟩ (.bool u7)).heap[g]? = some (.cells (uc u1 u2 u3 u4 u5 u6 u7 o8) t (0, 0)) := Yoa h5 6 _ rfl
 have h7 : ((((((((W.setCell ⟨g, 0, none⟩ (.string u1)).setCell ⟨g, 1, none⟩ (.string u2)).setCell ⟨g, 2, none⟩ (.int .i64 u3)).setCell ⟨g, 3, none⟩ (.string u4)).setCell ⟨g, 4, none⟩ (.string u5)).setCell ⟨g, 5, none⟩ (.string u6)).setCell ⟨g, 6, none⟩ (.bool u7)).setCell ⟨g, 7, none⟩ (.bool u8)).heap[g]? = some (.cells (uc u1 u2 u3 u4 u5 u6 u7 u8) t (0, 0)) := Yoa h6 7 _ rfl
 exact h7
theorem far8 {W : World} {g r : Nat} {t : TypeId} {cs : Array Value} {u1 u2 : Y} {u3 : Int} {u4 u5 u6 : Y} {u7 u8 : Bool} (h : W.heap[r]? = some (.cells cs t (0, 0))) (hne : g ≠ r) :
  ((((((((W.setCell ⟨g, 0, none⟩ (.string u1)).setCell ⟨g, 1, none⟩ (.string u2)).setCell ⟨g, 2, none⟩ (.int .i64 u3)).setCell ⟨g, 3, none⟩ (.string u4)).setCell ⟨g, 4, none⟩ (.string u5)).setCell ⟨g, 5, none⟩ (.string u6)).setCell ⟨g, 6, none⟩ (.bool u7)).setCell ⟨g, 7, none⟩ (.bool u8)).heap[r]? = some (.cells cs t (0, 0)) :=
 Yvb (Yvb (Yvb (Yvb (Yvb (Yvb (Yvb (Yvb h hne.symm _) hne.symm _) hne.symm _) hne.symm _) hne.symm _) hne.symm _) hne.symm _) hne.symm _
theorem Yir {w W : World} {g : Nat} {u1 u2 : Y} {u3 : Int} {u4 u5 u6 : Y} {u7 u8 : Bool} (h : Below w.heap.size w W) (hg : w.heap.size ≤ g) :
  Below w.heap.size w ((((((((W.setCell ⟨g, 0, none⟩ (.string u1)).setCell ⟨g, 1, none⟩ (.string u2)).setCell ⟨g, 2, none⟩ (.int .i64 u3)).setCell ⟨g, 3, none⟩ (.string u4)).setCell ⟨g, 4, none⟩ (.string u5)).setCell ⟨g, 5, none⟩ (.string u6)).setCell ⟨g, 6, none⟩ (.bool u7)).setCell ⟨g, 7, none⟩ (.bool u8)) :=
 Yg (Yg (Yg (Yg (Yg (Yg (Yg (Yg h hg) hg) hg) hg) hg) hg) hg) hg
def Yii (b0 b1 : Y) (b2 : Int) (l : List UInt8) : UrlT := (b0, b1, b2, Ycd l, Yyb l, Ycc l, Yqc l, Ydc l)
def Yfh (b0 b1 : Y) (b2 : Int) (b3 b4 : Y) (b6 : Bool) : List UInt8 → UrlT
 | [] => (b0, b1, b2, b3, b4, ⟨#[]⟩, b6, false)
 | c :: t => if c = 35 then (b0, b1, b2, b3, b4, Ycc (c :: t), b6, true)
  else if c = 63 then (b0, b1, b2, b3, Yyb (c :: t), Ycc (c :: t), Yqc (c :: t), Ydc (c :: t))
  else if Yrb c = true then Yii b0 b1 b2 (c :: t)
  else Yii b0 b1 b2 (upTo b3.data.toList ++ c :: t)
theorem Yki (b0 b1 : Y) (b2 : Int) (b3 b4 : Y) (b6 : Bool) (c : UInt8) (t : List UInt8) : Yfh b0 b1 b2 b3 b4 b6 (c :: t) = if c = 35 then (b0, b1, b2, b3, b4, Ycc (c :: t), b6, true) else if c = 63 then (b0, b1, b2, b3, Yyb (c :: t), Ycc (c :: t), Yqc (c :: t), Ydc (c :: t)) else if Yrb c = true then Yii b0 b1 b2 (c :: t) else Yii b0 b1 b2 (upTo b3.data.toList ++ c :: t) := rfl
theorem Yzs (c : UInt8) (t : List UInt8) : (0 < Yjh (c :: t)) ↔ Yrb c = true := by
 unfold Yjh
 rw [List.take_succ_cons]
 by_cases h : Yrb c = true
 ·rw [List.takeWhile_cons_of_pos h]; simp [h]
 ·rw [List.takeWhile_cons_of_neg h]; simp [h]
theorem low_sign (c : UInt8) : (lowB c = 35 ↔ c = 35) ∧ (lowB c = 63 ↔ c = 63) := by
 revert c; exact Yad Zma
set_option maxHeartbeats 8000000 in
set_option maxRecDepth 100000 in
theorem Yvt (kS : Nat) (b0 b1 : Y) (b2 : Int) (b3 b4 b5 : Y) (b6 b7 : Bool) (s t v1 v2 : Y) (v3 : Int) (v4 v5 v6 : Y) (v7 v8 : Bool) (w : World) (hE : EnvOk w) (h3 : b3.size ≤ 1000000) (hs : s.size ≤ 1000000)
  (hu : Yfh b0 b1 b2 b3 b4 b6 s.data.toList = (v1, v2, v3, v4, v5, v6, v7, v8)) (hS : Yid.f kS v1 v2 v3 v4 v5 v6 v7 v8 = some t) (res : Array Value) (hres : (if (t.size : Int) > 2048 then #[.agg (uc ⟨#[]⟩ ⟨#[]⟩ 0 ⟨#[]⟩ ⟨#[]⟩ ⟨#[]⟩ false false), .int .i64 5] else #[.agg (uc v1 v2 v3 v4 v5 v6 v7 v8), .int .i64 0]) = res) :
  Calls Tryz.prog 72 #[.agg (uc b0 b1 b2 b3 b4 b5 b6 b7), .string s] w fun e w' => e = .returned (.tuple res) ∧ Below w.heap.size w w' := by
 have HRES := Ya.mk hres
 clear hres
 have HE := Ya.mk hE
 have HS := Ya.mk hS
 have HS1 := Ya.mk (show s.size ≤ 100000000 by omega)
 have bQ := Tryz.underlying25
 have bD : (Tryz.prog.info? 25).map (·.size) = some 8 := by kernel_rfl
 obtain ⟨m, hm⟩ : ∃ m : Int, mn (s.size : Int) 1 = m := ⟨_, rfl⟩
 have hm_ : (if 1 < (s.size : Int) then 1 else (s.size : Int)) = m := hm
 have hmt : m = ((min s.size 1 : Nat) : Int) := by rw [← hm]; unfold mn; split <;> omega
 have dI := Kt (show 0 ≤ m by omega)
 have qP : decide (0 ≤ m) = true := Kr Zk
 have dN := Kt (show m ≤ (s.size : Int) by omega)
 have jB : decide (m ≤ (s.size : Int)) = true := Kr Zk
 obtain ⟨kd, hkd⟩ : ∃ kd, kd = ofL (lowL (s.data.toList.take 1)) := ⟨_, rfl⟩
 have HL := Ya.mk (show Yib.f (s.extract 0 m.toNat) = some kd from by
  have e1 : s.extract 0 m.toNat = ofL (s.data.toList.take 1) := by
   rw [Yge]; congr 1
   have : s.size = s.data.toList.length := Lib.size_eq s
   rw [hmt]
   by_cases hz : s.size = 0
   ·rw [List.eq_nil_of_length_eq_zero (by omega : s.data.toList.length = 0)]; simp
   ·rw [show ((min s.size 1 : Nat) : Int).toNat = 1 by omega]
  unfold Yib.f
  rw [e1, if_pos (by rw [Yy, List.length_take]; omega), hkd, Ygb])
 obtain ⟨kL, hkL⟩ := Yhs s Zk
 obtain ⟨nL, hnL⟩ : ∃ n : Int, n = ((Yjh s.data.toList : Nat) : Int) := ⟨_, rfl⟩
 have HSL := Ya.mk (show Yub.f kL s = some nL from by rw [hnL]; exact hkL kL (Kw _))
 obtain ⟨kI, hkI⟩ := last_f b3 Zk
 obtain ⟨nI, hnI⟩ : ∃ n : Int, n = ((upTo b3.data.toList).length : Int) - 1 := ⟨_, rfl⟩
 have HIX := Ya.mk (show strings_LastIndexByte.f kI b3 47 = some nI from by rw [hnI]; exact hkI kI (Kw _))
 have hup := Yor b3.data.toList
 rw [← Lib.size_eq] at hup
 obtain ⟨pH, aWD⟩ : ∃ n : Int, wrap64 (nI + 1) = n := ⟨_, rfl⟩
 have aKo : pH = ((upTo b3.data.toList).length : Int) := by rw [← aWD, hnI]; unfold wrap64; omega
 have cW := Kt (show 0 ≤ pH by omega)
 have iD : decide (0 ≤ pH) = true := Kr Zk
 have gS := Kt (show pH ≤ (b3.size : Int) by omega)
 have jA : decide (pH ≤ (b3.size : Int)) = true := Kr Zk
 have hxe : b3.extract 0 pH.toNat = ofL (upTo b3.data.toList) := by
  rw [Yge, aKo, Int.toNat_natCast, ← Yxq]
 have hxs : (b3.extract 0 pH.toNat ++ s).size ≤ 2000000 := by rw [ByteArray.size_append, hxe, Yy]; omega
 have HS2 := Ya.mk (show (b3.extract 0 pH.toNat ++ s).size ≤ 100000000 by omega)
 have c9 : (b3.extract 0 pH.toNat).size + s.size ≤ 9223372036854775807 := by rw [ByteArray.size_append] at hxs; omega
 have iC := Kt c9
 have lT : (9223372036854775807 < (b3.extract 0 pH.toNat).size + s.size) = False := eq_false Zk
 have aWE : (9223372036854775807 < pH.toNat + s.size) = False := eq_false Zk
 have zO : (9223372036854775807 < (pH.toNat - 0) + s.size) = False := eq_false Zk
 have hxd : (b3.extract 0 pH.toNat ++ s).data.toList = upTo b3.data.toList ++ s.data.toList := by rw [hxe, ByteArray.data_append, Array.toList_append, Ygb]
 have hbr : ((kd.toList == ([] : List UInt8)) = true ∧ Ya ((v1, v2, v3, v4, v5, v6, v7, v8) = (b0, b1, b2, b3, b4, ⟨#[]⟩, b6, false))) ∨
   ((kd.toList == ([] : List UInt8)) = false ∧ (kd.toList == ([35] : List UInt8)) = true ∧ Ya ((v1, v2, v3, v4, v5, v6, v7, v8) = (b0, b1, b2, b3, b4, Ycc s.data.toList, b6, true))) ∨
   ((kd.toList == ([] : List UInt8)) = false ∧ (kd.toList == ([35] : List UInt8)) = false ∧ (kd.toList == ([63] : List UInt8)) = true ∧ Ya ((v1, v2, v3, v4, v5, v6, v7, v8) = (b0, b1, b2, b3, Yyb s.data.toList, Ycc s.data.toList, Yqc s.data.toList, Ydc s.data.toList))) ∨
   ((kd.toList == ([] : List UInt8)) = false ∧ (kd.toList == ([35] : List UInt8)) = false ∧ (kd.toList == ([63] : List UInt8)) = false ∧ decide (0 < nL) = true ∧ Ya ((v1, v2, v3, v4, v5, v6, v7, v8) = Yii b0 b1 b2 s.data.toList)) ∨
   ((kd.toList == ([] : List UInt8)) = false ∧ (kd.toList == ([35] : List UInt8)) = false ∧ (kd.toList == ([63] : List UInt8)) = false ∧ decide (0 < nL) = false ∧ Ya ((v1, v2, v3, v4, v5, v6, v7, v8) = Yii b0 b1 b2 (b3.extract 0 pH.toNat ++ s).data.toList)) := by
  rw [hxd]
  rw [← hu, hkd, Ywc, hnL]
  cases hsl : s.data.toList with
  | nil => exact .inl ⟨rfl, ⟨rfl⟩⟩
  | cons c r =>
   have hk : lowL ((c :: r).take 1) = [lowB c] := rfl
   have hl := low_sign c
   have hsc := Yzs c r
   right
   rw [hk, Yki]
   by_cases h35 : c = 35
   ·left; exact ⟨rfl, by rw [hl.1.2 h35]; rfl, ⟨by rw [if_pos h35]⟩⟩
   ·right
    have g35 : ([lowB c] == ([35] : List UInt8)) = false := beq_eq_false_iff_ne.2 fun h => h35 (hl.1.1 (by simpa using h))
    by_cases zJ : c = 63
    ·left; exact ⟨rfl, g35, by rw [hl.2.2 zJ]; rfl, ⟨by rw [if_neg h35, if_pos zJ]⟩⟩
    ·right
     have g63 : ([lowB c] == ([63] : List UInt8)) = false := beq_eq_false_iff_ne.2 fun h => zJ (hl.2.1 (by simpa using h))
     by_cases hsp : Yrb c = true
     ·left; exact ⟨rfl, g35, g63, Kr (by have := hsc.2 hsp; omega), ⟨by rw [if_neg h35, if_neg zJ, if_pos hsp]⟩⟩
     ·right; exact ⟨rfl, g35, g63, Ks (fun h => hsp (hsc.1 Zk)), ⟨by rw [if_neg h35, if_neg zJ, if_neg hsp]⟩⟩
 clear hE hS hu hmt hkd hkL hnL hkI hnI aKo hup hxe hxs hxd h3 hs
 have HBA := Ya.mk ((Below.refl w.heap.size w).alloc (Kw _) (.cells (uc b0 b1 b2 b3 b4 b5 b6 b7) 25))
 have iB := Ya.mk (HBA.out.alloc HBA.out.size (.cells urlZ 25))
 have hbk := Ym (heap_alloc_new w (.cells (uc b0 b1 b2 b3 b4 b5 b6 b7) 25)) (.cells urlZ 25)
 have BZ := Ya.mk (heap_alloc_new (w.alloc (.cells (uc b0 b1 b2 b3 b4 b5 b6 b7) 25)) (.cells urlZ 25))
 rw [Yof] at BZ
 obtain ⟨cQ, cB, cN, cX, cU, cT, cY, cR⟩ := Yea hbk
 go_enter Tryz.func72, Tryz.ntmps72
 go_wp2_with fail
 clear cQ cB cN cX cU cT cY cR hbk
 refine (Ygj.calls b0 b1 b2 b3 b4 b5 b6 b7 b0 b1 b2 b3 b4 ⟨#[]⟩ b6 false _ (HE.out.below iB.out) rfl).mono ?_
 rintro e w1 ⟨rfl, lS⟩
 replace BZ := Ya.mk (Yla BZ.out lS)
 have eL := Ya.mk (iB.out.trans (lS.mono iB.out.size))
 clear lS iB HBA
 have HN := Ya.mk (show w1.heap.size ≠ w.heap.size + 1 from Nat.ne_of_gt (Yyd BZ.out))
 have HGE := Ya.mk (show w.heap.size ≤ w1.heap.size from eL.out.size)
 have BG := Ya.mk (heap_alloc_new w1 (.cells #[.string b0, .string b1, .int .i64 b2, .string b3, .string b4, .string ⟨#[]⟩, .bool b6, .bool false] 25))
 replace BZ := Ya.mk (Ym BZ.out (.cells #[.string b0, .string b1, .int .i64 b2, .string b3, .string b4, .string ⟨#[]⟩, .bool b6, .bool false] 25))
 have HB := Ya.mk (eL.out.alloc eL.out.size (.cells #[.string b0, .string b1, .int .i64 b2, .string b3, .string b4, .string ⟨#[]⟩, .bool b6, .bool false] 25))
 go_wp2_with fail
 generalize w1.alloc (.cells #[.string b0, .string b1, .int .i64 b2, .string b3, .string b4, .string ⟨#[]⟩, .bool b6, .bool false] 25) = w2 at BG BZ HB ⊢
 obtain ⟨g, hg⟩ : ∃ n, n = w1.heap.size := ⟨_, rfl⟩
 rw [← hg] at BG HN HGE ⊢
 clear hg eL
 refine (Yib.calls (s.extract 0 m.toNat) kd _ (HE.out.below HB.out) HL.out).mono ?_
 rintro e w3 ⟨rfl, hb⟩
 replace BG := Ya.mk (Yla BG.out hb)
 replace BZ := Ya.mk (Yla BZ.out hb)
 replace HB := Ya.mk (HB.out.trans (hb.mono HB.out.size))
 clear hb
 clear dI qP dN jB hm hm_
 go_upto_block 0 with fail
 (try simp only [Act.put, Kca])
 go_cut [] (fun wx => Ya (wx.heap[g]? = some (.cells (uc v1 v2 v3 v4 v5 v6 v7 v8) 25 (0, 0))) ∧ Ya (wx.heap[w.heap.size + 1]? = some (.cells urlZ 25 (0, 0))) ∧ Ya (Below w.heap.size w wx))
 case first =>
  rcases hbr with ⟨f0, HV⟩ | ⟨f0, f35, HV⟩ | ⟨f0, f35, f63, HV⟩ | ⟨f0, f35, f63, fs, HV⟩ | ⟨f0, f35, f63, fs, HV⟩
  ·have zL := HV.out.symm
   simp only [Yii, Kea] at zL
   obtain ⟨rfl, rfl, rfl, rfl, rfl, rfl, rfl, rfl⟩ := zL
   clear HV
   go_wp2_with fail
   go_meet
   case rel => exact ⟨BG, BZ, HB⟩
  ·obtain ⟨tp, htp⟩ : ∃ x, Ycd s.data.toList = x := ⟨_, rfl⟩
   obtain ⟨tq, htq⟩ : ∃ x, Yyb s.data.toList = x := ⟨_, rfl⟩
   obtain ⟨tf, htf⟩ : ∃ x, Ycc s.data.toList = x := ⟨_, rfl⟩
   obtain ⟨hq, hhq⟩ : ∃ x, Yqc s.data.toList = x := ⟨_, rfl⟩
   obtain ⟨hf, hhf⟩ : ∃ x, Ydc s.data.toList = x := ⟨_, rfl⟩
   have zL := HV.out.symm
   simp only [Yii, Kea, htp, htq, htf, hhq, hhf] at zL
   obtain ⟨rfl, rfl, rfl, rfl, rfl, rfl, rfl, rfl⟩ := zL
   clear HV
   obtain ⟨cQ, cB, cN, cX, cU, cT, cY, cR⟩ := Yea BG.out
   go_wp2_with fail
   clear cQ cB cN cX cU cT cY cR
   refine (Yai b0 b1 b2 b3 b4 ⟨#[]⟩ b6 false s _ (HE.out.below HB.out) HS1.out).mono ?_
   rintro e w5 ⟨rfl, hb⟩
   replace BG := Ya.mk (Yla BG.out hb)
   replace BZ := Ya.mk (Yla BZ.out hb)
   replace HB := Ya.mk (HB.out.trans (hb.mono HB.out.size))
   clear hb
   have BN := Ya.mk (heap_alloc_new w5 (.cells #[.string b0, .string b1, .int .i64 b2, .string tp, .string tq, .string tf, .bool hq, .bool hf] 25))
   have qF := Ya.mk (show w5.heap.size ≠ g from Nat.ne_of_gt (Yyd BG.out))
   replace BG := Ya.mk (Ym BG.out (.cells #[.string b0, .string b1, .int .i64 b2, .string tp, .string tq, .string tf, .bool hq, .bool hf] 25))
   replace BZ := Ya.mk (Ym BZ.out (.cells #[.string b0, .string b1, .int .i64 b2, .string tp, .string tq, .string tf, .bool hq, .bool hf] 25))
   replace HB := Ya.mk (HB.out.alloc HB.out.size (.cells #[.string b0, .string b1, .int .i64 b2, .string tp, .string tq, .string tf, .bool hq, .bool hf] 25))
   rw [htp, htq, htf, hhq, hhf]
   go_wp2_with fail
   generalize w5.alloc (.cells #[.string b0, .string b1, .int .i64 b2, .string tp, .string tq, .string tf, .bool hq, .bool hf] 25) = w7 at BG BZ BN HB ⊢
   obtain ⟨g2, hg2⟩ : ∃ n, n = w5.heap.size := ⟨_, rfl⟩
   rw [← hg2] at BN qF ⊢
   clear hg2
   refine Ykg (n := 6) (S := fun w' => w'.cell? ⟨g2, 0, none⟩ = some (.string b0) ∧ w'.cell? ⟨g2, 1, none⟩ = some (.string b1) ∧ w'.cell? ⟨g2, 2, none⟩ = some (.int .i64 b2) ∧ w'.cell? ⟨g2, 3, none⟩ = some (.string tp) ∧ w'.cell? ⟨g2, 4, none⟩ = some (.string tq) ∧ w'.cell? ⟨g2, 5, none⟩ = some (.string tf) ∧ w'.cell? ⟨g2, 6, none⟩ = some (.bool hq) ∧ w'.cell? ⟨g2, 7, none⟩ = some (.bool hf)) (ds := []) #[false, false, false, false, false, false] Zi rfl rfl (Yea (Yp BN.out)) (fun hHeld => ?_)
   replace BG := Ya.mk (Yp BG.out)
   replace BZ := Ya.mk (Yp BZ.out)
   replace HB := Ya.mk (Yc HB.out)
   generalize w7.drew = w8 at BG BZ HB hHeld ⊢
   refine Yya (i := 0) (N := some 38) (v := ?_) (a' := ?_) #[true, false, false, false, false, false] rfl rfl Zi (fun _ _ _ h => h) (Or.inl ⟨Zga, ?_⟩) ?_ ?_
   rotate_left
   ·exact Zyb
   rotate_left
   ·exact Zzb
   refine Yya (i := 2) (N := some 40) (v := ?_) (a' := ?_) #[true, false, true, false, false, false] rfl rfl Zi (fun _ _ _ h => h) (Or.inl ⟨Zga, ?_⟩) ?_ ?_
   rotate_left
   ·exact Zyb
   rotate_left
   ·exact Zzb
   refine Ynf (i := 1) (N := some 39) (v := ?_) (a' := ?_) #[true, true, true, false, false, false] rfl rfl Zi (fun _ _ _ h => h) (Or.inl ⟨Zga, ?_⟩) hHeld ?_ ?_
   rotate_left
   ·exact Zac
   rotate_left
   ·exact Zzb
   refine one_ (i := 3) (N := none) #[true, true, true, true, false, false] rfl rfl Zi Zca (fun K hK => ?_)
   have aWF := (Yf BG.out 7).trans rfl
   have aKp := Ye BG.out 7
   refine Ysi (w1 := ?_) Zga rfl ?_ ?_
   rotate_left
   ·go_simp
    rfl
   refine hK.out _ _ ⟨(cell_far (p := ⟨g, _, none⟩) qF.out _).trans hHeld.1, (cell_far (p := ⟨g, _, none⟩) qF.out _).trans hHeld.2.1, (cell_far (p := ⟨g, _, none⟩) qF.out _).trans hHeld.2.2.1, (cell_far (p := ⟨g, _, none⟩) qF.out _).trans hHeld.2.2.2.1, (cell_far (p := ⟨g, _, none⟩) qF.out _).trans hHeld.2.2.2.2.1, (cell_far (p := ⟨g, _, none⟩) qF.out _).trans hHeld.2.2.2.2.2.1, (cell_far (p := ⟨g, _, none⟩) qF.out _).trans hHeld.2.2.2.2.2.2.1, (cell_far (p := ⟨g, _, none⟩) qF.out _).trans hHeld.2.2.2.2.2.2.2⟩ (fun hHeld => ?_)
   clear hK K aWF aKp
   replace BZ := Ya.mk (Yvb BZ.out (p := ⟨g, 7, none⟩) HN.out.symm (.bool true))
   replace HB := Ya.mk (Yg (j := 7) (v := .bool true) HB.out HGE.out)
   replace BG := Ya.mk (Yoa BG.out 7 (.bool true) rfl)
   generalize w8.setCell ⟨g, 7, none⟩ (.bool true) = w9 at BG BZ HB hHeld ⊢
   refine Yya (i := 4) (N := some 41) (v := ?_) (a' := ?_) #[true, true, true, true, true, false] rfl rfl Zi (fun _ _ _ h => h) (Or.inl ⟨Zga, ?_⟩) ?_ ?_
   rotate_left
   ·exact Zyb
   rotate_left
   ·exact Zzb
   refine one_ (i := 5) (N := none) #[true, true, true, true, true, true] rfl rfl Zi Zca (fun K hK => ?_)
   have aWG := (Yf BG.out 5).trans rfl
   have aKq := Ye BG.out 5
   refine Ysi (w1 := ?_) Zga rfl ?_ ?_
   rotate_left
   ·go_simp
    rfl
   refine hK.out _ _ ⟨(cell_far (p := ⟨g, _, none⟩) qF.out _).trans hHeld.1, (cell_far (p := ⟨g, _, none⟩) qF.out _).trans hHeld.2.1, (cell_far (p := ⟨g, _, none⟩) qF.out _).trans hHeld.2.2.1, (cell_far (p := ⟨g, _, none⟩) qF.out _).trans hHeld.2.2.2.1, (cell_far (p := ⟨g, _, none⟩) qF.out _).trans hHeld.2.2.2.2.1, (cell_far (p := ⟨g, _, none⟩) qF.out _).trans hHeld.2.2.2.2.2.1, (cell_far (p := ⟨g, _, none⟩) qF.out _).trans hHeld.2.2.2.2.2.2.1, (cell_far (p := ⟨g, _, none⟩) qF.out _).trans hHeld.2.2.2.2.2.2.2⟩ (fun hHeld => ?_)
   clear hK K aWG aKq
   replace BZ := Ya.mk (Yvb BZ.out (p := ⟨g, 5, none⟩) HN.out.symm (.string tf))
   replace HB := Ya.mk (Yg (j := 5) (v := .string tf) HB.out HGE.out)
   replace BG := Ya.mk (Yoa BG.out 5 (.string tf) rfl)
   generalize w9.setCell ⟨g, 5, none⟩ (.string tf) = wa at BG BZ HB ⊢
   refine Yoh Zi ?_
   try go_wp2
   go_meet
   case rel => exact ⟨BG, BZ, HB⟩
  ·obtain ⟨tp, htp⟩ : ∃ x, Ycd s.data.toList = x := ⟨_, rfl⟩
   obtain ⟨tq, htq⟩ : ∃ x, Yyb s.data.toList = x := ⟨_, rfl⟩
   obtain ⟨tf, htf⟩ : ∃ x, Ycc s.data.toList = x := ⟨_, rfl⟩
   obtain ⟨hq, hhq⟩ : ∃ x, Yqc s.data.toList = x := ⟨_, rfl⟩
   obtain ⟨hf, hhf⟩ : ∃ x, Ydc s.data.toList = x := ⟨_, rfl⟩
   have zL := HV.out.symm
   simp only [Yii, Kea, htp, htq, htf, hhq, hhf] at zL
   obtain ⟨rfl, rfl, rfl, rfl, rfl, rfl, rfl, rfl⟩ := zL
   clear HV
   obtain ⟨cQ, cB, cN, cX, cU, cT, cY, cR⟩ := Yea BG.out
   go_wp2_with fail
   clear cQ cB cN cX cU cT cY cR
   refine (Yai b0 b1 b2 b3 b4 ⟨#[]⟩ b6 false s _ (HE.out.below HB.out) HS1.out).mono ?_
   rintro e w5 ⟨rfl, hb⟩
   replace BG := Ya.mk (Yla BG.out hb)
   replace BZ := Ya.mk (Yla BZ.out hb)
   replace HB := Ya.mk (HB.out.trans (hb.mono HB.out.size))
   clear hb
   rw [htp, htq, htf, hhq, hhf]
   go_wp2_with ((with_reducible refine Yxa (t := 25) (p := 6) rfl ?_); refine wpList_store_row rfl 25 (.tmp 6) (.tmp 49) rfl g (uc b0 b1 b2 tp tq tf hq hf) rfl rfl 25 _ BG.out bD rfl (Ypb _ _ _ _ _ _ _ _) ?_; replace BZ := Ya.mk ((setRow_other w5 g (w.heap.size + 1) (uc b0 b1 b2 tp tq tf hq hf) HN.out.symm).trans BZ.out); replace HB := Ya.mk (below_setRow HB.out HGE.out (uc b0 b1 b2 tp tq tf hq hf)); replace BG := Ya.mk (setRow_heap _ _ _ (uc b0 b1 b2 tp tq tf hq hf) _ _ BG.out); generalize w5.setRow g (uc b0 b1 b2 tp tq tf hq hf) = wn at BG BZ HB ⊢; have hcz := (Yf BG.out 3).trans rfl; have hfz := Ye BG.out 3)
   go_meet
   case rel => exact ⟨⟨Yoa BG.out 3 (.string b3) rfl⟩, ⟨Yvb BZ.out (p := ⟨g, 3, none⟩) HN.out.symm _⟩, ⟨Yg HB.out HGE.out⟩⟩
  ·obtain ⟨tp, htp⟩ : ∃ x, Ycd s.data.toList = x := ⟨_, rfl⟩
   obtain ⟨tq, htq⟩ : ∃ x, Yyb s.data.toList = x := ⟨_, rfl⟩
   obtain ⟨tf, htf⟩ : ∃ x, Ycc s.data.toList = x := ⟨_, rfl⟩
   obtain ⟨hq, hhq⟩ : ∃ x, Yqc s.data.toList = x := ⟨_, rfl⟩
   obtain ⟨hf, hhf⟩ : ∃ x, Ydc s.data.toList = x := ⟨_, rfl⟩
   have zL := HV.out.symm
   simp only [Yii, Kea, htp, htq, htf, hhq, hhf] at zL
   obtain ⟨rfl, rfl, rfl, rfl, rfl, rfl, rfl, rfl⟩ := zL
   clear HV
   go_wp2_with fail
   refine (Yub.calls kL s nL _ (HE.out.below HB.out) HSL.out).mono ?_
   rintro e w4 ⟨rfl, hb⟩
   replace BG := Ya.mk (Yla BG.out hb)
   replace BZ := Ya.mk (Yla BZ.out hb)
   replace HB := Ya.mk (HB.out.trans (hb.mono HB.out.size))
   clear hb
   obtain ⟨cQ, cB, cN, cX, cU, cT, cY, cR⟩ := Yea BG.out
   go_wp2_with fail
   clear cQ cB cN cX cU cT cY cR
   refine (Yai b0 b1 b2 b3 b4 ⟨#[]⟩ b6 false s _ (HE.out.below HB.out) HS1.out).mono ?_
   rintro e w5 ⟨rfl, hb⟩
   replace BG := Ya.mk (Yla BG.out hb)
   replace BZ := Ya.mk (Yla BZ.out hb)
   replace HB := Ya.mk (HB.out.trans (hb.mono HB.out.size))
   clear hb
   rw [htp, htq, htf, hhq, hhf]
   go_wp2_with ((with_reducible refine Yxa (t := 25) (p := 6) rfl ?_); refine wpList_store_row rfl 25 (.tmp 6) (.tmp 58) rfl g (uc b0 b1 b2 tp tq tf hq hf) rfl rfl 25 _ BG.out bD rfl (Ypb _ _ _ _ _ _ _ _) ?_; replace BZ := Ya.mk ((setRow_other w5 g (w.heap.size + 1) (uc b0 b1 b2 tp tq tf hq hf) HN.out.symm).trans BZ.out); replace HB := Ya.mk (below_setRow HB.out HGE.out (uc b0 b1 b2 tp tq tf hq hf)); replace BG := Ya.mk (setRow_heap _ _ _ (uc b0 b1 b2 tp tq tf hq hf) _ _ BG.out); generalize w5.setRow g (uc b0 b1 b2 tp tq tf hq hf) = wn at BG BZ HB ⊢)
   go_meet
   case rel => exact ⟨BG, BZ, HB⟩
  ·obtain ⟨tp, htp⟩ : ∃ x, Ycd (b3.extract 0 pH.toNat ++ s).data.toList = x := ⟨_, rfl⟩
   obtain ⟨tq, htq⟩ : ∃ x, Yyb (b3.extract 0 pH.toNat ++ s).data.toList = x := ⟨_, rfl⟩
   obtain ⟨tf, htf⟩ : ∃ x, Ycc (b3.extract 0 pH.toNat ++ s).data.toList = x := ⟨_, rfl⟩
   obtain ⟨hq, hhq⟩ : ∃ x, Yqc (b3.extract 0 pH.toNat ++ s).data.toList = x := ⟨_, rfl⟩
   obtain ⟨hf, hhf⟩ : ∃ x, Ydc (b3.extract 0 pH.toNat ++ s).data.toList = x := ⟨_, rfl⟩
   have zL := HV.out.symm
   simp only [Yii, Kea, htp, htq, htf, hhq, hhf] at zL
   obtain ⟨rfl, rfl, rfl, rfl, rfl, rfl, rfl, rfl⟩ := zL
   clear HV
   go_wp2_with fail
   refine (Yub.calls kL s nL _ (HE.out.below HB.out) HSL.out).mono ?_
   rintro e w4 ⟨rfl, hb⟩
   replace BG := Ya.mk (Yla BG.out hb)
   replace BZ := Ya.mk (Yla BZ.out hb)
   replace HB := Ya.mk (HB.out.trans (hb.mono HB.out.size))
   clear hb
   go_wp2_with fail
   refine Ykg (n := 12) (S := fun w' => w'.cell? ⟨g, 0, none⟩ = some (.string b0) ∧ w'.cell? ⟨g, 1, none⟩ = some (.string b1) ∧ w'.cell? ⟨g, 2, none⟩ = some (.int .i64 b2) ∧ w'.cell? ⟨g, 3, none⟩ = some (.string b3) ∧ w'.cell? ⟨g, 4, none⟩ = some (.string b4) ∧ w'.cell? ⟨g, 5, none⟩ = some (.string ⟨#[]⟩) ∧ w'.cell? ⟨g, 6, none⟩ = some (.bool b6) ∧ w'.cell? ⟨g, 7, none⟩ = some (.bool false)) (ds := [11]) #[false, false, false, false, false, false, false, false, false, false, false, false] Zi rfl rfl (Yea (Yp BG.out)) (fun hHeld => ?_); refine Ylf Yps Yis (fun HT_ HW_ => ?_)
   replace BG := Ya.mk (Yp BG.out)
   replace BZ := Ya.mk (Yp BZ.out)
   replace HB := Ya.mk (Yc HB.out)
   generalize w4.drew = w5 at BG BZ HB hHeld ⊢
   refine Yya (i := 1) (N := some 19) (v := ?_) (a' := ?_) #[false, true, false, false, false, false, false, false, false, false, false, false] rfl rfl (Ysa HT_.out Zi) (fun _ _ _ h => h) (Or.inl ⟨Zga, ?_⟩) ?_ ?_
   rotate_left
   ·exact Zyb
   rotate_left
   ·exact Zzb
   refine Yya (i := 3) (N := some 21) (v := ?_) (a' := ?_) #[false, true, false, true, false, false, false, false, false, false, false, false] rfl rfl (Ysa HT_.out Zi) (fun _ _ _ h => h) (Or.inl ⟨Zga, ?_⟩) ?_ ?_
   rotate_left
   ·exact Zyb
   rotate_left
   ·exact Zzb
   refine Yya (i := 8) (N := some 26) (v := ?_) (a' := ?_) #[false, true, false, true, false, false, false, false, true, false, false, false] rfl rfl (Ysa HT_.out Zi) (fun _ _ _ h => h) (Or.inl ⟨Zga, ?_⟩) ?_ ?_
   rotate_left
   ·exact Zyb
   rotate_left
   ·exact Zzb
   refine Ynf (i := 0) (N := some 18) (v := ?_) (a' := ?_) #[true, true, false, true, false, false, false, false, true, false, false, false] rfl rfl (Yae HT_.out HW_.out Zi) (fun _ _ _ h => h) (Or.inl ⟨Zga, ?_⟩) hHeld ?_ ?_
   rotate_left
   ·exact Zac
   rotate_left
   ·exact Zzb
   refine Ynf (i := 2) (N := some 20) (v := ?_) (a' := ?_) #[true, true, true, true, false, false, false, false, true, false, false, false] rfl rfl (Yae HT_.out HW_.out Zi) (fun _ _ _ h => h) (Or.inl ⟨Zga, ?_⟩) hHeld ?_ ?_
   rotate_left
   ·exact Zac
   rotate_left
   ·exact Zzb
   refine Ynf (i := 4) (N := some 22) (v := ?_) (a' := ?_) #[true, true, true, true, true, false, false, false, true, false, false, false] rfl rfl (Yae HT_.out HW_.out Zi) (fun _ _ _ h => h) (Or.inl ⟨Zga, ?_⟩) hHeld ?_ ?_
   rotate_left
   ·exact Zac
   rotate_left
   ·exact Zzb
   refine one_ (i := 5) (N := some 23) #[true, true, true, true, true, true, false, false, true, false, false, false] rfl rfl (Yne HT_.out Zi) Zca (fun K hK => ?_)
   refine Yvh Tryz.func108 Zi rfl #[.string b3, .int .u8 47] Zga rfl rfl Zz ?_
   refine (strings_LastIndexByte.calls kI b3 47 nI _ (HE.out.below HB.out) HIX.out).mono ?_
   rintro e w6 ⟨rfl, ⟨nd, rfl⟩⟩
   refine ⟨_, rfl, ?_⟩
   replace BG := Ya.mk (Yi BG.out nd)
   replace BZ := Ya.mk (Yi BZ.out nd)
   replace HB := Ya.mk (Yb HB.out nd)
   generalize w5.drewN nd = w6 at BG BZ HB ⊢
   refine hK.out _ _ (Yea BG.out) (fun hHeld => ?_)
   clear hK K
   refine Yeg (a' := ?_) ?_ ?_
   rotate_left
   ·show Act.put _ (some 23) _ = _
    simp only [Act.put, Kca, Yaa, Yda]
    rfl
   refine Yya (i := 6) (N := some 24) (v := ?_) (a' := ?_) #[true, true, true, true, true, true, true, false, true, false, false, false] rfl rfl (Ysa HT_.out Zi) (fun _ _ _ h => h) (Or.inl ⟨Zga, ?_⟩) ?_ ?_
   rotate_left
   ·exact Zyb
   rotate_left
   ·exact Zzb
   refine Yya (i := 7) (N := some 25) (v := ?_) (a' := ?_) #[true, true, true, true, true, true, true, true, true, false, false, false] rfl rfl (Ysa HT_.out Zi) (fun _ _ _ h => h) (Or.inl ⟨Zga, ?_⟩) ?_ ?_
   rotate_left
   ·exact Zyb
   rotate_left
   ·exact Zzb
   refine Yya (i := 9) (N := some 27) (v := ?_) (a' := ?_) #[true, true, true, true, true, true, true, true, true, true, false, false] rfl rfl (Ysa HT_.out Zi) (fun _ _ _ h => h) (Or.inl ⟨Zga, ?_⟩) ?_ ?_
   rotate_left
   ·exact Zyb
   rotate_left
   ·exact Zzb
   refine one_ (i := 10) (N := some 28) #[true, true, true, true, true, true, true, true, true, true, true, false] rfl rfl (Yne HT_.out Zi) Zca (fun K hK => ?_)
   refine Yvh Tryz.func17 Zi rfl #[.agg #[.string b0, .string b1, .int .i64 b2, .string b3, .string b4, .string ⟨#[]⟩, .bool b6, .bool false], .string (b3.extract 0 pH.toNat ++ s)] Zga rfl rfl Zz ?_
   refine (Yai b0 b1 b2 b3 b4 ⟨#[]⟩ b6 false (b3.extract 0 pH.toNat ++ s) _ (HE.out.below HB.out) HS2.out).mono ?_
   rintro e w7 ⟨rfl, hb⟩
   refine ⟨_, rfl, ?_⟩
   replace BG := Ya.mk (Yla BG.out hb)
   replace BZ := Ya.mk (Yla BZ.out hb)
   replace HB := Ya.mk (HB.out.trans (hb.mono HB.out.size))
   clear hb
   refine hK.out _ _ (Yea BG.out) (fun hHeld => ?_)
   clear hK K
   refine Yeg (a' := ?_) ?_ ?_
   rotate_left
   ·show Act.put _ (some 28) _ = _
    simp only [Act.put, Kca, Yaa, Yda]
    rfl
   rw [htp, htq, htf, hhq, hhf]
   refine Ymn (i := 11) (N := none) #[true, true, true, true, true, true, true, true, true, true, true, true] rfl rfl (Yne HT_.out Zi) Zca (fun K hK => ?_)
   obtain ⟨cQ, cB, cN, cX, cU, cT, cY, cR⟩ := Yea BG.out
   obtain ⟨hf0, uT, iZ, hf3, hf4, hf5, hf6, hf7⟩ := Ke BG.out
   refine Ysi (w1 := ?_) Zga rfl ?_ ?_
   rotate_left
   ·go_simp
    rfl
   refine hK.out _ _ ?_
   clear hK K
   refine Yoh (Yvg HT_.out Zi) ?_
   try go_wp2
   go_meet
   case rel => exact ⟨⟨put8 BG.out⟩, ⟨far8 BZ.out HN.out⟩, ⟨Yir HB.out HGE.out⟩⟩
 case rest =>
  obtain ⟨BG, BZ, HB⟩ := hcut
  clear hbr HSL HIX HS1 HS2 HL
  obtain ⟨cQ, cB, cN, cX, cU, cT, cY, cR⟩ := Yea BG.out
  go_wp2_with fail
  clear cQ cB cN cX cU cT cY cR
  refine (Yid.calls kS v1 v2 v3 v4 v5 v6 v7 v8 t _ (HE.out.below HB.out) HS.out).mono ?_
  rintro e wt ⟨rfl, hb⟩
  replace BG := Ya.mk (Yla BG.out hb)
  replace BZ := Ya.mk (Yla BZ.out hb)
  replace HB := Ya.mk (HB.out.trans (hb.mono HB.out.size))
  clear hb
  by_cases hbig : (t.size : Int) > 2048
  ·have HBG := Ya.mk (show #[.agg (uc ⟨#[]⟩ ⟨#[]⟩ 0 ⟨#[]⟩ ⟨#[]⟩ ⟨#[]⟩ false false), .int .i64 5] = res from by rw [← HRES.out, if_pos hbig])
   have cb0 : decide (2048 < (t.size : Int)) = true := Kr hbig
   have cb1 : decide (2048 < t.size) = true := Kr Zk
   clear hbig
   go_wp2_with ((with_reducible refine Yxa (t := 25) (p := 4) rfl ?_); refine wpList_store_row rfl 25 (.tmp 4) (.tmp 63) rfl (w.heap.size + 1) (uc ⟨#[]⟩ ⟨#[]⟩ 0 ⟨#[]⟩ ⟨#[]⟩ ⟨#[]⟩ false false) rfl rfl 25 _ BZ.out bD rfl (Ypb _ _ _ _ _ _ _ _) ?_)
   refine bodyPost_ret (v := ?vv) ?hrv ?hdv ?_
   case hrv => refine Yba (p := 4) (u := 5) (ty := 25) ?_ _ _ (w.heap.size + 1) 25 (uc ⟨#[]⟩ ⟨#[]⟩ 0 ⟨#[]⟩ ⟨#[]⟩ ⟨#[]⟩ false false) (0, 0) _ ?_ (setRow_heap _ _ _ _ _ _ BZ.out) bQ rfl bD <;> rfl
   case hdv => rfl
   exact ⟨Znb, below_setRow HB.out Zk _⟩
  ·have HBG := Ya.mk (show #[.agg (uc v1 v2 v3 v4 v5 v6 v7 v8), .int .i64 0] = res from by rw [← HRES.out, if_neg hbig])
   have cb0 : decide (2048 < (t.size : Int)) = false := Ks hbig
   have cb1 : decide (2048 < t.size) = false := Ks Zk
   clear hbig
   obtain ⟨cQ, cB, cN, cX, cU, cT, cY, cR⟩ := Yea BG.out
   go_wp2_with ((with_reducible refine Yxa (t := 25) (p := 4) rfl ?_); refine wpList_store_row rfl 25 (.tmp 4) (.tmp 64) rfl (w.heap.size + 1) (uc v1 v2 v3 v4 v5 v6 v7 v8) rfl rfl 25 _ BZ.out bD rfl (Ypb _ _ _ _ _ _ _ _) ?_)
   refine bodyPost_ret (v := ?vw) ?hrw ?hdw ?_
   case hrw => refine Yba (p := 4) (u := 5) (ty := 25) ?_ _ _ (w.heap.size + 1) 25 (uc v1 v2 v3 v4 v5 v6 v7 v8) (0, 0) _ ?_ (setRow_heap _ _ _ _ _ _ BZ.out) bQ rfl bD <;> rfl
   case hdw => rfl
   exact ⟨Znb, below_setRow HB.out Zk _⟩
def Yzg (u : UrlT) : UrlE := if ((Ytd u.1 u.2.1 u.2.2.1 u.2.2.2.1 u.2.2.2.2.1 u.2.2.2.2.2.1 u.2.2.2.2.2.2.1 u.2.2.2.2.2.2.2).size : Int) > 2048 then Ytb 5 else (u.1, u.2.1, u.2.2.1, u.2.2.2.1, u.2.2.2.2.1, u.2.2.2.2.2.1, u.2.2.2.2.2.2.1, u.2.2.2.2.2.2.2, 0)
theorem Ylr {b0 b1 : Y} {b2 : Int} {b3 b4 : Y} {b6 : Bool} {l : List UInt8} {v1 v2 : Y} {v3 : Int} {v4 v5 v6 : Y} {v7 v8 : Bool} (h : Yfh b0 b1 b2 b3 b4 b6 l = (v1, v2, v3, v4, v5, v6, v7, v8)) :
  v1 = b0 ∧ v2 = b1 ∧ v3 = b2 ∧ v4.size ≤ b3.size + 3 * (b3.size + l.length) + 4 ∧ v5.size ≤ b4.size + 3 * (b3.size + l.length) ∧ v6.size ≤ 3 * (b3.size + l.length) := by
 have hz : (⟨#[]⟩ : Y).size = 0 := rfl
 cases l with
 | nil =>
  simp only [Yfh, Kea] at h
  obtain ⟨rfl, rfl, rfl, rfl, rfl, rfl, rfl, rfl⟩ := h
  exact ⟨rfl, rfl, rfl, Zk, Zk, Zk⟩
 | cons c t =>
  have h1 := Yyh (c :: t)
  have h2 := Yyh (upTo b3.data.toList ++ c :: t)
  have h3 := Yor b3.data.toList
  rw [← Lib.size_eq] at h3
  rw [List.length_append] at h2
  rw [Yki] at h
  unfold Yii at h
  by_cases c1 : c = 35
  ·rw [if_pos c1] at h
   simp only [Kea] at h
   obtain ⟨rfl, rfl, rfl, rfl, rfl, rfl, rfl, rfl⟩ := h
   exact ⟨rfl, rfl, rfl, Zk, Zk, Zk⟩
  ·rw [if_neg c1] at h
   by_cases c2 : c = 63
   ·rw [if_pos c2] at h
    simp only [Kea] at h
    obtain ⟨rfl, rfl, rfl, rfl, rfl, rfl, rfl, rfl⟩ := h
    exact ⟨rfl, rfl, rfl, Zk, Zk, Zk⟩
   ·rw [if_neg c2] at h
    by_cases c3 : Yrb c = true
    ·rw [if_pos c3] at h
     simp only [Kea] at h
     obtain ⟨rfl, rfl, rfl, rfl, rfl, rfl, rfl, rfl⟩ := h
     exact ⟨rfl, rfl, rfl, Zk, Zk, Zk⟩
    ·rw [if_neg c3] at h
     simp only [Kea] at h
     obtain ⟨rfl, rfl, rfl, rfl, rfl, rfl, rfl, rfl⟩ := h
     exact ⟨rfl, rfl, rfl, Zk, Zk, Zk⟩
def Yvf.f (b0 b1 : Y) (b2 : Int) (b3 b4 b5 : Y) (b6 b7 : Bool) (s : Y) : Option (Y × Y × Int × Y × Y × Y × Bool × Bool × Int) :=
 if (0 ≤ b2 ∧ b2 ≤ 65535) ∧ (b0.size ≤ 1000000 ∧ b1.size ≤ 1000000) ∧ (b3.size ≤ 1000000 ∧ b4.size ≤ 1000000) ∧ s.size ≤ 1000000 then some (Yzg (Yfh b0 b1 b2 b3 b4 b6 s.data.toList)) else none
theorem Yvf.calls (b0 b1 : Y) (b2 : Int) (b3 b4 b5 : Y) (b6 b7 : Bool) (s r1 r2 : Y) (r3 : Int) (r4 r5 r6 : Y) (r7 r8 : Bool) (r9 : Int) (w : World) (hE : EnvOk w) (h : Yvf.f b0 b1 b2 b3 b4 b5 b6 b7 s = some (r1, r2, r3, r4, r5, r6, r7, r8, r9)) :
  Calls Tryz.prog 72 #[.agg (uc b0 b1 b2 b3 b4 b5 b6 b7), .string s] w fun e w' => e = .returned (.tuple #[.agg (uc r1 r2 r3 r4 r5 r6 r7 r8), .int .i64 r9]) ∧ Below w.heap.size w w' := by
 unfold Yvf.f at h
 split at h
 ·next hc =>
  obtain ⟨⟨p0, p1⟩, ⟨s0, s1⟩, ⟨s3, s4⟩, ss⟩ := hc
  have h2 := Kv h
  obtain ⟨v1, v2, v3, v4, v5, v6, v7, v8, hv⟩ : ∃ a b c d e f g i, Yfh b0 b1 b2 b3 b4 b6 s.data.toList = (a, b, c, d, e, f, g, i) := ⟨_, _, _, _, _, _, _, _, rfl⟩
  obtain ⟨e1, e2, e3, z4, z5, z6⟩ := Ylr hv
  rw [← Lib.size_eq] at z4 z5 z6
  obtain ⟨kS, hkS⟩ := Ybt v1 v2 v3 v4 v5 v6 v7 v8 (by rw [e1]; omega) (by rw [e2]; omega) Zk Zk Zk (by rw [e3]; exact p0) (by rw [e3]; omega)
  refine (Yvt kS b0 b1 b2 b3 b4 b5 b6 b7 s _ v1 v2 v3 v4 v5 v6 v7 v8 w hE s3 ss hv (hkS kS (Kw _)) _ rfl).mono fun e w' he => ⟨?_, he.2⟩
  rw [he.1]
  rw [hv] at h2
  unfold Yzg at h2
  simp only at h2
  by_cases hbig : ((Ytd v1 v2 v3 v4 v5 v6 v7 v8).size : Int) > 2048
  ·rw [if_pos hbig] at h2 ⊢
   simp only [Ytb, Kea] at h2
   obtain ⟨rfl, rfl, rfl, rfl, rfl, rfl, rfl, rfl, rfl⟩ := h2
   rfl
  ·rw [if_neg hbig] at h2 ⊢
   simp only [Kea] at h2
   obtain ⟨rfl, rfl, rfl, rfl, rfl, rfl, rfl, rfl, rfl⟩ := h2
   rfl
 ·cases h
end Go.Proofs.YtnmglnglbdpjjaaGreatDoor.X
