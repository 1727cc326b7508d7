import Derived.Test.YtnmglnglbdpjjaaGreatDoorUfFo
set_option linter.all false
section
namespace Go.Proofs.YtnmglnglbdpjjaaGreatDoor.X
open Go.RowKit Go.Lib Go.Shelf Go.Yw.PrintWords Go.Yw.PrintLast Go.Yw.PrintMore
set_option maxHeartbeats 8000000
set_option maxRecDepth 100000
def Yeo : Bool × List (List Nat × List Nat) := (true, [([], []), ([], []), ([], []), ([1, 2], [1, 2]), ([3], [3]), ([0, 4], [0, 4]), ([5], [5]), ([6], [6]), ([6], [6]), ([], []), ([9, 7, 5, 0, 1, 2, 3, 4, 5, 6, 7, 9], [7, 9]), ([8, 10, 0, 1, 2, 3, 4, 5, 6, 7, 8, 9, 10], [8])])
def Ycv : List Nat := [0, 0, 0, 6, 14, 31, 63, 127, 127, 0, 767, 2047]
theorem Yes : rtab .any (opsOf Tryz.f39 5) = Yeo := by kernel_rfl
theorem Yzp : Yig Yeo.2 Ycv = true := by kernel_rfl
theorem Yxp (b1 b2 : Y) (b3 : Int) (b4 b5 b6 : Y) (b7 b8 : Bool) (A1 : Option Addr) (c1 : Nat) (l1 : List Y) (res : UrlE) (w : World) (hE : EnvOk w)
  (ha : Room b1 b2 b3 b4 b5 b6)
  (hd : (Ysd b1 b2 b3 b4 b5 b6 b7 b8).size ≤ 1000000)
  (hl : ∀ x ∈ l1, x.size ≤ 1000000)
  (hn : l1.length ≤ 1000)
  (hr1 : Kd.C Kd.string w A1 l1.length l1)
  (cB : l1.length ≤ c1)
  (hres : Ywg (b1, b2, b3, b4, b5, b6, b7, b8) l1 = res) :
  Calls Tryz.prog 39 #[.agg (uc b1 b2 b3 b4 b5 b6 b7 b8), .slice A1 l1.length c1] w fun e w' => e = .returned (.tuple (ansV res)) ∧ Below w.heap.size w w' := by
 have HE := Ya.mk hE
 have HA := Ya.mk ha
 have HD := Ya.mk hd
 have HL := Ya.mk hl
 have HN := Ya.mk hn
 have uU := Ya.mk hr1
 have HC1 := Ya.mk cB
 have HRES := Ya.mk hres
 clear hE ha hd hl hn hr1 cB hres
 have bQ := Tryz.underlying25
 have bD : (Tryz.prog.info? 25).map (·.size) = some 8 := by kernel_rfl
 obtain ⟨BK, BZ, HB⟩ := Yaf w (uc b1 b2 b3 b4 b5 b6 b7 b8) (uc ⟨#[]⟩ ⟨#[]⟩ 0 ⟨#[]⟩ ⟨#[]⟩ ⟨#[]⟩ false false) 25
 have BU := Ya.mk (heap_alloc_new ((w.alloc (.cells (uc b1 b2 b3 b4 b5 b6 b7 b8) 25)).alloc (.cells (uc ⟨#[]⟩ ⟨#[]⟩ 0 ⟨#[]⟩ ⟨#[]⟩ ⟨#[]⟩ false false) 25)) (.cells #[.string b1, .string b2, .int .i64 b3, .string b4, .string b5, .string b6, .bool b7, .bool b8] 25))
 rw [Yof, Yof] at BU
 obtain ⟨cQ, cB, cN, cX, cU, cT, cY, cR⟩ := Yea BK.out
 replace BZ := Ya.mk (Ym BZ.out (.cells #[.string b1, .string b2, .int .i64 b3, .string b4, .string b5, .string b6, .bool b7, .bool b8] 25))
 replace HB := Ya.mk (HB.out.alloc HB.out.size (.cells #[.string b1, .string b2, .int .i64 b3, .string b4, .string b5, .string b6, .bool b7, .bool b8] 25))
 go_enter Tryz.func39, Tryz.ntmps39
 go_wp2_with fail
 clear cQ cB cN cX cU cT cY cR BK
 generalize ((w.alloc (.cells (uc b1 b2 b3 b4 b5 b6 b7 b8) 25)).alloc (.cells (uc ⟨#[]⟩ ⟨#[]⟩ 0 ⟨#[]⟩ ⟨#[]⟩ ⟨#[]⟩ false false) 25)).alloc (.cells #[.string b1, .string b2, .int .i64 b3, .string b4, .string b5, .string b6, .bool b7, .bool b8] 25) = ws at BZ BU HB ⊢
 go_loopg [7] l1.length (fun gk vi wx => ∃ (i : Nat) (x1 x2 : Y) (x3 : Int) (x4 x5 x6 : Y) (x7 x8 : Bool), vi = .int .i64 (i : Int) ∧ Ya (i + gk = l1.length) ∧ Ya (Room x1 x2 x3 x4 x5 x6 ∧ (Ysd x1 x2 x3 x4 x5 x6 x7 x8).size ≤ 1000000) ∧ Ya (Ywg (x1, x2, x3, x4, x5, x6, x7, x8) (l1.drop i) = res) ∧ Ya (wx.heap[w.heap.size + 1 + 1]? = some (.cells (uc x1 x2 x3 x4 x5 x6 x7 x8) 25 (0, 0))) ∧ Ya (wx.heap[w.heap.size + 1]? = some (.cells (uc ⟨#[]⟩ ⟨#[]⟩ 0 ⟨#[]⟩ ⟨#[]⟩ ⟨#[]⟩ false false) 25 (0, 0))) ∧ Ya (Below w.heap.size w wx))
 case atStart => exact ⟨0, b1, b2, b3, b4, b5, b6, b7, b8, rfl, ⟨Zk⟩, ⟨HA.out, HD.out⟩, ⟨by rw [List.drop_zero]; exact HRES.out⟩, BU, BZ, HB⟩
 case round =>
  clear BU BZ HB
  obtain ⟨i, x1, x2, x3, x4, x5, x6, x7, x8, rfl, HIG, HOK, HFL, BU, BZ, HB⟩ := hrel
  cases gk with
  | zero =>
   have hi : i = l1.length := by have := HIG.out; omega
   have c0 : decide ((i : Int) < (l1.length : Int)) = false := Ks Zk
   have c1_ : decide (i < l1.length) = false := Ks Zk
   have hf := HFL.out
   rw [hi, List.drop_length] at hf
   subst hf
   clear hi
   obtain ⟨cQ, cB, cN, cX, cU, cT, cY, cR⟩ := Yea BU.out
   go_wp2_with ((with_reducible refine Yxa (t := 25) (p := 4) rfl ?_); refine wpList_store_row rfl 25 (.tmp 4) (.tmp 31) rfl (w.heap.size + 1) (uc x1 x2 x3 x4 x5 x6 x7 x8) rfl rfl 25 _ BZ.out bD rfl (Ypb _ _ _ _ _ _ _ _) ?_)
   refine bodyPost_ret (v := ?v4x) ?hv4x ?dv4x ?_
   case hv4x => refine Yba (p := 4) (u := 5) (ty := 25) ?_ _ _ (w.heap.size + 1) 25 (uc x1 x2 x3 x4 x5 x6 x7 x8) (0, 0) _ ?_ (setRow_heap _ _ _ _ _ _ BZ.out) bQ rfl bD <;> rfl
   case dv4x => rfl
   exact ⟨rfl, below_setRow HB.out Zk _⟩
  | succ g1 =>
   have hlt : i < l1.length := by have := HIG.out; omega
   have c0 : decide ((i : Int) < (l1.length : Int)) = true := Kr Zk
   have c1_ : decide (i < l1.length) = true := Kr hlt
   obtain ⟨hdr, hmem⟩ := drop_rd l1 i hlt
   have p5 : 0 ≤ (i : Int) := by omega
   have q5 : (i : Int) < (l1.length : Int) := by omega
   obtain ⟨ad, e5, dV⟩ := Kd.at_string uU.out (i : Int) p5 q5
   cases e5
   rw [Int.toNat_natCast] at dV
   have aGZ := dV
   replace dV := (HB.out.cell (World.block_lt_of_cell? w _ dV)).trans dV
   obtain ⟨x9, hx9⟩ : ∃ x, rdOf ByteArray.empty l1 (i : Int) = x := ⟨_, rfl⟩
   rw [hx9] at hdr hmem dV aGZ
   have HX0 := Ya.mk aGZ
   clear aGZ
   have hsz := HL.out x9 hmem
   have hf := HFL.out
   rw [hdr, Ywg] at hf
   obtain ⟨y1, y2, y3, y4, y5, y6, y7, y8, ye, hy⟩ : ∃ a b c d e f g h i, Ylk x1 x2 x3 x4 x5 x6 x7 x8 x9.data.toList = (a, b, c, d, e, f, g, h, i) := ⟨_, _, _, _, _, _, _, _, _, rfl⟩
   have hjt : joinT (x1, x2, x3, x4, x5, x6, x7, x8) x9 = (y1, y2, y3, y4, y5, y6, y7, y8, ye) := hy
   rw [hjt] at hf
   simp only [partsE] at hf
   have HF := Ya.mk hf
   have HY := Ya.mk hy
   have HSZ := Ya.mk hsz
   have hw1 : wrap64 ((i : Int) + 1) = ((i + 1 : Nat) : Int) := by have := HN.out; unfold wrap64; omega
   clear hf hy hjt hdr hmem hsz
   have q6 := Kt hlt
   clear hlt
   replace p5 := Kt p5
   replace q5 := Kt q5
   go_wp2_with fail
   refine Ykg (n := 12) (S := fun w' => (w'.cell? ⟨w.heap.size + 1 + 1, 0, none⟩ = some (.string x1) ∧ w'.cell? ⟨w.heap.size + 1 + 1, 1, none⟩ = some (.string x2) ∧ w'.cell? ⟨w.heap.size + 1 + 1, 2, none⟩ = some (.int .i64 x3) ∧ w'.cell? ⟨w.heap.size + 1 + 1, 3, none⟩ = some (.string x4) ∧ w'.cell? ⟨w.heap.size + 1 + 1, 4, none⟩ = some (.string x5) ∧ w'.cell? ⟨w.heap.size + 1 + 1, 5, none⟩ = some (.string x6) ∧ w'.cell? ⟨w.heap.size + 1 + 1, 6, none⟩ = some (.bool x7) ∧ w'.cell? ⟨w.heap.size + 1 + 1, 7, none⟩ = some (.bool x8)) ∧ w'.cell? (ad.add i) = some (.string x9)) (ds := []) #[false, false, false, false, false, false, false, false, false, false, false, false] Zi rfl rfl ⟨Yea (Yp BU.out), dV⟩ (fun hHeld => ?_); refine Ylf Yes Yzp (fun HT_ HW_ => ?_)
   replace BU := Ya.mk (Yp BU.out)
   replace BZ := Ya.mk (Yp BZ.out)
   replace HB := Ya.mk (Yc HB.out)
   replace dV : (World.drew wr).cell? (ad.add i) = some (.string x9) := dV
   generalize World.drew _ = wd at BU BZ HB dV hHeld ⊢
   refine Ynf (i := 0) (N := some 18) (v := ?_) (a' := ?_) #[true, false, false, false, false, false, false, false, false, false, false, false] rfl rfl (Yae HT_.out HW_.out Zi) (fun _ _ _ h => h) (Or.inl ⟨Zga, ?_⟩) hHeld ?_ ?_
   rotate_left
   ·rintro w' ⟨⟨s0, s1, s2, s3, s4, s5, s6, s7⟩, s8⟩
    go_simp
    with_reducible rfl
   rotate_left
   ·exact Zzb
   refine Yya (i := 1) (N := some 19) (v := ?_) (a' := ?_) #[true, true, false, false, false, false, false, false, false, false, false, false] rfl rfl (Ysa HT_.out Zi) (fun _ _ _ h => h) (Or.inl ⟨Zga, ?_⟩) ?_ ?_
   rotate_left
   ·exact Zyb
   rotate_left
   ·exact Zzb
   refine Yya (i := 2) (N := some 20) (v := ?_) (a' := ?_) #[true, true, true, false, false, false, false, false, false, false, false, false] rfl rfl (Ysa HT_.out Zi) (fun _ _ _ h => h) (Or.inl ⟨Zga, ?_⟩) ?_ ?_
   rotate_left
   ·exact Zyb
   rotate_left
   ·exact Zzb
   refine Yya (i := 3) (N := some 21) (v := ?_) (a' := ?_) #[true, true, true, true, false, false, false, false, false, false, false, false] rfl rfl (Ysa HT_.out Zi) (fun _ _ _ h => h) (Or.inl ⟨Zga, ?_⟩) ?_ ?_
   rotate_left
   ·exact Zyb
   rotate_left
   ·exact Zzb
   refine Ynf (i := 4) (N := some 22) (v := ?_) (a' := ?_) #[true, true, true, true, true, false, false, false, false, false, false, false] rfl rfl (Yae HT_.out HW_.out Zi) (fun _ _ _ h => h) (Or.inl ⟨Zga, ?_⟩) hHeld ?_ ?_
   rotate_left
   ·rintro w' ⟨⟨s0, s1, s2, s3, s4, s5, s6, s7⟩, s8⟩
    go_simp
    with_reducible rfl
   rotate_left
   ·exact Zzb
   refine join_ (σ := Nat) 2 #[true, true, true, true, true, true, true, true, true, true, false, false] (fun s_ => [(23, .tuple #[.agg #[.string y1, .string y2, .int .i64 y3, .string y4, .string y5, .string y6, .bool y7, .bool y8], .int .i64 ye]), (8, .pointer (some ⟨s_, 0, none⟩)), (17, .tuple #[.agg #[.string y1, .string y2, .int .i64 y3, .string y4, .string y5, .string y6, .bool y7, .bool y8], .int .i64 ye]), (24, .agg #[.string y1, .string y2, .int .i64 y3, .string y4, .string y5, .string y6, .bool y7, .bool y8]), (25, .int .i64 ye)]) (fun s_ w' => ((w'.cell? ⟨w.heap.size + 1 + 1, 0, none⟩ = some (.string x1) ∧ w'.cell? ⟨w.heap.size + 1 + 1, 1, none⟩ = some (.string x2) ∧ w'.cell? ⟨w.heap.size + 1 + 1, 2, none⟩ = some (.int .i64 x3) ∧ w'.cell? ⟨w.heap.size + 1 + 1, 3, none⟩ = some (.string x4) ∧ w'.cell? ⟨w.heap.size + 1 + 1, 4, none⟩ = some (.string x5) ∧ w'.cell? ⟨w.heap.size + 1 + 1, 5, none⟩ = some (.string x6) ∧ w'.cell? ⟨w.heap.size + 1 + 1, 6, none⟩ = some (.bool x7) ∧ w'.cell? ⟨w.heap.size + 1 + 1, 7, none⟩ = some (.bool x8)) ∧ w'.cell? (ad.add i) = some (.string x9)) ∧ (w'.heap[w.heap.size + 1 + 1]? = some (.cells (uc x1 x2 x3 x4 x5 x6 x7 x8) 25 (0, 0))) ∧ (w'.heap[w.heap.size + 1]? = some (.cells (uc ⟨#[]⟩ ⟨#[]⟩ 0 ⟨#[]⟩ ⟨#[]⟩ ⟨#[]⟩ false false) 25 (0, 0))) ∧ (w'.heap[s_]? = some (.cells #[.string (⟨#[]⟩ : Y), .string (⟨#[]⟩ : Y), .int .i64 0, .string (⟨#[]⟩ : Y), .string (⟨#[]⟩ : Y), .string (⟨#[]⟩ : Y), .bool false, .bool false] 25 (0, 0))) ∧ (w.heap.size + 1 + 1 < s_) ∧ (Below w.heap.size w w')) ?_ ?_
   rotate_left
   ·intro hCont
    refine two_ (i := 5) (j := 9) (Ni := some 23) (Nj := some 8) #[true, true, true, true, true, true, false, false, false, false, false, false] #[true, true, true, true, true, false, false, false, false, true, false, false] rfl rfl rfl rfl (two_of HT_.out Zi) Zca Zca (fun K hK => ?_) (fun K hK => ?_)
    ·refine Yvh Tryz.func34 Zi rfl #[.agg #[.string x1, .string x2, .int .i64 x3, .string x4, .string x5, .string x6, .bool x7, .bool x8], .string x9] Zga rfl rfl Zz ?_
     refine (Yin HOK.out.1 HOK.out.2 x9 HSZ.out y1 y2 y3 y4 y5 y6 y7 y8 ye HY.out _ (HE.out.below HB.out)).mono ?_
     rintro e we ⟨rfl, hb⟩
     refine ⟨_, rfl, ?_⟩
     replace dV := (hb.cell (World.block_lt_of_cell? _ _ dV)).trans dV
     replace BU := Ya.mk (Yla BU.out hb)
     replace BZ := Ya.mk (Yla BZ.out hb)
     replace HB := Ya.mk (HB.out.trans (hb.mono HB.out.size))
     clear hb
     refine hK.out _ _ ⟨Yea BU.out, dV⟩ (fun hHeld => ?_)
     clear hK K
     refine Yeg (a' := ?_) ?_ ?_
     rotate_left
     ·show Act.put _ (some 23) _ = _
      simp only [Act.put, Kca, Yaa, Yda]
      rfl
     refine Yya (i := 6) (N := some 17) (v := ?_) (a' := ?_) #[true, true, true, true, true, true, true, false, false, false, false, false] rfl rfl (Ysa HT_.out Zi) (fun _ _ _ h => h) (Or.inl ⟨Zga, ?_⟩) ?_ ?_
     rotate_left
     ·exact Zyb
     rotate_left
     ·exact Zzb
     refine Yya (i := 7) (N := some 24) (v := ?_) (a' := ?_) #[true, true, true, true, true, true, true, true, false, false, false, false] rfl rfl (Ysa HT_.out Zi) (fun _ _ _ h => h) (Or.inl ⟨Zga, ?_⟩) ?_ ?_
     rotate_left
     ·exact Zyb
     rotate_left
     ·exact Zzb
     refine Yya (i := 8) (N := some 25) (v := ?_) (a' := ?_) #[true, true, true, true, true, true, true, true, true, false, false, false] rfl rfl (Ysa HT_.out Zi) (fun _ _ _ h => h) (Or.inl ⟨Zga, ?_⟩) ?_ ?_
     rotate_left
     ·exact Zyb
     rotate_left
     ·exact Zzb
     refine one_ (i := 9) (N := some 8) #[true, true, true, true, true, true, true, true, true, true, false, false] rfl rfl (Yne HT_.out Zi) Zca (fun K hK => ?_)
     refine Ywt ?hg (N := 8) ?hd (cs := #[.string (⟨#[]⟩ : Y), .string (⟨#[]⟩ : Y), .int .i64 0, .string (⟨#[]⟩ : Y), .string (⟨#[]⟩ : Y), .string (⟨#[]⟩ : Y), .bool false, .bool false]) (t := 25) ?hr ?_; (case hd => rfl); (case hg => rfl); (case hr => first | (go_simp; done) | (go_simp; rfl))
     intro gb hg wb hbox hb
     have HLT := Ya.mk (show w.heap.size + 1 + 1 < gb from by rw [hg]; exact Yyd BU.out)
     replace dV := (hb.cell (World.block_lt_of_cell? _ _ dV)).trans dV
     replace BU := Ya.mk (Yla BU.out hb)
     replace BZ := Ya.mk (Yla BZ.out hb)
     replace HB := Ya.mk (HB.out.trans (hb.mono HB.out.size))
     have BN := Ya.mk hbox
     clear hb hbox hg
     refine hK.out _ _ ⟨Yea BU.out, dV⟩ (fun hHeld => ?_)
     clear hK K
     refine Yeg (a' := ?_) ?_ ?_
     rotate_left
     ·show Act.put _ (some 8) _ = _
      simp only [Act.put, Kca, Yaa, Yda]
      rfl
     exact Yeg (by simp only [Yum, Act.put, Kca]) (hCont gb _ ⟨hHeld, BU.out, BZ.out, BN.out, HLT.out, HB.out⟩)
    ·refine Ywt ?hg (N := 8) ?hd (cs := #[.string (⟨#[]⟩ : Y), .string (⟨#[]⟩ : Y), .int .i64 0, .string (⟨#[]⟩ : Y), .string (⟨#[]⟩ : Y), .string (⟨#[]⟩ : Y), .bool false, .bool false]) (t := 25) ?hr ?_; (case hd => rfl); (case hg => rfl); (case hr => first | (go_simp; done) | (go_simp; rfl))
     intro gb hg wb hbox hb
     have HLT := Ya.mk (show w.heap.size + 1 + 1 < gb from by rw [hg]; exact Yyd BU.out)
     replace dV := (hb.cell (World.block_lt_of_cell? _ _ dV)).trans dV
     replace BU := Ya.mk (Yla BU.out hb)
     replace BZ := Ya.mk (Yla BZ.out hb)
     replace HB := Ya.mk (HB.out.trans (hb.mono HB.out.size))
     have BN := Ya.mk hbox
     clear hb hbox hg
     refine hK.out _ _ ⟨Yea BU.out, dV⟩ (fun hHeld => ?_)
     clear hK K
     refine Yeg (a' := ?_) ?_ ?_
     rotate_left
     ·show Act.put _ (some 8) _ = _
      simp only [Act.put, Kca, Yaa, Yda]
      rfl
     refine one_ (i := 5) (N := some 23) #[true, true, true, true, true, true, false, false, false, true, false, false] rfl rfl (Yne HT_.out Zi) Zca (fun K hK => ?_)
     refine Yvh Tryz.func34 Zi rfl #[.agg #[.string x1, .string x2, .int .i64 x3, .string x4, .string x5, .string x6, .bool x7, .bool x8], .string x9] Zga rfl rfl Zz ?_
     refine (Yin HOK.out.1 HOK.out.2 x9 HSZ.out y1 y2 y3 y4 y5 y6 y7 y8 ye HY.out _ (HE.out.below HB.out)).mono ?_
     rintro e we ⟨rfl, hb⟩
     refine ⟨_, rfl, ?_⟩
     replace dV := (hb.cell (World.block_lt_of_cell? _ _ dV)).trans dV
     replace BU := Ya.mk (Yla BU.out hb)
     replace BZ := Ya.mk (Yla BZ.out hb)
     replace BN := Ya.mk (Yla BN.out hb)
     replace HB := Ya.mk (HB.out.trans (hb.mono HB.out.size))
     clear hb
     refine hK.out _ _ ⟨Yea BU.out, dV⟩ (fun hHeld => ?_)
     clear hK K
     refine Yeg (a' := ?_) ?_ ?_
     rotate_left
     ·show Act.put _ (some 23) _ = _
      simp only [Act.put, Kca, Yaa, Yda]
      rfl
     refine Yya (i := 6) (N := some 17) (v := ?_) (a' := ?_) #[true, true, true, true, true, true, true, false, false, true, false, false] rfl rfl (Ysa HT_.out Zi) (fun _ _ _ h => h) (Or.inl ⟨Zga, ?_⟩) ?_ ?_
     rotate_left
     ·exact Zyb
     rotate_left
     ·exact Zzb
     refine Yya (i := 7) (N := some 24) (v := ?_) (a' := ?_) #[true, true, true, true, true, true, true, true, false, true, false, false] rfl rfl (Ysa HT_.out Zi) (fun _ _ _ h => h) (Or.inl ⟨Zga, ?_⟩) ?_ ?_
     rotate_left
     ·exact Zyb
     rotate_left
     ·exact Zzb
     refine Yya (i := 8) (N := some 25) (v := ?_) (a' := ?_) #[true, true, true, true, true, true, true, true, true, true, false, false] rfl rfl (Ysa HT_.out Zi) (fun _ _ _ h => h) (Or.inl ⟨Zga, ?_⟩) ?_ ?_
     rotate_left
     ·exact Zyb
     rotate_left
     ·exact Zzb
     exact Yeg (by simp only [Yum, Act.put, Kca]) (hCont gb _ ⟨hHeld, BU.out, BZ.out, BN.out, HLT.out, HB.out⟩)
   rintro gb w9 ⟨hHeld, h1_, h2_, h3_, h4_, h5_⟩
   replace dV := hHeld.2
   replace BU := Ya.mk h1_
   replace BZ := Ya.mk h2_
   have BN := Ya.mk h3_
   have HLT := Ya.mk h4_
   replace HB := Ya.mk h5_
   clear h1_ h2_ h3_ h4_ h5_
   refine Yeg (a' := ?_) ?_ ?_
   rotate_left
   ·simp only [Yum, Act.put, Kca]
    rfl
   have HN2 := Ya.mk (show gb ≠ w.heap.size + 1 + 1 from fun h => by have := HLT.out; omega)
   have HN1 := Ya.mk (show gb ≠ w.heap.size + 1 from fun h => by have := HLT.out; omega)
   have HG := Ya.mk (show w.heap.size ≤ gb from by have := HLT.out; omega)
   refine one_ (i := 10) (N := none) #[true, true, true, true, true, true, true, true, true, true, true, false] rfl rfl (Yne HT_.out Zi) Zca (fun K hK => ?_)
   have qH := (Yf BN.out 0).trans rfl
   have hy0 := Ye BN.out 0
   have uW := (Yf BN.out 1).trans rfl
   have hy1 := Ye BN.out 1
   have lL := (Yf BN.out 2).trans rfl
   have hy2 := Ye BN.out 2
   have hz3 := (Yf BN.out 3).trans rfl
   have hy3 := Ye BN.out 3
   have hz4 := (Yf BN.out 4).trans rfl
   have hy4 := Ye BN.out 4
   have hz5 := (Yf BN.out 5).trans rfl
   have hy5 := Ye BN.out 5
   have hz6 := (Yf BN.out 6).trans rfl
   have hy6 := Ye BN.out 6
   have hz7 := (Yf BN.out 7).trans rfl
   have hy7 := Ye BN.out 7
   refine Ysi (w1 := ?_) Zga rfl ?_ ?_
   rotate_left
   ·go_simp
    rfl
   have yY := Ya.mk (show Below w.heap.size w ((((((((w9.setCell ⟨gb, 0, none⟩ (.string y1)).setCell ⟨gb, 1, none⟩ (.string y2)).setCell ⟨gb, 2, none⟩ (.int .i64 y3)).setCell ⟨gb, 3, none⟩ (.string y4)).setCell ⟨gb, 4, none⟩ (.string y5)).setCell ⟨gb, 5, none⟩ (.string y6)).setCell ⟨gb, 6, none⟩ (.bool y7)).setCell ⟨gb, 7, none⟩ (.bool y8)) from Yir HB.out HG.out)
   have hx6 : ((((((((w9.setCell ⟨gb, 0, none⟩ (.string y1)).setCell ⟨gb, 1, none⟩ (.string y2)).setCell ⟨gb, 2, none⟩ (.int .i64 y3)).setCell ⟨gb, 3, none⟩ (.string y4)).setCell ⟨gb, 4, none⟩ (.string y5)).setCell ⟨gb, 5, none⟩ (.string y6)).setCell ⟨gb, 6, none⟩ (.bool y7)).setCell ⟨gb, 7, none⟩ (.bool y8)).cell? (ad.add i) = some (.string x9) := (yY.out.cell (World.block_lt_of_cell? w _ HX0.out)).trans HX0.out
   refine hK.out _ _ ⟨Yea (far8 BU.out HN2.out), hx6⟩ (fun hHeld => ?_)
   clear hK K hx6 dV qH hy0 uW hy1 lL hy2 hz3 hy3 hz4 hy4 hz5 hy5 hz6 hy6 hz7 hy7
   replace BU := Ya.mk (show ((((((((w9.setCell ⟨gb, 0, none⟩ (.string y1)).setCell ⟨gb, 1, none⟩ (.string y2)).setCell ⟨gb, 2, none⟩ (.int .i64 y3)).setCell ⟨gb, 3, none⟩ (.string y4)).setCell ⟨gb, 4, none⟩ (.string y5)).setCell ⟨gb, 5, none⟩ (.string y6)).setCell ⟨gb, 6, none⟩ (.bool y7)).setCell ⟨gb, 7, none⟩ (.bool y8)).heap[w.heap.size + 1 + 1]? = some (.cells (uc x1 x2 x3 x4 x5 x6 x7 x8) 25 (0, 0)) from far8 BU.out HN2.out)
   replace BZ := Ya.mk (show ((((((((w9.setCell ⟨gb, 0, none⟩ (.string y1)).setCell ⟨gb, 1, none⟩ (.string y2)).setCell ⟨gb, 2, none⟩ (.int .i64 y3)).setCell ⟨gb, 3, none⟩ (.string y4)).setCell ⟨gb, 4, none⟩ (.string y5)).setCell ⟨gb, 5, none⟩ (.string y6)).setCell ⟨gb, 6, none⟩ (.bool y7)).setCell ⟨gb, 7, none⟩ (.bool y8)).heap[w.heap.size + 1]? = some (.cells (uc ⟨#[]⟩ ⟨#[]⟩ 0 ⟨#[]⟩ ⟨#[]⟩ ⟨#[]⟩ false false) 25 (0, 0)) from far8 BZ.out HN1.out)
   have BV := Ya.mk (show ((((((((w9.setCell ⟨gb, 0, none⟩ (.string y1)).setCell ⟨gb, 1, none⟩ (.string y2)).setCell ⟨gb, 2, none⟩ (.int .i64 y3)).setCell ⟨gb, 3, none⟩ (.string y4)).setCell ⟨gb, 4, none⟩ (.string y5)).setCell ⟨gb, 5, none⟩ (.string y6)).setCell ⟨gb, 6, none⟩ (.bool y7)).setCell ⟨gb, 7, none⟩ (.bool y8)).heap[gb]? = some (.cells (uc y1 y2 y3 y4 y5 y6 y7 y8) 25 (0, 0)) from put8 BN.out)
   clear HB BN
   have HB := yY
   clear yY
   generalize ((((((((w9.setCell ⟨gb, 0, none⟩ (.string y1)).setCell ⟨gb, 1, none⟩ (.string y2)).setCell ⟨gb, 2, none⟩ (.int .i64 y3)).setCell ⟨gb, 3, none⟩ (.string y4)).setCell ⟨gb, 4, none⟩ (.string y5)).setCell ⟨gb, 5, none⟩ (.string y6)).setCell ⟨gb, 6, none⟩ (.bool y7)).setCell ⟨gb, 7, none⟩ (.bool y8)) = wz at BU BZ BV HB hHeld ⊢
   refine Yya (i := 11) (N := some 9) (v := ?_) (a' := ?_) #[true, true, true, true, true, true, true, true, true, true, true, true] rfl rfl (Ysa HT_.out Zi) (fun _ _ _ h => h) (Or.inl ⟨Zga, ?_⟩) ?_ ?_
   rotate_left
   ·exact Zyb
   rotate_left
   ·exact Zzb
   refine Yoh (Yvg HT_.out Zi) ?_
   by_cases h0 : ye = 0
   ·subst h0
    have lO := Ya.mk (show Ywg (y1, y2, y3, y4, y5, y6, y7, y8) (l1.drop (i + 1)) = res from by have := HF.out; rw [if_pos rfl] at this; exact this)
    have HWR := Ya.mk hw1
    obtain ⟨cQ, cB, cN, cX, cU, cT, cY, cR⟩ := Yea BV.out
    go_wp2_with ((with_reducible refine Yxa (t := 25) (p := 6) rfl ?_); refine wpList_store_row rfl 25 (.tmp 6) (.tmp 30) rfl (w.heap.size + 1 + 1) (uc y1 y2 y3 y4 y5 y6 y7 y8) rfl rfl 25 _ BU.out bD rfl (Ypb _ _ _ _ _ _ _ _) ?_; replace BZ := Ya.mk ((setRow_other wz (w.heap.size + 1 + 1) (w.heap.size + 1) (uc y1 y2 y3 y4 y5 y6 y7 y8) (show w.heap.size + 1 ≠ w.heap.size + 1 + 1 by omega)).trans BZ.out); replace HB := Ya.mk (below_setRow HB.out (show w.heap.size ≤ w.heap.size + 1 + 1 by omega) (uc y1 y2 y3 y4 y5 y6 y7 y8)); replace BU := Ya.mk (setRow_heap _ _ _ (uc y1 y2 y3 y4 y5 y6 y7 y8) _ _ BU.out))
    go_roundg g1
    case measure => omega
    case rel => exact ⟨i + 1, y1, y2, y3, y4, y5, y6, y7, y8, by first | rfl | (simp; done) | (rw [← HWR.out]), ⟨by have := HIG.out; omega⟩, ⟨next_ok HY.out⟩, ⟨lO.out⟩, BU, BZ, HB⟩
   ·have e0 : (ye == 0) = false := beq_eq_false_iff_ne.2 h0
    have e1 : (ye != 0) = true := bne_iff_ne.2 h0
    have e2 : decide (ye = 0) = false := Ks h0
    have iZ := HF.out
    rw [if_neg h0] at iZ
    subst iZ
    clear h0
    go_wp2_with ((with_reducible refine Yxa (t := 25) (p := 4) rfl ?_); refine wpList_store_row rfl 25 (.tmp 4) (.tmp 28) rfl (w.heap.size + 1) (uc ⟨#[]⟩ ⟨#[]⟩ 0 ⟨#[]⟩ ⟨#[]⟩ ⟨#[]⟩ false false) rfl rfl 25 _ BZ.out bD rfl (Ypb _ _ _ _ _ _ _ _) ?_)
    refine bodyPost_ret (v := ?v3x) ?hv3x ?dv3x ?_
    case hv3x => refine Yba (p := 4) (u := 5) (ty := 25) ?_ _ _ (w.heap.size + 1) 25 (uc ⟨#[]⟩ ⟨#[]⟩ 0 ⟨#[]⟩ ⟨#[]⟩ ⟨#[]⟩ false false) (0, 0) _ ?_ (setRow_heap _ _ _ _ _ _ BZ.out) bQ rfl bD <;> rfl
    case dv3x => rfl
    exact ⟨rfl, below_setRow HB.out Zk _⟩
end Go.Proofs.YtnmglnglbdpjjaaGreatDoor.X
end
section
namespace Go.Proofs.YtnmglnglbdpjjaaGreatDoor.X
open Go.RowKit Go.Lib Go.Shelf Go.Yw.PrintWords Go.Yw.PrintLast Go.Yw.PrintMore
set_option maxHeartbeats 8000000
set_option maxRecDepth 100000
theorem eqSame (d : Nat) (w : World) (u1 u2 : Y) (u3 : Int) (u4 u5 u6 : Y) (u7 u8 : Bool) : (Op.equalIn (d + 2) 25 (.agg #[.string u1, .string u2, .int .i64 u3, .string u4, .string u5, .string u6, .bool u7, .bool u8]) (.agg #[.string u1, .string u2, .int .i64 u3, .string u4, .string u5, .string u6, .bool u7, .bool u8])).run Tryz.prog w = .ok true w := by
 rw [eqH25]
 simp only [beq_self_eq_true, Bool.and_self]
attribute [local go_sem high] eqSame
def Ykt (k : Nat) : Prop :=
 Yza.f k ⟨#[104, 116, 116, 112]⟩ ⟨#[97, 46, 98]⟩ 0 ⟨#[47, 99, 47, 100]⟩ ⟨#[101]⟩ ⟨#[]⟩ true false ⟨#[46, 46, 47, 102, 35, 103]⟩ = some (⟨#[104, 116, 116, 112]⟩, ⟨#[97, 46, 98]⟩, 0, ⟨#[47, 102]⟩, ⟨#[]⟩, ⟨#[103]⟩, false, true, 0) ∧
 Ylm.f k ⟨#[104, 116, 116, 112]⟩ ⟨#[97, 46, 98]⟩ 0 ⟨#[47, 102]⟩ ⟨#[]⟩ ⟨#[103]⟩ false true = some ⟨#[104, 116, 116, 112, 58, 47, 47, 97, 46, 98, 47, 102]⟩
theorem Yjs (k : Nat) (w : World) (hE : EnvOk w) (h : Ykt k) :
  Calls Tryz.prog 32 #[] w fun e w' => e = .returned (.bool true) ∧ Below w.heap.size w w' := by
 have HE := Ya.mk hE
 have HP := Ya.mk h.1
 have HS := Ya.mk h.2
 clear hE h
 go_enter Tryz.func32, Tryz.ntmps32
 go_wp2_with fail
 refine (Yuh.calls _ _ _ _ _ _ _ _ _ HE.out rfl).mono ?_
 rintro e w1 ⟨rfl, lS⟩
 have iB := Ya.mk lS
 clear lS
 go_wp2_with fail
 refine (Yza.calls k _ _ _ _ _ _ _ _ _ _ _ _ _ _ _ _ _ _ _ (HE.out.below iB.out) HP.out).mono ?_
 rintro e w2 ⟨rfl, bU⟩
 have eL := Ya.mk (iB.out.trans (bU.mono iB.out.size))
 clear bU iB
 have hbk := heap_alloc_new w2 (.cells (uc ⟨#[104, 116, 116, 112]⟩ ⟨#[97, 46, 98]⟩ 0 ⟨#[47, 102]⟩ ⟨#[]⟩ ⟨#[103]⟩ false true) 25)
 have eF := Ya.mk (eL.out.alloc eL.out.size (.cells (uc ⟨#[104, 116, 116, 112]⟩ ⟨#[97, 46, 98]⟩ 0 ⟨#[47, 102]⟩ ⟨#[]⟩ ⟨#[103]⟩ false true) 25))
 have cQ := (Yf hbk 0).trans rfl
 have cB := (Yf hbk 1).trans rfl
 have cN := (Yf hbk 2).trans rfl
 have cX := (Yf hbk 3).trans rfl
 have cU := (Yf hbk 4).trans rfl
 have cT := (Yf hbk 5).trans rfl
 have cY := (Yf hbk 6).trans rfl
 have cR := (Yf hbk 7).trans rfl
 clear hbk
 go_wp2_with fail
 refine (Ylm.calls k _ _ _ _ _ _ _ _ _ _ (HE.out.below eF.out) HS.out).mono ?_
 rintro e w3 ⟨rfl, gN⟩
 have dL := Ya.mk (eF.out.trans (gN.mono eF.out.size))
 clear gN
 go_wp2_with fail
 go_ret
 exact ⟨rfl, dL.out⟩
theorem alive5_60 : Ykt 60 := ⟨Zi, Zi⟩
theorem Yyr (w : World) (hE : EnvOk w) : Calls Tryz.prog 32 #[] w fun e w' => e = .returned (.bool true) ∧ Below w.heap.size w w' := Yjs 60 w hE alive5_60
end Go.Proofs.YtnmglnglbdpjjaaGreatDoor.X
end
