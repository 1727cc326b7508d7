import Derived.Test.YtihaeeldgimdiaaGreatDoorIUX16
set_option linter.all false
section
section
namespace Go.Proofs.YtihaeeldgimdiaaGreatDoor.X
open Go.RowKit Go.Lib Go.Shelf Go.Yw.PrintWords Go.Yw.PrintLast Go.Yw.PrintMore
theorem Ytb (l : List UInt8) : (ofL l).data.toList = l := rfl
theorem Yfa (l : List UInt8) : (ofL l).size = l.length := by rw [Lib.size_eq]; rfl
theorem Ynj (s : Y) : ofL s.data.toList = s := rfl
theorem Yjd (l : List UInt8) : (ofL l).toList = l := by rw [Lib.toList_data]; rfl
theorem Ysf {a b : Y} (h : a.data.toList = b.data.toList) : a = b := by rw [← Ynj a, h, Ynj]
theorem Yog (s : Y) (a b : Nat) : s.extract a b = ofL ((s.data.toList.drop a).take (b - a)) := Ysf (by rw [Lib.extract_data]; rfl)
theorem Ytc (s : Y) (a : Nat) : s.extract a s.size = ofL (s.data.toList.drop a) := Ysf (by rw [Lib.extract_to_end]; rfl)
theorem Yxe (s : Y) (a : Nat) : s.extract 0 a = ofL (s.data.toList.take a) := by rw [Yog, List.drop_zero, Nat.sub_zero]
def Yyf (b : UInt8) : List (List UInt8) → List (List UInt8)
 | [] => [[b]]
 | h :: t => (b :: h) :: t
def splitB (c : UInt8) : List UInt8 → List (List UInt8)
 | [] => [[]]
 | b :: l => if b = c then [] :: splitB c l else Yyf b (splitB c l)
theorem Yfg (c : UInt8) (l : List UInt8) : splitB c l ≠ [] := by
 cases l with
 | nil => simp [splitB]
 | cons b l =>
  unfold splitB
  split
  ·simp
  ·cases splitB c l <;> simp [Yyf]
theorem Yvq (c : UInt8) (l : List UInt8) : (Lib.indexByte l c = -1 ∧ splitB c l = [l]) ∨ ∃ i : Nat, i < l.length ∧ Lib.indexByte l c = i ∧ splitB c l = l.take i :: splitB c (l.drop (i + 1)) := by
 induction l with
 | nil => left; exact ⟨rfl, rfl⟩
 | cons b l ih =>
  by_cases hb : b = c
  ·right
   refine ⟨0, Zq, ?_, ?_⟩
   ·unfold Lib.indexByte; rw [if_pos (by simpa using hb)]; rfl
   ·rw [splitB, if_pos hb]; rfl
  ·have hi : Lib.indexByte (b :: l) c = if (Lib.indexByte l c == -1) = true then -1 else Lib.indexByte l c + 1 := by
    rw [Lib.indexByte, if_neg (by simpa using hb)]
   rcases ih with ⟨h1, h2⟩ | ⟨i, h1, h2, h3⟩
   ·left
    refine ⟨by rw [hi, h1]; rfl, ?_⟩
    rw [splitB, if_neg hb, h2]; rfl
   ·right
    refine ⟨i + 1, Zfb, ?_, ?_⟩
    ·rw [hi, h2, if_neg (fun e => by have := beq_iff_eq.1 e; omega)]; omega
    ·rw [splitB, if_neg hb, h3]; rfl
theorem Yik (c : UInt8) (l : List UInt8) : (splitB c l).length ≤ l.length + 1 := by
 induction l with
 | nil => simp [splitB]
 | cons b l ih =>
  rw [splitB]
  split
  ·simp only [List.length_cons]; omega
  ·cases h : splitB c l with
   | nil => simp [Yyf]
   | cons x y => rw [h] at ih; simp only [Yyf, List.length_cons] at ih ⊢; omega
theorem split_l0 (c : UInt8) : ∀ (n : Nat) (s : Y) (acc : List Y), s.size ≤ n → acc.length + s.size ≤ 4294967281 → Yab.l0 (n + 1) s (c.toNat : Int) acc = some (acc ++ (splitB c s.data.toList).map ofL) := by
 intro n
 induction n with
 | zero =>
  intro s acc hs ha
  have h0 : s.data.toList = [] := List.eq_nil_of_length_eq_zero Zdb
  have he : strings_IndexByte.f s (c.toNat : Int) = some (-1) := by unfold strings_IndexByte.f; rw [h0]; rfl
  unfold Yab.l0
  rw [he]
  simp only [Kba]
  rw [if_pos Zj, if_pos Zj, h0]
  have : s = ofL [] := Ysf h0
  rw [this]; rfl
 | succ n ih =>
  intro s acc hs ha
  have hb : ((c.toNat : Int)).toNat.toUInt8 = c := by simp
  have he : strings_IndexByte.f s (c.toNat : Int) = some (Lib.indexByte s.data.toList c) := by unfold strings_IndexByte.f; rw [hb]
  unfold Yab.l0
  rw [he]
  simp only [Kba]
  rcases Yvq c s.data.toList with ⟨h1, h2⟩ | ⟨i, h1, h2, h3⟩
  ·rw [h1, if_pos Zj, if_pos Zj, h2]; rfl
  ·rw [← Lib.size_eq] at h1
   have hw : wrap64 ((i : Int) + 1) = (i : Int) + 1 := by unfold wrap64; omega
   rw [h2, if_neg Zj, if_pos Zj, if_pos Zj, if_pos Zj, hw, if_pos Zj, if_pos Zj]
   have e1 : ((i : Int) + 1).toNat = i + 1 := by omega
   rw [e1, Int.toNat_natCast, ih _ _ Zoa (by rw [ByteArray.size_extract, List.length_append]; simp only [List.length_cons, List.length_nil]; omega), h3, Ytc, Yxe, Ytb]
   simp
theorem split_f (s : Y) (c : UInt8) (hs : s.size ≤ 4294967281) : Yab.f (s.size + 1) s (c.toNat : Int) = some ((splitB c s.data.toList).map ofL) := by
 unfold Yab.f
 rw [split_l0 c s.size s [] (Ks _) (by simpa using hs)]; rfl
def Yjg (l : List UInt8) : Nat := if Lib.replaceAll (lowL l) [37, 50, 101] [46] = [46] then 1 else if Lib.replaceAll (lowL l) [37, 50, 101] [46] = [46, 46] then 2 else 0
theorem Yqg (l : List UInt8) : (lowL l).length = l.length := by unfold lowL; rw [List.length_map]
theorem countB_le (s sub : Y) : Lib.countB s sub ≤ s.size + 1 := by
 unfold Lib.countB
 have := Lib.count_le s.data.toList sub.data.toList
 rw [← Lib.size_eq] at this
 omega
theorem dots_f (s : Y) (hs : s.size ≤ 4294967200) : Yji.f s = some (Yjg s.data.toList : Int) := by
 unfold Yji.f Ycc.f
 rw [if_pos Zj]
 simp only [Kba]
 unfold strings_ReplaceAll.f
 have hc := countB_le (ofL (lowL s.data.toList)) ⟨#[37, 50, 101]⟩
 have hz : (ofL (lowL s.data.toList)).size = s.size := by rw [Yfa, Yqg, ← Lib.size_eq]
 rw [if_pos ⟨by rw [hz]; omega, by show 1 ≤ 3; omega, by rw [hz]; show s.size + _ * 1 ≤ _; rw [hz] at hc; omega⟩]
 simp only [Kba, Yjd]
 unfold Yjg
 show (if Lib.replaceAll (lowL s.data.toList) [37, 50, 101] [46] = [46] then some 1 else if Lib.replaceAll (lowL s.data.toList) [37, 50, 101] [46] = [46, 46] then some 2 else some 0) = _
 split
 ·rfl
 ·split <;> rfl
end Go.Proofs.YtihaeeldgimdiaaGreatDoor.X
end
section
namespace Go.Proofs.YtihaeeldgimdiaaGreatDoor.X
open Go.RowKit Go.Lib Go.Shelf Go.Yw.PrintWords Go.Yw.PrintLast Go.Yw.PrintMore
def Yzi (part : List UInt8) (b : UInt8) : List UInt8 := if decide (32 < b.toNat) && (decide (b.toNat < 127) && !part.contains b) then [b] else Ykf [] b
def Ydd (part l : List UInt8) : List UInt8 := l.flatMap (Yzi part)
theorem partB_le (part : List UInt8) (b : UInt8) : (Yzi part b).length ≤ 3 := by
 unfold Yzi
 split
 ·simp
 ·exact Yfl _ _
theorem Ylg (part l : List UInt8) : (Ydd part l).length ≤ 3 * l.length := by
 induction l with
 | nil => simp [Ydd]
 | cons b l ih =>
  have := partB_le part b
  simp only [Ydd, List.flatMap_cons, List.length_append, List.length_cons] at ih ⊢
  omega
theorem Yqk (part l : List UInt8) (b : UInt8) : Ydd part (l ++ [b]) = Ydd part l ++ Yzi part b := by simp [Ydd]
theorem Yyq (s : Y) (i : Nat) (h : i < s.size) : (s.extract i (i + 1)).data.toList = [s.get! i] := by
 rw [Lib.extract_data, show i + 1 - i = 1 by omega]
 have h1 := get!_data s i h
 rw [List.drop_eq_getElem_cons Zdb]
 rw [List.getElem?_eq_getElem Zdb] at h1
 simp only [Kz] at h1
 rw [h1]; rfl
def Yid.f (a0 a1 : Y) : Option Y := if a0.size ≤ 4294967281 then some (ofL (Ydd a1.data.toList a0.data.toList)) else none
set_option maxHeartbeats 8000000 in
set_option maxRecDepth 100000 in
theorem Yid.calls (a0 a1 r : Y) (w : World) (hE : EnvOk w) (h : Yid.f a0 a1 = some r) :
  Calls Tryz.prog 79 #[.string a0, .string a1] w fun e w' => e = .returned (.string r) ∧ Below w.heap.size w w' := by
 unfold Yid.f at h
 by_cases hs : a0.size ≤ 4294967281
 ·rw [if_pos hs] at h
  obtain rfl := Kr h
  have HE := Ya.mk hE
  clear hE h
  go_enter Tryz.func79, Tryz.ntmps79
  go_wp2
  go_loopg [6, 7, 10] a0.size (fun g _ _ iS wx => ∃ (i : Nat), i + g ≤ a0.size ∧ a0.size ≤ i + g ∧ iS = .int .i64 (i : Int) ∧ Ya (Yxi w.heap.size w.heap.size (Ydd a1.data.toList (a0.data.toList.take i)) wx) ∧ Ya (Below w.heap.size w wx))
  case atStart => exact ⟨0, Zj, Zj, rfl, ⟨Yjq w⟩, ⟨(Below.refl _ _).alloc (Ks _) _⟩⟩
  case round =>
   obtain ⟨i, hi1, mX, rfl, HI, HB⟩ := hrel
   cases gk with
   | zero =>
    obtain rfl : i = a0.size := by omega
    go_wp2_with fail
    refine (Ywk w.heap.size w.heap.size _ _ HI.out HB.out.size).mono ?_
    rintro e w2 ⟨rfl, cJ⟩
    have fJ := Ya.mk (HB.out.trans cJ)
    clear cJ
    go_wp2
    go_ret
    exact ⟨by rw [List.take_of_length_le (by rw [← Lib.size_eq]; exact Ks _)]; rfl, fJ.out⟩
   | succ g =>
    have hi : i < a0.size := by omega
    have hlt : decide ((i : Int) < (a0.size : Int)) = true := Kn Zj
    have hg := get!_at a0 i hi
    have HT := Ya.mk (Ywo a0 i hi)
    have HL := Ya.mk (Ylg a1.data.toList (a0.data.toList.take i))
    have hle : Ya ((a0.data.toList.take i).length ≤ i) := ⟨List.length_take_le _ _⟩
    have HX1 := Ya.mk (Yyq a0 i hi)
    obtain ⟨b, hb⟩ : ∃ b, b = a0.get! i := ⟨_, rfl⟩
    rw [← hb] at hg HT HX1
    have hx : (a0[i]'hi).toNat = b.toNat := by rw [hg]
    clear hb hg
    have mN := Ya.mk (HE.out.below HB.out)
    have hbt := b.toNat_lt
    have HX := Ya.mk (Ycj a1.data.toList b)
    have HBk := Ya.mk (show ((b.toNat : Int)).toNat.toUInt8 = b by simp)
    by_cases h1 : 32 < b.toNat ∧ b.toNat < 127
    ·have d1 : decide ((32 : Int) < (b.toNat : Int)) = true := Kn Zj
     have d2 : decide ((b.toNat : Int) < 127) = true := Kn Zj
     cases hc : a1.data.toList.contains b with
     | false =>
      rw [hc] at HX
      have HM := Ya.mk (show Yzi a1.data.toList b = [b] by unfold Yzi; rw [hc, decide_eq_true h1.1, decide_eq_true h1.2]; rfl)
      have uN : decide (Lib.indexByte a1.data.toList b < 0) = true := by
       have := of_decide_eq_false HX.out
       exact Kn Zj
      clear h1 hc
      go_wp2_with fail
      refine (Tryz.strings_IndexByte _ _ _).mono ?_
      rintro e w2 ⟨rfl, sL⟩
      rw [sL, HBk.out]
      clear sL
      go_wp2_with fail
      refine (Yrg w.heap.size w.heap.size _ b _ HI.out Zob HB.out.size).mono ?_
      rintro e w3 ⟨rfl, pJ, gR⟩
      have nY := Ya.mk pJ
      have cZ := Ya.mk (HB.out.trans gR)
      clear pJ gR
      go_wp2
      go_roundg g
      case measure => omega
      case rel => exact ⟨i + 1, Zj, Zj, by go_num, ⟨by rw [HT.out, Yqk, HM.out]; exact nY.out⟩, cZ⟩
     | true =>
      rw [hc] at HX
      have HM := Ya.mk (show Yzi a1.data.toList b = Ykf [] b by unfold Yzi; rw [hc]; simp)
      have uN : decide (Lib.indexByte a1.data.toList b < 0) = false := by
       have := Km HX.out
       exact Ko Zj
      have HF := Ya.mk (show Yke.f (a0.extract i (i + 1)) ⟨#[]⟩ = some (ofL (Ykf [] b)) by
       unfold Yke.f
       rw [if_pos Zoa, HX1.out]
       simp [Yjk])
      have k5 : (i : Int) + 1 ≤ (a0.size : Int) := by omega
      clear h1 hc
      go_wp2_with fail
      refine (Tryz.strings_IndexByte _ _ _).mono ?_
      rintro e w2 ⟨rfl, sL⟩
      rw [sL, HBk.out]
      clear sL
      go_wp2_with fail
      refine (Yke.calls _ _ _ _ mN.out HF.out).mono ?_
      rintro e w3 ⟨rfl, gR⟩
      have nY := Ya.mk (HI.out.below gR)
      have cZ := Ya.mk (HB.out.trans (gR.mono HB.out.size))
      clear gR
      go_wp2_with fail
      refine (bld_str w.heap.size w.heap.size _ _ _ nY.out (by have := HL.out; have := hle.out; have := Yfl [] b; rw [Lib.size_eq]; show _ + (Ykf [] b).length ≤ _; omega) cZ.out.size).mono ?_
      rintro e w4 ⟨rfl, hi4, lY⟩
      have vJ := Ya.mk hi4
      have cU := Ya.mk (cZ.out.trans lY)
      clear hi4 lY
      go_wp2
      go_roundg g
      case measure => omega
      case rel => exact ⟨i + 1, Zj, Zj, by go_num, ⟨by rw [HT.out, Yqk, HM.out]; exact vJ.out⟩, cU⟩
    ·have HM := Ya.mk (show Yzi a1.data.toList b = Ykf [] b by unfold Yzi; rw [if_neg]; simp only [Bool.and_eq_true, decide_eq_true_eq]; exact fun hx => h1 ⟨hx.1, hx.2.1⟩)
     have HF := Ya.mk (show Yke.f (a0.extract i (i + 1)) ⟨#[]⟩ = some (ofL (Ykf [] b)) by
      unfold Yke.f
      rw [if_pos Zoa, HX1.out]
      simp [Yjk])
     have k5 : (i : Int) + 1 ≤ (a0.size : Int) := by omega
     have hcase : decide ((32 : Int) < (b.toNat : Int)) = false ∨ (decide ((32 : Int) < (b.toNat : Int)) = true ∧ decide ((b.toNat : Int) < 127) = false) := by
      by_cases hq : 32 < b.toNat
      ·right; exact ⟨Kn Zj, Ko Zj⟩
      ·left; exact Ko Zj
     clear h1
     rcases hcase with d1 | ⟨d1, d2⟩
     all_goals
      go_wp2_with fail
      refine (Yke.calls _ _ _ _ mN.out HF.out).mono ?_
      rintro e w3 ⟨rfl, gR⟩
      have nY := Ya.mk (HI.out.below gR)
      have cZ := Ya.mk (HB.out.trans (gR.mono HB.out.size))
      clear gR
      go_wp2_with fail
      refine (bld_str w.heap.size w.heap.size _ _ _ nY.out (by have := HL.out; have := hle.out; have := Yfl [] b; rw [Lib.size_eq]; show _ + (Ykf [] b).length ≤ _; omega) cZ.out.size).mono ?_
      rintro e w4 ⟨rfl, hi4, lY⟩
      have vJ := Ya.mk hi4
      have cU := Ya.mk (cZ.out.trans lY)
      clear hi4 lY
      go_wp2
      go_roundg g
      case measure => omega
      case rel => exact ⟨i + 1, Zj, Zj, by go_num, ⟨by rw [HT.out, Yqk, HM.out]; exact vJ.out⟩, cU⟩
 ·rw [if_neg hs] at h; cases h
end Go.Proofs.YtihaeeldgimdiaaGreatDoor.X
end
end
section
namespace Go.Proofs.YtihaeeldgimdiaaGreatDoor.X
open Go.RowKit Go.Lib Go.Shelf Go.Yw.PrintWords Go.Yw.PrintLast Go.Yw.PrintMore
def Yfh (b : UInt8) : UInt8 := if b = 92 then 47 else b
def Yed (l : List UInt8) : List UInt8 := l.map Yfh
def Ymc : List UInt8 := [34, 60, 62, 35, 63, 96, 123, 125]
def Yad (last : Bool) (out : List (List UInt8)) (p : List UInt8) : List (List UInt8) :=
 if Yjg (Ydd Ymc p) = 0 then out ++ [Ydd Ymc p] else
  if last = true then (if Yjg (Ydd Ymc p) = 2 then out.take (out.length - 1) else out) ++ [[]] else (if Yjg (Ydd Ymc p) = 2 then out.take (out.length - 1) else out)
theorem Yyk {last : Bool} {out : List (List UInt8)} {p : List UInt8} (h : Yjg (Ydd Ymc p) = 0) : Yad last out p = out ++ [Ydd Ymc p] := by unfold Yad; rw [if_pos h]
theorem Ybl {last : Bool} {out : List (List UInt8)} {p : List UInt8} (h : Yjg (Ydd Ymc p) = 1) : Yad last out p = if last = true then out ++ [[]] else out := by
 unfold Yad; rw [h]; rfl
theorem Yzk {last : Bool} {out : List (List UInt8)} {p : List UInt8} (h : Yjg (Ydd Ymc p) = 2) : Yad last out p = if last = true then out.take (out.length - 1) ++ [[]] else out.take (out.length - 1) := by
 unfold Yad; rw [h]; rfl
def Yuc : List (List UInt8) → List (List UInt8) → List (List UInt8)
 | [], out => out
 | p :: t, out => Yuc t (Yad t.isEmpty out p)
def Yfe (l : List UInt8) : List (List UInt8) :=
 if decide (1 < (splitB 47 (Yed l)).length) && ((splitB 47 (Yed l)).headD []).isEmpty then (splitB 47 (Yed l)).tail else splitB 47 (Yed l)
def Ysj (l : List UInt8) : List UInt8 := 47 :: Lib.join (Yuc (Yfe l) []) [47]
theorem Yno (l : List UInt8) : Lib.replaceAll l [92] [47] = Yed l := by
 rw [Yqj]
 induction l with
 | nil => rfl
 | cons b l ih => rw [List.flatMap_cons, ih]; by_cases h : b = 92 <;> simp [Yed, Yfh, h]
def tot (l : List (List UInt8)) : Nat := (l.map fun p => p.length + 1).sum
theorem Ycl (a b : List (List UInt8)) : tot (a ++ b) = tot a + tot b := by simp [tot]
theorem tot_take (a : List (List UInt8)) (n : Nat) : tot (a.take n) ≤ tot a := by
 have := Ycl (a.take n) (a.drop n)
 rw [List.take_append_drop] at this; omega
theorem Yag (a : List (List UInt8)) : a.length ≤ tot a := by
 induction a with
 | nil => simp [tot]
 | cons p a ih => simp only [tot, List.map_cons, List.sum_cons, List.length_cons] at ih ⊢; omega
theorem Ywm (a : List (List UInt8)) : (Lib.join a [47]).length ≤ tot a := by
 cases a with
 | nil => simp [Lib.join, List.intercalate]
 | cons x r =>
  rw [Lib.join_cons]
  simp only [List.length_append, tot, List.map_cons, List.sum_cons]
  have : (Lib.joinTail [47] r).length = (r.map fun p => p.length + 1).sum := by
   induction r with
   | nil => simp [Lib.joinTail]
   | cons y r ih => simp only [Lib.joinTail, List.map_cons, List.flatten_cons, List.length_append, List.sum_cons, List.length_cons, List.length_nil] at ih ⊢; omega
  omega
def room (l : List (List UInt8)) : Nat := (l.map fun p => 3 * p.length + 2).sum
theorem Yuh (last : Bool) (out : List (List UInt8)) (p : List UInt8) : tot (Yad last out p) ≤ tot out + (3 * p.length + 2) := by
 have h1 := Ylg Ymc p
 have h2 := tot_take out (out.length - 1)
 have e1 : ∀ x : List UInt8, tot [x] = x.length + 1 := fun x => by simp [tot]
 unfold Yad
 split
 ·rw [Ycl, e1]; omega
 ·split <;> split <;> (first | (rw [Ycl, e1]; simp only [List.length_nil]; omega) | omega)
theorem Ywn (c : UInt8) (l : List UInt8) : tot (splitB c l) = l.length + 1 := by
 induction l with
 | nil => simp [splitB, tot]
 | cons b l ih =>
  rw [splitB]
  split
  ·simp only [tot, List.map_cons, List.sum_cons, List.length_nil] at ih ⊢; simp only [List.length_cons]; omega
  ·cases h : splitB c l with
   | nil => exact absurd h (Yfg c l)
   | cons x y => rw [h] at ih; simp only [Yyf, tot, List.map_cons, List.sum_cons, List.length_cons] at ih ⊢; omega
theorem room_tot (l : List (List UInt8)) : room l ≤ 3 * tot l := by
 induction l with
 | nil => simp [room]
 | cons p l ih => simp only [room, tot, List.map_cons, List.sum_cons] at ih ⊢; omega
theorem Ymk (l : List UInt8) : (Yed l).length = l.length := by unfold Yed; rw [List.length_map]
theorem Yzh (l : List UInt8) : room (Yfe l) ≤ 3 * l.length + 3 := by
 have h := room_tot (splitB 47 (Yed l))
 rw [Ywn, Ymk] at h
 unfold Yfe
 split
 ·cases hs : splitB 47 (Yed l) with
  | nil => simp [room]
  | cons x y => rw [hs] at h; simp only [room, List.map_cons, List.sum_cons, List.tail_cons] at h ⊢; omega
 ·omega
theorem Ycm (l : List (List UInt8)) (k : Nat) (h : k < l.length) : room (l.drop k) = 3 * (l[k]).length + 2 + room (l.drop (k + 1)) := by
 rw [List.drop_eq_getElem_cons h]
 simp only [room, List.map_cons, List.sum_cons]
theorem Ytj (l : List (List UInt8)) : l.length ≤ room l := by
 induction l with
 | nil => simp
 | cons p l ih => simp only [room, List.map_cons, List.sum_cons, List.length_cons] at ih ⊢; omega
def RowS (W : World) (g off : Nat) (xs : List (List UInt8)) : Prop := ∀ (j : Nat) (h : j < xs.length), W.cell? ⟨g, off + j, none⟩ = some (.string (ofL xs[j]))
theorem RowS.below {W W' : World} {g off : Nat} {xs : List (List UInt8)} (h : RowS W g off xs) (hb : Below W.heap.size W W') : RowS W' g off xs := fun j hj => cell_kept hb (h j hj)
theorem RowS.tail {W : World} {g off : Nat} {x : List UInt8} {xs : List (List UInt8)} (h : RowS W g off (x :: xs)) : RowS W g (off + 1) xs := fun j hj => by
 have := h (j + 1) Zfb
 rw [show off + 1 + j = off + (j + 1) by omega, this]; rfl
theorem Yco {W : World} {base : Nat} {ok : Nat → Prop} {v : Value} {xs : List (List UInt8)} (h : Kd.R Kd.string 9 W base ok v (xs.map ofL)) (hne : xs ≠ []) :
  ∃ g cap, v = .slice (some ⟨g, 0, none⟩) xs.length cap ∧ xs.length ≤ cap ∧ cap ≤ maxLen ∧ base ≤ g ∧ RowS W g 0 xs := by
 have hr := Kd.own_of_R (enc := Value.string) (h1 := fun _ => rfl) h
 obtain ⟨h1, h2⟩ := hr
 rw [List.length_map] at h2
 rcases h2 with ⟨rfl, h0⟩ | ⟨g, cap, cur, rfl, hb, hh, hn, hc, hs, ht⟩
 ·exact absurd (List.eq_nil_of_length_eq_zero h0) hne
 ·refine ⟨g, cap, rfl, hn, hc, hb, fun j hj => ?_⟩
  unfold World.cell?
  rw [hh]
  have h3 : (cur.toList.take (xs.length * 1))[j]? = some (.string (ofL xs[j])) := by
   rw [ht]
   unfold encs
   rw [List.getElem?_map, List.getElem?_map, List.getElem?_eq_getElem hj]
   rfl
  rw [List.getElem?_take, if_pos Zj] at h3
  simpa using h3
abbrev OwnS (W : World) (base : Nat) (v : Value) (xs : List (List UInt8)) : Prop := W.ownsRow base 9 1 v xs.length (xs.map fun x => Value.string (ofL x))
theorem OwnS.take {W : World} {base g cap : Nat} {xs : List (List UInt8)} (h : OwnS W base (.slice (some ⟨g, 0, none⟩) xs.length cap) xs) (n : Nat) (hn : n ≤ xs.length) : OwnS W base (.slice (some ⟨g, 0, none⟩) n cap) (xs.take n) := by
 obtain ⟨h1, h2⟩ := h
 rcases h2 with ⟨h2, _⟩ | ⟨g', cap', cur, hv, hb, hh, hl, hc, hs, ht⟩
 ·cases h2
 ·cases hv
  have hln : (xs.take n).length = n := by rw [List.length_take]; omega
  refine ⟨Zq, .inr ⟨g, cap, cur, by rw [hln], hb, hh, Zj, hc, hs, ?_⟩⟩
  rw [hln, List.map_take, ← ht, List.take_take]
  congr 1; omega
end Go.Proofs.YtihaeeldgimdiaaGreatDoor.X
end
