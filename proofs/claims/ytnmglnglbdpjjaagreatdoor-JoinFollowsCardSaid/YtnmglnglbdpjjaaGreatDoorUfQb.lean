import Derived.Test.YtnmglnglbdpjjaaGreatDoorUfX14
set_option linter.all false
section
section
namespace Go.Proofs.YtnmglnglbdpjjaaGreatDoor.X
open Go.RowKit Go.Lib Go.Shelf Go.Yw.PrintWords Go.Yw.PrintLast Go.Yw.PrintMore
theorem Ygb (l : List UInt8) : (ofL l).data.toList = l := rfl
theorem Yy (l : List UInt8) : (ofL l).size = l.length := by rw [Lib.size_eq]; rfl
theorem Yhi (s : Y) : ofL s.data.toList = s := rfl
theorem Ywc (l : List UInt8) : (ofL l).toList = l := by rw [Lib.toList_data]; rfl
theorem Yng {a b : Y} (h : a.data.toList = b.data.toList) : a = b := by rw [← Yhi a, h, Yhi]
theorem Ynh (s : Y) (a b : Nat) : s.extract a b = ofL ((s.data.toList.drop a).take (b - a)) := Yng (by rw [Lib.extract_data]; rfl)
theorem Yuc (s : Y) (a : Nat) : s.extract a s.size = ofL (s.data.toList.drop a) := Yng (by rw [Lib.extract_to_end]; rfl)
theorem Yge (s : Y) (a : Nat) : s.extract 0 a = ofL (s.data.toList.take a) := by rw [Ynh, List.drop_zero, Nat.sub_zero]
def Ymf (b : UInt8) : List (List UInt8) → List (List UInt8)
 | [] => [[b]]
 | h :: t => (b :: h) :: t
def splitB (c : UInt8) : List UInt8 → List (List UInt8)
 | [] => [[]]
 | b :: l => if b = c then [] :: splitB c l else Ymf b (splitB c l)
theorem Ytf (c : UInt8) (l : List UInt8) : splitB c l ≠ [] := by
 cases l with
 | nil => simp [splitB]
 | cons b l =>
  unfold splitB
  split
  ·simp
  ·cases splitB c l <;> simp [Ymf]
theorem Yit (c : UInt8) (l : List UInt8) : (Lib.indexByte l c = -1 ∧ splitB c l = [l]) ∨ ∃ i : Nat, i < l.length ∧ Lib.indexByte l c = i ∧ splitB c l = l.take i :: splitB c (l.drop (i + 1)) := by
 induction l with
 | nil => left; exact ⟨rfl, rfl⟩
 | cons b l ih =>
  by_cases hb : b = c
  ·right
   refine ⟨0, Zv, ?_, ?_⟩
   ·unfold Lib.indexByte; rw [if_pos (by simpa using hb)]; rfl
   ·rw [splitB, if_pos hb]; rfl
  ·have hi : Lib.indexByte (b :: l) c = if (Lib.indexByte l c == -1) = true then -1 else Lib.indexByte l c + 1 := by
    rw [Lib.indexByte, if_neg (by simpa using hb)]
   rcases ih with ⟨h1, h2⟩ | ⟨i, h1, h2, h3⟩
   ·left
    refine ⟨by rw [hi, h1]; rfl, ?_⟩
    rw [splitB, if_neg hb, h2]; rfl
   ·right
    refine ⟨i + 1, Zib, ?_, ?_⟩
    ·rw [hi, h2, if_neg (fun e => by have := beq_iff_eq.1 e; omega)]; omega
    ·rw [splitB, if_neg hb, h3]; rfl
theorem Yfl (c : UInt8) (l : List UInt8) : (splitB c l).length ≤ l.length + 1 := by
 induction l with
 | nil => simp [splitB]
 | cons b l ih =>
  rw [splitB]
  split
  ·simp only [List.length_cons]; omega
  ·cases h : splitB c l with
   | nil => simp [Ymf]
   | cons x y => rw [h] at ih; simp only [Ymf, List.length_cons] at ih ⊢; omega
theorem split_l0 (c : UInt8) : ∀ (n : Nat) (s : Y) (acc : List Y), s.size ≤ n → acc.length + s.size ≤ 4294967281 → Ylb.l0 (n + 1) s (c.toNat : Int) acc = some (acc ++ (splitB c s.data.toList).map ofL) := by
 intro n
 induction n with
 | zero =>
  intro s acc hs ha
  have h0 : s.data.toList = [] := List.eq_nil_of_length_eq_zero Zcb
  have he : strings_IndexByte.f s (c.toNat : Int) = some (-1) := by unfold strings_IndexByte.f; rw [h0]; rfl
  unfold Ylb.l0
  rw [he]
  simp only [Kfa]
  rw [if_pos Zk, if_pos Zk, h0]
  have : s = ofL [] := Yng h0
  rw [this]; rfl
 | succ n ih =>
  intro s acc hs ha
  have hb : ((c.toNat : Int)).toNat.toUInt8 = c := by simp
  have he : strings_IndexByte.f s (c.toNat : Int) = some (Lib.indexByte s.data.toList c) := by unfold strings_IndexByte.f; rw [hb]
  unfold Ylb.l0
  rw [he]
  simp only [Kfa]
  rcases Yit c s.data.toList with ⟨h1, h2⟩ | ⟨i, h1, h2, h3⟩
  ·rw [h1, if_pos Zk, if_pos Zk, h2]; rfl
  ·rw [← Lib.size_eq] at h1
   have hw : wrap64 ((i : Int) + 1) = (i : Int) + 1 := by unfold wrap64; omega
   rw [h2, if_neg Zk, if_pos Zk, if_pos Zk, if_pos Zk, hw, if_pos Zk, if_pos Zk]
   have e1 : ((i : Int) + 1).toNat = i + 1 := by omega
   rw [e1, Int.toNat_natCast, ih _ _ Zpa (by rw [ByteArray.size_extract, List.length_append]; simp only [List.length_cons, List.length_nil]; omega), h3, Yuc, Yge, Ygb]
   simp
theorem split_f (s : Y) (c : UInt8) (hs : s.size ≤ 4294967281) : Ylb.f (s.size + 1) s (c.toNat : Int) = some ((splitB c s.data.toList).map ofL) := by
 unfold Ylb.f
 rw [split_l0 c s.size s [] (Kw _) (by simpa using hs)]; rfl
def Yqg (l : List UInt8) : Nat := if Lib.replaceAll (lowL l) [37, 50, 101] [46] = [46] then 1 else if Lib.replaceAll (lowL l) [37, 50, 101] [46] = [46, 46] then 2 else 0
theorem Ylh (l : List UInt8) : (lowL l).length = l.length := by unfold lowL; rw [List.length_map]
theorem countB_le (s sub : Y) : Lib.countB s sub ≤ s.size + 1 := by
 unfold Lib.countB
 have := Lib.count_le s.data.toList sub.data.toList
 rw [← Lib.size_eq] at this
 omega
theorem dots_f (s : Y) (hs : s.size ≤ 4294967200) : Yjj.f s = some (Yqg s.data.toList : Int) := by
 unfold Yjj.f Yib.f
 rw [if_pos Zk]
 simp only [Kfa]
 unfold strings_ReplaceAll.f
 have hc := countB_le (ofL (lowL s.data.toList)) ⟨#[37, 50, 101]⟩
 have hz : (ofL (lowL s.data.toList)).size = s.size := by rw [Yy, Ylh, ← Lib.size_eq]
 rw [if_pos ⟨by rw [hz]; omega, by show 1 ≤ 3; omega, by rw [hz]; show s.size + _ * 1 ≤ _; rw [hz] at hc; omega⟩]
 simp only [Kfa, Ywc]
 unfold Yqg
 show (if Lib.replaceAll (lowL s.data.toList) [37, 50, 101] [46] = [46] then some 1 else if Lib.replaceAll (lowL s.data.toList) [37, 50, 101] [46] = [46, 46] then some 2 else some 0) = _
 split
 ·rfl
 ·split <;> rfl
end Go.Proofs.YtnmglnglbdpjjaaGreatDoor.X
end
section
namespace Go.Proofs.YtnmglnglbdpjjaaGreatDoor.X
open Go.RowKit Go.Lib Go.Shelf Go.Yw.PrintWords Go.Yw.PrintLast Go.Yw.PrintMore
def Yug (part : List UInt8) (b : UInt8) : List UInt8 := if decide (32 < b.toNat) && (decide (b.toNat < 127) && !part.contains b) then [b] else Ypf [] b
def Yic (part l : List UInt8) : List UInt8 := l.flatMap (Yug part)
theorem partB_le (part : List UInt8) (b : UInt8) : (Yug part b).length ≤ 3 := by
 unfold Yug
 split
 ·simp
 ·exact Ybm _ _
theorem Ych (part l : List UInt8) : (Yic part l).length ≤ 3 * l.length := by
 induction l with
 | nil => simp [Yic]
 | cons b l ih =>
  have := partB_le part b
  simp only [Yic, List.flatMap_cons, List.length_append, List.length_cons] at ih ⊢
  omega
theorem Yxl (part l : List UInt8) (b : UInt8) : Yic part (l ++ [b]) = Yic part l ++ Yug part b := by simp [Yic]
theorem Ytt (s : Y) (i : Nat) (h : i < s.size) : (s.extract i (i + 1)).data.toList = [s.get! i] := by
 rw [Lib.extract_data, show i + 1 - i = 1 by omega]
 have h1 := get!_data s i h
 rw [List.drop_eq_getElem_cons Zcb]
 rw [List.getElem?_eq_getElem Zcb] at h1
 simp only [Kda] at h1
 rw [h1]; rfl
def Yle.f (a0 a1 : Y) : Option Y := if a0.size ≤ 4294967281 then some (ofL (Yic a1.data.toList a0.data.toList)) else none
set_option maxHeartbeats 8000000 in
set_option maxRecDepth 100000 in
theorem Yle.calls (a0 a1 r : Y) (w : World) (hE : EnvOk w) (h : Yle.f a0 a1 = some r) :
  Calls Tryz.prog 61 #[.string a0, .string a1] w fun e w' => e = .returned (.string r) ∧ Below w.heap.size w w' := by
 unfold Yle.f at h
 by_cases hs : a0.size ≤ 4294967281
 ·rw [if_pos hs] at h
  obtain rfl := Kv h
  have HE := Ya.mk hE
  clear hE h
  go_enter Tryz.func61, Tryz.ntmps61
  go_wp2
  go_loopg [6, 7, 10] a0.size (fun g _ _ v10 wx => ∃ (i : Nat), i + g ≤ a0.size ∧ a0.size ≤ i + g ∧ v10 = .int .i64 (i : Int) ∧ Ya (Yrj w.heap.size w.heap.size (Yic a1.data.toList (a0.data.toList.take i)) wx) ∧ Ya (Below w.heap.size w wx))
  case atStart => exact ⟨0, Zk, Zk, rfl, ⟨Ybs w⟩, ⟨(Below.refl _ _).alloc (Kw _) _⟩⟩
  case round =>
   obtain ⟨i, hi1, kY, rfl, HI, HB⟩ := hrel
   cases gk with
   | zero =>
    obtain rfl : i = a0.size := by omega
    go_wp2_with fail
    refine (Ynl w.heap.size w.heap.size _ _ HI.out HB.out.size).mono ?_
    rintro e w2 ⟨rfl, bU⟩
    have eL := Ya.mk (HB.out.trans bU)
    clear bU
    go_wp2
    go_ret
    exact ⟨by rw [List.take_of_length_le Zmb]; rfl, eL.out⟩
   | succ g =>
    have hi : i < a0.size := by omega
    have hlt : decide ((i : Int) < (a0.size : Int)) = true := Kr Zk
    have hg := get!_at a0 i hi
    have HT := Ya.mk (Ysq a0 i hi)
    have HL := Ya.mk (Ych a1.data.toList (a0.data.toList.take i))
    have hle : Ya ((a0.data.toList.take i).length ≤ i) := ⟨List.length_take_le _ _⟩
    have HX1 := Ya.mk (Ytt a0 i hi)
    obtain ⟨b, hb⟩ : ∃ b, b = a0.get! i := ⟨_, rfl⟩
    rw [← hb] at hg HT HX1
    have hx : (a0[i]'hi).toNat = b.toNat := by rw [hg]
    clear hb hg
    have lM := Ya.mk (HE.out.below HB.out)
    have hbt := b.toNat_lt
    have HX := Ya.mk (Yzj a1.data.toList b)
    have HBk := Ya.mk (show ((b.toNat : Int)).toNat.toUInt8 = b by simp)
    by_cases h1 : 32 < b.toNat ∧ b.toNat < 127
    ·have d1 : decide ((32 : Int) < (b.toNat : Int)) = true := Kr Zk
     have d2 : decide ((b.toNat : Int) < 127) = true := Kr Zk
     cases hc : a1.data.toList.contains b with
     | false =>
      rw [hc] at HX
      have HM := Ya.mk (show Yug a1.data.toList b = [b] by unfold Yug; rw [hc, decide_eq_true h1.1, decide_eq_true h1.2]; rfl)
      have wE : decide (Lib.indexByte a1.data.toList b < 0) = true := by
       have := of_decide_eq_false HX.out
       exact Kr Zk
      clear h1 hc
      go_wp2_with fail
      refine (Tryz.strings_IndexByte _ _ _).mono ?_
      rintro e w2 ⟨rfl, tA⟩
      rw [tA, HBk.out]
      clear tA
      go_wp2_with fail
      refine (Yrh w.heap.size w.heap.size _ b _ HI.out Zub HB.out.size).mono ?_
      rintro e w3 ⟨rfl, pT, gN⟩
      have oE := Ya.mk pT
      have eF := Ya.mk (HB.out.trans gN)
      clear pT gN
      go_wp2
      go_roundg g
      case measure => omega
      case rel => exact ⟨i + 1, Zk, Zk, by go_num, ⟨by rw [HT.out, Yxl, HM.out]; exact oE.out⟩, eF⟩
     | true =>
      rw [hc] at HX
      have HM := Ya.mk (show Yug a1.data.toList b = Ypf [] b by unfold Yug; rw [hc]; simp)
      have wE : decide (Lib.indexByte a1.data.toList b < 0) = false := by
       have := Kq HX.out
       exact Ks Zk
      have HF := Ya.mk (show Ygf.f (a0.extract i (i + 1)) ⟨#[]⟩ = some (ofL (Ypf [] b)) by
       unfold Ygf.f
       rw [if_pos Zpa, HX1.out]
       simp [Yil])
      have k5 : (i : Int) + 1 ≤ (a0.size : Int) := by omega
      clear h1 hc
      go_wp2_with fail
      refine (Tryz.strings_IndexByte _ _ _).mono ?_
      rintro e w2 ⟨rfl, tA⟩
      rw [tA, HBk.out]
      clear tA
      go_wp2_with fail
      refine (Ygf.calls _ _ _ _ lM.out HF.out).mono ?_
      rintro e w3 ⟨rfl, gN⟩
      have oE := Ya.mk (HI.out.below gN)
      have eF := Ya.mk (HB.out.trans (gN.mono HB.out.size))
      clear gN
      go_wp2_with fail
      refine (bld_str w.heap.size w.heap.size _ _ _ oE.out (by have := HL.out; have := hle.out; have := Ybm [] b; rw [Lib.size_eq]; show _ + (Ypf [] b).length ≤ _; omega) eF.out.size).mono ?_
      rintro e w4 ⟨rfl, hi4, kW⟩
      have vA := Ya.mk hi4
      have dL := Ya.mk (eF.out.trans kW)
      clear hi4 kW
      go_wp2
      go_roundg g
      case measure => omega
      case rel => exact ⟨i + 1, Zk, Zk, by go_num, ⟨by rw [HT.out, Yxl, HM.out]; exact vA.out⟩, dL⟩
    ·have HM := Ya.mk (show Yug a1.data.toList b = Ypf [] b by unfold Yug; rw [if_neg]; simp only [Bool.and_eq_true, decide_eq_true_eq]; exact fun hx => h1 ⟨hx.1, hx.2.1⟩)
     have HF := Ya.mk (show Ygf.f (a0.extract i (i + 1)) ⟨#[]⟩ = some (ofL (Ypf [] b)) by
      unfold Ygf.f
      rw [if_pos Zpa, HX1.out]
      simp [Yil])
     have k5 : (i : Int) + 1 ≤ (a0.size : Int) := by omega
     have hcase : decide ((32 : Int) < (b.toNat : Int)) = false ∨ (decide ((32 : Int) < (b.toNat : Int)) = true ∧ decide ((b.toNat : Int) < 127) = false) := by
      by_cases hq : 32 < b.toNat
      ·right; exact ⟨Kr Zk, Ks Zk⟩
      ·left; exact Ks Zk
     clear h1
     rcases hcase with d1 | ⟨d1, d2⟩
     all_goals
      go_wp2_with fail
      refine (Ygf.calls _ _ _ _ lM.out HF.out).mono ?_
      rintro e w3 ⟨rfl, gN⟩
      have oE := Ya.mk (HI.out.below gN)
      have eF := Ya.mk (HB.out.trans (gN.mono HB.out.size))
      clear gN
      go_wp2_with fail
      refine (bld_str w.heap.size w.heap.size _ _ _ oE.out (by have := HL.out; have := hle.out; have := Ybm [] b; rw [Lib.size_eq]; show _ + (Ypf [] b).length ≤ _; omega) eF.out.size).mono ?_
      rintro e w4 ⟨rfl, hi4, kW⟩
      have vA := Ya.mk hi4
      have dL := Ya.mk (eF.out.trans kW)
      clear hi4 kW
      go_wp2
      go_roundg g
      case measure => omega
      case rel => exact ⟨i + 1, Zk, Zk, by go_num, ⟨by rw [HT.out, Yxl, HM.out]; exact vA.out⟩, dL⟩
 ·rw [if_neg hs] at h; cases h
end Go.Proofs.YtnmglnglbdpjjaaGreatDoor.X
end
end
section
namespace Go.Proofs.YtnmglnglbdpjjaaGreatDoor.X
open Go.RowKit Go.Lib Go.Shelf Go.Yw.PrintWords Go.Yw.PrintLast Go.Yw.PrintMore
def Yih (b : UInt8) : UInt8 := if b = 92 then 47 else b
def Yxc (l : List UInt8) : List UInt8 := l.map Yih
def Yrc : List UInt8 := [34, 60, 62, 35, 63, 96, 123, 125]
def Ydd (last : Bool) (out : List (List UInt8)) (p : List UInt8) : List (List UInt8) :=
 if Yqg (Yic Yrc p) = 0 then out ++ [Yic Yrc p] else
  if last = true then (if Yqg (Yic Yrc p) = 2 then out.take (out.length - 1) else out) ++ [[]] else (if Yqg (Yic Yrc p) = 2 then out.take (out.length - 1) else out)
theorem Ypj {last : Bool} {out : List (List UInt8)} {p : List UInt8} (h : Yqg (Yic Yrc p) = 0) : Ydd last out p = out ++ [Yic Yrc p] := by unfold Ydd; rw [if_pos h]
theorem Yyl {last : Bool} {out : List (List UInt8)} {p : List UInt8} (h : Yqg (Yic Yrc p) = 1) : Ydd last out p = if last = true then out ++ [[]] else out := by
 unfold Ydd; rw [h]; rfl
theorem Yrl {last : Bool} {out : List (List UInt8)} {p : List UInt8} (h : Yqg (Yic Yrc p) = 2) : Ydd last out p = if last = true then out.take (out.length - 1) ++ [[]] else out.take (out.length - 1) := by
 unfold Ydd; rw [h]; rfl
def Ysc : List (List UInt8) → List (List UInt8) → List (List UInt8)
 | [], out => out
 | p :: t, out => Ysc t (Ydd t.isEmpty out p)
def Yhd (l : List UInt8) : List (List UInt8) :=
 if decide (1 < (splitB 47 (Yxc l)).length) && ((splitB 47 (Yxc l)).headD []).isEmpty then (splitB 47 (Yxc l)).tail else splitB 47 (Yxc l)
def Yxe (l : List UInt8) : List UInt8 := 47 :: Lib.join (Ysc (Yhd l) []) [47]
theorem Yaq (l : List UInt8) : Lib.replaceAll l [92] [47] = Yxc l := by
 rw [Ykk]
 induction l with
 | nil => rfl
 | cons b l ih => rw [List.flatMap_cons, ih]; by_cases h : b = 92 <;> simp [Yxc, Yih, h]
def tot (l : List (List UInt8)) : Nat := (l.map fun p => p.length + 1).sum
theorem Ypl (a b : List (List UInt8)) : tot (a ++ b) = tot a + tot b := by simp [tot]
theorem tot_take (a : List (List UInt8)) (n : Nat) : tot (a.take n) ≤ tot a := by
 have := Ypl (a.take n) (a.drop n)
 rw [List.take_append_drop] at this; omega
theorem Ysg (a : List (List UInt8)) : a.length ≤ tot a := by
 induction a with
 | nil => simp [tot]
 | cons p a ih => simp only [tot, List.map_cons, List.sum_cons, List.length_cons] at ih ⊢; omega
theorem Ytn (a : List (List UInt8)) : (Lib.join a [47]).length ≤ tot a := by
 cases a with
 | nil => simp [Lib.join, List.intercalate]
 | cons x r =>
  rw [Lib.join_cons]
  simp only [List.length_append, tot, List.map_cons, List.sum_cons]
  have : (Lib.joinTail [47] r).length = (r.map fun p => p.length + 1).sum := by
   induction r with
   | nil => simp [Lib.joinTail]
   | cons y r ih => simp only [Lib.joinTail, List.map_cons, List.flatten_cons, List.length_append, List.sum_cons, List.length_cons, List.length_nil] at ih ⊢; omega
  omega
def room (l : List (List UInt8)) : Nat := (l.map fun p => 3 * p.length + 2).sum
theorem Yji (last : Bool) (out : List (List UInt8)) (p : List UInt8) : tot (Ydd last out p) ≤ tot out + (3 * p.length + 2) := by
 have h1 := Ych Yrc p
 have h2 := tot_take out (out.length - 1)
 have e1 : ∀ x : List UInt8, tot [x] = x.length + 1 := fun x => by simp [tot]
 unfold Ydd
 split
 ·rw [Ypl, e1]; omega
 ·split <;> split <;> (first | (rw [Ypl, e1]; simp only [List.length_nil]; omega) | omega)
theorem Yvo (c : UInt8) (l : List UInt8) : tot (splitB c l) = l.length + 1 := by
 induction l with
 | nil => simp [splitB, tot]
 | cons b l ih =>
  rw [splitB]
  split
  ·simp only [tot, List.map_cons, List.sum_cons, List.length_nil] at ih ⊢; simp only [List.length_cons]; omega
  ·cases h : splitB c l with
   | nil => exact absurd h (Ytf c l)
   | cons x y => rw [h] at ih; simp only [Ymf, tot, List.map_cons, List.sum_cons, List.length_cons] at ih ⊢; omega
theorem room_tot (l : List (List UInt8)) : room l ≤ 3 * tot l := by
 induction l with
 | nil => simp [room]
 | cons p l ih => simp only [room, tot, List.map_cons, List.sum_cons] at ih ⊢; omega
theorem Ydl (l : List UInt8) : (Yxc l).length = l.length := by unfold Yxc; rw [List.length_map]
theorem Yoi (l : List UInt8) : room (Yhd l) ≤ 3 * l.length + 3 := by
 have h := room_tot (splitB 47 (Yxc l))
 rw [Yvo, Ydl] at h
 unfold Yhd
 split
 ·cases hs : splitB 47 (Yxc l) with
  | nil => simp [room]
  | cons x y => rw [hs] at h; simp only [room, List.map_cons, List.sum_cons, List.tail_cons] at h ⊢; omega
 ·omega
theorem Ytm (l : List (List UInt8)) (k : Nat) (h : k < l.length) : room (l.drop k) = 3 * (l[k]).length + 2 + room (l.drop (k + 1)) := by
 rw [List.drop_eq_getElem_cons h]
 simp only [room, List.map_cons, List.sum_cons]
theorem Ygk (l : List (List UInt8)) : l.length ≤ room l := by
 induction l with
 | nil => simp
 | cons p l ih => simp only [room, List.map_cons, List.sum_cons, List.length_cons] at ih ⊢; omega
def RowS (W : World) (g off : Nat) (xs : List (List UInt8)) : Prop := ∀ (j : Nat) (h : j < xs.length), W.cell? ⟨g, off + j, none⟩ = some (.string (ofL xs[j]))
theorem RowS.below {W W' : World} {g off : Nat} {xs : List (List UInt8)} (h : RowS W g off xs) (hb : Below W.heap.size W W') : RowS W' g off xs := fun j hj => cell_kept hb (h j hj)
theorem RowS.tail {W : World} {g off : Nat} {x : List UInt8} {xs : List (List UInt8)} (h : RowS W g off (x :: xs)) : RowS W g (off + 1) xs := fun j hj => by
 have := h (j + 1) Zib
 rw [show off + 1 + j = off + (j + 1) by omega, this]; rfl
theorem Ygo {W : World} {base : Nat} {ok : Nat → Prop} {v : Value} {xs : List (List UInt8)} (h : Kd.R Kd.string 9 W base ok v (xs.map ofL)) (hne : xs ≠ []) :
  ∃ g cap, v = .slice (some ⟨g, 0, none⟩) xs.length cap ∧ xs.length ≤ cap ∧ cap ≤ maxLen ∧ base ≤ g ∧ RowS W g 0 xs := by
 have hr := Kd.own_of_R (enc := Value.string) (h1 := fun _ => rfl) h
 obtain ⟨h1, h2⟩ := hr
 rw [List.length_map] at h2
 rcases h2 with ⟨rfl, h0⟩ | ⟨g, cap, cur, rfl, hb, hh, hn, hc, hs, ht⟩
 ·exact absurd (List.eq_nil_of_length_eq_zero h0) hne
 ·refine ⟨g, cap, rfl, hn, hc, hb, fun j hj => ?_⟩
  unfold World.cell?
  rw [hh]
  have h3 : (cur.toList.take (xs.length * 1))[j]? = some (.string (ofL xs[j])) := by
   rw [ht]
   unfold encs
   rw [List.getElem?_map, List.getElem?_map, List.getElem?_eq_getElem hj]
   rfl
  rw [List.getElem?_take, if_pos Zk] at h3
  simpa using h3
abbrev OwnS (W : World) (base : Nat) (v : Value) (xs : List (List UInt8)) : Prop := W.ownsRow base 9 1 v xs.length (xs.map fun x => Value.string (ofL x))
theorem OwnS.take {W : World} {base g cap : Nat} {xs : List (List UInt8)} (h : OwnS W base (.slice (some ⟨g, 0, none⟩) xs.length cap) xs) (n : Nat) (hn : n ≤ xs.length) : OwnS W base (.slice (some ⟨g, 0, none⟩) n cap) (xs.take n) := by
 obtain ⟨h1, h2⟩ := h
 rcases h2 with ⟨h2, _⟩ | ⟨g', cap', cur, hv, hb, hh, hl, hc, hs, ht⟩
 ·cases h2
 ·cases hv
  have hln : (xs.take n).length = n := by rw [List.length_take]; omega
  refine ⟨Zv, .inr ⟨g, cap, cur, by rw [hln], hb, hh, Zk, hc, hs, ?_⟩⟩
  rw [hln, List.map_take, ← ht, List.take_take]
  congr 1; omega
end Go.Proofs.YtnmglnglbdpjjaaGreatDoor.X
end
