/- anyAt: where one of some ASCII bytes first stands in a text, which is gone through rune by rune. -/
import Derived.Test.YtfmjnmglagdcdaaGreatDoorCHWords
import Derived.Test.YtfmjnmglagdcdaaGreatDoorCHH0a
import Derived.Lib.OthersKept
import Derived.Lib.RuneCount
import Derived.WalkKit
namespace Go.Proofs.YtfmjnmglagdcdaaGreatDoor.X
open Go.RowKit Go.Lib Go.Shelf Go.Yw.PrintWords Go.Yw.PrintLast Go.Yw.PrintMore
set_option linter.unusedVariables false
set_option linter.unusedSimpArgs false
theorem get!_at (s : ByteArray) (k : Nat) (h : k < s.size) : s.get! k = s[k]'h := by
 cases s with
 | mk d => exact getElem!_pos d k h
theorem get!_data (s : ByteArray) (k : Nat) (h : k < s.size) : s.data.toList[k]? = some (s.get! k) := by
 rw [get!_at s k h]; exact Lib.data_getElem? s k h
theorem Ylf (s : ByteArray) (i : Nat) (h : i < s.size) (ha : 128 ≤ (s.get! i).toNat) :
  i + (Utf8.decode s i).2 ≤ s.size ∧ ∀ j, j < (Utf8.decode s i).2 → 128 ≤ (s.get! (i + j)).toNat := by
 have hn : ¬ (s.get! (i + 0)).toNat < 128 := by simpa using ha
 have one : i + 1 ≤ s.size ∧ ∀ j, j < 1 → 128 ≤ (s.get! (i + j)).toNat := ⟨Zk, fun j hj => by
  obtain rfl : j = 0 := by omega
  simpa using ha⟩
 simp only [Utf8.decode, hn, if_false]
 by_cases c2 : ((s.get! (i + 0)).toNat / 32 == 6 && (decide (i + 1 < s.size) && (s.get! (i + 1)).toNat / 64 == 2)) = true
 ·rw [if_pos c2]
  simp only [Bool.and_eq_true, beq_iff_eq, decide_eq_true_eq] at c2
  split
  ·refine ⟨by show i + 2 ≤ _; omega, fun j hj => ?_⟩
   have : j < 2 := hj
   rcases (show j = 0 ∨ j = 1 by omega) with rfl | rfl
   ·simpa using ha
   ·omega
  ·exact one
 ·rw [if_neg c2]
  by_cases c3 : ((s.get! (i + 0)).toNat / 16 == 14 && (decide (i + 1 < s.size) && (s.get! (i + 1)).toNat / 64 == 2) && (decide (i + 2 < s.size) && (s.get! (i + 2)).toNat / 64 == 2)) = true
  ·rw [if_pos c3]
   simp only [Bool.and_eq_true, beq_iff_eq, decide_eq_true_eq] at c3
   split
   ·refine ⟨by show i + 3 ≤ _; omega, fun j hj => ?_⟩
    have : j < 3 := hj
    rcases (show j = 0 ∨ j = 1 ∨ j = 2 by omega) with rfl | rfl | rfl
    ·simpa using ha
    ·omega
    ·omega
   ·exact one
  ·rw [if_neg c3]
   by_cases c4 : ((s.get! (i + 0)).toNat / 8 == 30 && (decide (i + 1 < s.size) && (s.get! (i + 1)).toNat / 64 == 2) && (decide (i + 2 < s.size) && (s.get! (i + 2)).toNat / 64 == 2) && (decide (i + 3 < s.size) && (s.get! (i + 3)).toNat / 64 == 2)) = true
   ·rw [if_pos c4]
    simp only [Bool.and_eq_true, beq_iff_eq, decide_eq_true_eq] at c4
    split
    ·refine ⟨by show i + 4 ≤ _; omega, fun j hj => ?_⟩
     have : j < 4 := hj
     rcases (show j = 0 ∨ j = 1 ∨ j = 2 ∨ j = 3 by omega) with rfl | rfl | rfl | rfl
     ·simpa using ha
     ·omega
     ·omega
     ·omega
    ·exact one
   ·rw [if_neg c4]; exact one
def Yee (l : List UInt8) : Bool := l.all fun b => decide (b.toNat < 128)
theorem Ytd {l : List UInt8} (h : Yee l = true) {j : Nat} {b : UInt8} (hb : l[j]? = some b) : b.toNat < 128 := ascii_of_all h j b hb
def NotIn (chars : List UInt8) (c j : Nat) : Prop := ∀ (i : Nat) b, i < j → chars[i]? = some b → b.toNat ≠ c
theorem Yrj {s chars : ByteArray} {i : Nat} (ha : Yee chars.data.toList = true) (hi : i < s.size) (hno : Lib.NoAny s.data.toList chars.data.toList i)
  (hn : NotIn chars.data.toList (Utf8.decode s i).1 chars.size) : Lib.NoAny s.data.toList chars.data.toList (i + (Utf8.decode s i).2) := by
 intro j b hj hb
 by_cases hji : j < i
 ·exact hno j b hji hb
 obtain ⟨d, rfl⟩ : ∃ d, j = i + d := ⟨j - i, Zk⟩
 have hjs : i + d < s.size := by
  rcases Nat.lt_or_ge (i + d) s.size with h' | h'
  ·exact h'
  ·rw [List.getElem?_eq_none (by rw [← Lib.size_eq]; exact h')] at hb; cases hb
 have hbg : b = s.get! (i + d) := by rw [get!_data s _ hjs] at hb; exact (Option.some.inj hb).symm
 by_cases h128 : 128 ≤ (s.get! i).toNat
 ·have := (Ylf s i hi h128).2 d Zk
  cases hc : chars.data.toList.contains b with
  | false => rfl
  | true =>
   obtain ⟨q, hq⟩ := List.mem_iff_getElem?.1 (List.contains_iff_mem.1 hc)
   have := Ytd ha hq
   rw [hbg] at this
   omega
 ·have hlt : (s[i]'hi).toNat < 128 := by rw [← get!_at s i hi]; omega
  rw [decode_ascii s i hi hlt] at hj hn
  have hd0 : d = 0 := by have : i + d < i + 1 := hj; omega
  subst hd0
  cases hc : chars.data.toList.contains b with
  | false => rfl
  | true =>
   obtain ⟨q, hq⟩ := List.mem_iff_getElem?.1 (List.contains_iff_mem.1 hc)
   have hqs : q < chars.size := by
    rcases Nat.lt_or_ge q chars.size with h' | h'
    ·exact h'
    ·rw [List.getElem?_eq_none (by rw [← Lib.size_eq]; exact h')] at hq; cases hq
   exact absurd (by rw [hbg]; simp [get!_at s i hi]) (hn q b hqs hq)
theorem hit_at {s chars : ByteArray} {i j : Nat} {b : UInt8} (ha : Yee chars.data.toList = true) (hi : i < s.size) (hj : chars.data.toList[j]? = some b) (he : (Utf8.decode s i).1 = b.toNat) :
  s.data.toList[i]? = some b ∧ chars.data.toList.contains b = true := by
 have hb := Ytd ha hj
 have hlt : (s[i]'hi).toNat < 128 := by
  rcases Nat.lt_or_ge (s[i]'hi).toNat 128 with h' | h'
  ·exact h'
  ·have := (decode_high s i hi h').1; omega
 rw [decode_ascii s i hi hlt] at he
 refine ⟨?_, List.contains_iff_mem.2 (List.mem_iff_getElem?.2 ⟨j, hj⟩)⟩
 rw [Lib.data_getElem? s i hi]
 congr 1
 exact UInt8.toNat_inj.1 he
set_option maxHeartbeats 4000000 in
set_option maxRecDepth 100000 in
theorem url_anyAt.walk (s chars : ByteArray) (w : World) (ha0 : Yee chars.data.toList = true) :
  Calls Tryz.prog 101 #[.string s, .string chars] w fun e w' => e = .returned (.int .i64 (Lib.indexAny s.data.toList chars.data.toList)) ∧ Below w.heap.size w w' := by
 have HA := Ya.mk ha0
 clear ha0
 go_enter Tryz.func101, Tryz.ntmps101
 go_wp2
 go_loopg [5, 6, 8] s.size (fun g _ _ _ wx => ∃ i : Nat, i + g ≤ s.size ∧ s.size ≤ i + g ∧ wx.heap[w.heap.size]? = some (.stringIter s i) ∧ Ya (Below w.heap.size w wx) ∧ Ya (Lib.NoAny s.data.toList chars.data.toList i))
 case atStart => exact ⟨0, Zk, Zk, World.iter_heap w s 0, ⟨(Below.refl _ _).alloc (Nat.le_refl _) _⟩, ⟨Lib.NoAny.zero _ _⟩⟩
 case round =>
  obtain ⟨i, hig, hig2, hit, HB, HN⟩ := hrel
  cases gk with
  | zero =>
   obtain rfl : i = s.size := by omega
   have hnx := fun ty => Lib.run_next_end_at (P := Tryz.prog) wr w.heap.size s s.size ty hit (Nat.lt_irrefl _)
   go_wp2
   go_ret
   exact ⟨by rw [Lib.indexAny_none (by rw [← Lib.size_eq]; exact HN.out)]; rfl, HB.out⟩
  | succ g =>
   have hi : i < s.size := by omega
   have hnx := fun ty => Lib.run_next_any_at (P := Tryz.prog) wr w.heap.size s i ty hit hi
   have hd1 := decode_le s i
   have hwd : 1 ≤ (Utf8.decode s i).2 := Lib.decode_width_pos s i hi
   have hit2 := Lib.iterAt_heap wr w.heap.size s i (i + (Utf8.decode s i).2) hit
   have HB2 := Ya.mk (Lib.below_iterAt HB.out (k := w.heap.size) (Nat.le_refl _) s (i + (Utf8.decode s i).2))
   obtain ⟨W1, hW1⟩ : ∃ W1, W1 = wr.iterAt w.heap.size s (i + (Utf8.decode s i).2) := ⟨_, rfl⟩
   rw [← hW1] at hnx hit2 HB2
   have HS := Ya.mk (Yrj HA.out hi HN.out)
   have HH := Ya.mk (fun (j : Nat) (b : UInt8) => hit_at (j := j) (b := b) HA.out hi)
   have hle : Ya (i + (Utf8.decode s i).2 ≤ s.size) := ⟨by
    rcases Nat.lt_or_ge (s.get! i).toNat 128 with h' | h'
    ·rw [decode_ascii s i hi (by rw [← get!_at s i hi]; exact h')]; exact hi
    ·exact (Ylf s i hi h').1⟩
   obtain ⟨c, hc⟩ : ∃ c, c = (Utf8.decode s i).1 := ⟨_, rfl⟩
   obtain ⟨n, hn⟩ : ∃ n, n = (Utf8.decode s i).2 := ⟨_, rfl⟩
   rw [← hc] at hnx HS HH hd1
   rw [← hn] at hit2 HS hle hwd
   clear hW1 hit HB hc hn
   have HLt := Ya.mk (show w.heap.size < W1.heap.size from (Array.getElem?_eq_some_iff.1 hit2).1)
   have HI2 := Ya.mk hit2
   clear hit2
   obtain ⟨wo, rfl⟩ : ∃ wo : World, wo = wr := ⟨_, rfl⟩
   go_wp2
   go_loopg [8] chars.size (fun g2 _ wy => ∃ j : Nat, j + g2 ≤ chars.size ∧ chars.size ≤ j + g2 ∧ wy.heap[W1.heap.size]? = some (.stringIter chars j) ∧ Ya (Below W1.heap.size W1 wy) ∧ Ya (NotIn chars.data.toList c j))
   case atStart => exact ⟨0, Zk, Zk, World.iter_heap W1 chars 0, ⟨(Below.refl _ _).alloc (Nat.le_refl _) _⟩, ⟨fun _ _ h => absurd h (Nat.not_lt_zero _)⟩⟩
   case round =>
    obtain ⟨j, hjg, hjg2, hjt, HB3, HN3⟩ := hrel
    cases gk with
    | zero =>
     obtain rfl : j = chars.size := by omega
     have hny := fun ty => Lib.run_next_end_at (P := Tryz.prog) wr W1.heap.size chars chars.size ty hjt (Nat.lt_irrefl _)
     go_wp2
     go_roundg (s.size - (i + n))
     case measure => omega
     case rel =>
      exact ⟨i + n, by have := hle.out; omega, Zk, by rw [HB3.out.block _ HLt.out]; exact HI2.out, ⟨HB2.out.trans (HB3.out.mono (Nat.le_of_lt HLt.out))⟩, ⟨HS.out HN3.out⟩⟩
    | succ g2 =>
     have hj : j < chars.size := by omega
     have hx := get!_data chars j hj
     have hx128 := Ytd HA.out hx
     have hny := fun ty => Lib.run_next_ascii_at (P := Tryz.prog) wr W1.heap.size chars j ty hjt hj (by rw [← get!_at chars j hj]; exact hx128)
     rw [← get!_at chars j hj] at hny
     have hlt := (chars.get! j).toNat_lt
     have hjt2 := Lib.iterAt_heap wr W1.heap.size chars j (j + 1) hjt
     have HB4 := Ya.mk (Lib.below_iterAt HB3.out (k := W1.heap.size) (Nat.le_refl _) chars (j + 1))
     obtain ⟨W2, hW2⟩ : ∃ W2, W2 = wr.iterAt W1.heap.size chars (j + 1) := ⟨_, rfl⟩
     rw [← hW2] at hny hjt2 HB4
     have HX := Ya.mk hx
     obtain ⟨b, hb⟩ : ∃ b, b = chars.get! j := ⟨_, rfl⟩
     rw [← hb] at hny HX hx128 hlt
     have HJ2 := Ya.mk hjt2
     clear hjt2 hx hb hW2 hjt HB3
     by_cases he : c = b.toNat
     ·have he1 : ((c : Int) == (b.toNat : Int)) = true := by rw [he]; simp
      have HE2 := Ya.mk he
      clear he
      go_wp2
      go_ret
      obtain ⟨h1, h2⟩ := HH.out j b HX.out HE2.out
      exact ⟨by rw [Lib.indexAny_hit HN.out h1 h2]; rfl, HB2.out.trans (HB4.out.mono (Nat.le_of_lt HLt.out))⟩
     ·have he1 : ((c : Int) == (b.toNat : Int)) = false := beq_eq_false_iff_ne.2 Zk
      have HE2 := Ya.mk he
      clear he
      go_wp2
      go_roundg g2
      case measure => omega
      case rel =>
       refine ⟨j + 1, Zk, Zk, HJ2.out, HB4, ⟨fun i2 b2 h1 h2 => ?_⟩⟩
       by_cases e : i2 = j
       ·subst e; rw [HX.out] at h2; cases h2; exact fun h => HE2.out h.symm
       ·exact HN3.out i2 b2 Zk h2
end Go.Proofs.YtfmjnmglagdcdaaGreatDoor.X
