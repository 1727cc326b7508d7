import Derived.Test.YtihaeeldgimdiaaGreatDoorIUX0
import Derived.Test.YtihaeeldgimdiaaGreatDoorIUShelf
import Derived.Shelf.Strings.SlTrimAscii
import Derived.Lib.RuneCount
set_option linter.all false
section
namespace Go.Proofs.YtihaeeldgimdiaaGreatDoor.X
open Go.RowKit Go.Lib Go.Shelf Go.Yw.PrintWords Go.Yw.PrintLast Go.Yw.PrintMore
def ofL (l : List UInt8) : Y := ⟨l.toArray⟩
def strings_IndexByte.f (a0 : Y) (a1 : Int) : Option Int := some (Lib.indexByte a0.data.toList a1.toNat.toUInt8)
theorem strings_IndexByte.calls (a0 : Y) (a1 r : Int) (w : World) (hE : EnvOk w) (h : strings_IndexByte.f a0 a1 = some r) :
  Calls Tryz.prog 25 #[.string a0, .int .u8 a1] w fun e w' => e = .returned (.int .i64 r) ∧ Drawn0 w w' := by
 obtain rfl := Kr h
 exact (Tryz.strings_IndexByte a0 a1 w).mono fun e w' ⟨h1, h2⟩ => ⟨h1, h2 ▸ Drawn0.refl _⟩
def strings_Cut.f (a0 a1 : Y) : Option (Y × Y × Bool) :=
 if a0.size < 4294967281 then some (ofL (Lib.cut a0.data.toList a1.data.toList).1, ofL (Lib.cut a0.data.toList a1.data.toList).2.1, (Lib.cut a0.data.toList a1.data.toList).2.2) else none
theorem strings_Cut.calls (a0 a1 r1 r2 : Y) (r3 : Bool) (w : World) (hE : EnvOk w) (h : strings_Cut.f a0 a1 = some (r1, r2, r3)) :
  Calls Tryz.prog 24 #[.string a0, .string a1] w fun e w' => e = .returned (.tuple #[.string r1, .string r2, .bool r3]) ∧ Drawn0 w w' := by
 unfold strings_Cut.f at h
 by_cases hs : a0.size < 4294967281
 ·rw [if_pos hs] at h
  simp only [Kz, Kaa] at h
  obtain ⟨rfl, rfl, rfl⟩ := h
  obtain ⟨m, hm⟩ := hE.maxlen
  exact (Tryz.strings_Cut a0 a1 m w hs hm).mono fun e w' ⟨h1, n, h2⟩ => ⟨h1, ⟨n, h2⟩⟩
 ·rw [if_neg hs] at h; cases h
def Yfc.f (a0 a1 : Y) : Option Y :=
 if a1.size < 4294967281 ∧ a1.data.toList.all (fun b => decide (b.toNat < 128)) = true then some (ofL (Lib.trimLeftS a0.data.toList a1.data.toList)) else none
theorem Yfc.calls (a0 a1 r : Y) (w : World) (hE : EnvOk w) (h : Yfc.f a0 a1 = some r) :
  Calls Tryz.prog 72 #[.string a0, .string a1] w fun e w' => e = .returned (.string r) ∧ Below w.heap.size w w' := by
 unfold Yfc.f at h
 by_cases hs : a1.size < 4294967281 ∧ a1.data.toList.all (fun b => decide (b.toNat < 128)) = true
 ·rw [if_pos hs] at h
  obtain rfl := Kr h
  exact Any.strings_TrimLeft_laid Tryz.lays161 Zi a0 a1 w hs.1 (ascii_of_all hs.2)
 ·rw [if_neg hs] at h; cases h
def strings_ReplaceAll.f (a0 a1 a2 : Y) : Option Y :=
 if a0.size < 4294967281 ∧ 1 ≤ a1.size ∧ a0.size + Lib.countB a0 a1 * a2.size ≤ 140737488355328 then some (ofL (Lib.replaceAll a0.data.toList a1.data.toList a2.data.toList)) else none
theorem strings_ReplaceAll.calls (a0 a1 a2 r : Y) (w : World) (hE : EnvOk w) (h : strings_ReplaceAll.f a0 a1 a2 = some r) :
  Calls Tryz.prog 67 #[.string a0, .string a1, .string a2] w fun e w' => e = .returned (.string r) ∧ Below w.heap.size w w' := by
 unfold strings_ReplaceAll.f at h
 by_cases hs : a0.size < 4294967281 ∧ 1 ≤ a1.size ∧ a0.size + Lib.countB a0 a1 * a2.size ≤ 140737488355328
 ·rw [if_pos hs] at h
  obtain rfl := Kr h
  obtain ⟨m, hm⟩ := hE.maxlen
  exact Tryz.strings_ReplaceAll a0 a1 a2 m w hs.1 hm hs.2.1 hs.2.2
 ·rw [if_neg hs] at h; cases h
def strings_Join.f (l0 : List Y) (a1 : Y) : Option Y :=
 if l0.length ≤ 140737488355328 ∧ (Lib.join (l0.map (·.data.toList)) a1.data.toList).length ≤ 140737488355328 then some (ofL (Lib.join (l0.map (·.data.toList)) a1.data.toList)) else none
theorem strings_Join.calls (A0 : Option Addr) (c0 : Nat) (l0 : List Y) (a1 r : Y) (w : World) (hE : EnvOk w) (nD : Kd.C Kd.string w A0 l0.length l0) (eE : l0.length ≤ c0) (h : strings_Join.f l0 a1 = some r) :
  Calls Tryz.prog 108 #[.slice A0 l0.length c0, .string a1] w fun e w' => e = .returned (.string r) ∧ Below w.heap.size w w' := by
 unfold strings_Join.f at h
 by_cases hs : l0.length ≤ 140737488355328 ∧ (Lib.join (l0.map (·.data.toList)) a1.data.toList).length ≤ 140737488355328
 ·rw [if_pos hs] at h
  obtain rfl := Kr h
  have hR := Kd.reads_of_C (enc := Value.string) (d := ByteArray.empty) (h1 := fun _ => rfl) nD
  by_cases h0 : 0 < l0.length
  ·obtain ⟨ad, rfl, hc⟩ := hR.2.2 h0
   obtain ⟨bk, o, sp⟩ := ad
   have aCm := hc 0 h0
   have hlt := lt_of_cell aCm
   have hsp : sp = none := by
    cases sp with
    | none => rfl
    | some x => simp [World.cell?, Addr.add] at aCm; split at aCm <;> simp at aCm
   subst hsp
   refine Tryz.strings_Join bk o c0 l0 a1 w ?_ (by simpa [Addr.add] using hlt) hs.1 eE hs.2
   intro j x hx
   have hj : j < l0.length := by
    rcases Nat.lt_or_ge j l0.length with h' | h'
    ·exact h'
    ·rw [List.getElem?_eq_none h'] at hx; cases hx
   have := hc j hj
   rw [show (Addr.add ⟨bk, o, none⟩ j) = ⟨bk, o + j, none⟩ from by unfold Addr.add; split <;> simp_all] at this
   rw [this, List.getD_eq_getElem?_getD, hx]; rfl
  ·have : l0 = [] := List.eq_nil_of_length_eq_zero Zj
   subst this
   exact (Tryz.strings_Join_none A0 c0 a1 w).mono fun e w' ⟨h1, h2⟩ => ⟨h1, h2 ▸ Below.refl _ _⟩
 ·rw [if_neg hs] at h; cases h
end Go.Proofs.YtihaeeldgimdiaaGreatDoor.X
end
section
namespace Go.Proofs.YtihaeeldgimdiaaGreatDoor.X
open Go.RowKit Go.Lib Go.Shelf Go.Yw.PrintWords Go.Yw.PrintLast Go.Yw.PrintMore
theorem get!_at (s : Y) (k : Nat) (h : k < s.size) : s.get! k = s[k]'h := by
 cases s with
 | mk d => exact getElem!_pos d k h
theorem get!_data (s : Y) (k : Nat) (h : k < s.size) : s.data.toList[k]? = some (s.get! k) := by
 rw [get!_at s k h]; exact Lib.data_getElem? s k h
theorem Yej (s : Y) (i : Nat) (h : i < s.size) (ha : 128 ≤ (s.get! i).toNat) :
  i + (Utf8.decode s i).2 ≤ s.size ∧ ∀ j, j < (Utf8.decode s i).2 → 128 ≤ (s.get! (i + j)).toNat := by
 have hn : ¬ (s.get! (i + 0)).toNat < 128 := by simpa using ha
 have one : i + 1 ≤ s.size ∧ ∀ j, j < 1 → 128 ≤ (s.get! (i + j)).toNat := ⟨Zj, fun j hj => by
  obtain rfl : j = 0 := by omega
  simpa using ha⟩
 simp only [Utf8.decode, hn, if_false]
 by_cases c2 : ((s.get! (i + 0)).toNat / 32 == 6 && (decide (i + 1 < s.size) && (s.get! (i + 1)).toNat / 64 == 2)) = true
 ·rw [if_pos c2]
  simp only [Bool.and_eq_true, beq_iff_eq, decide_eq_true_eq] at c2
  split
  ·refine ⟨by show i + 2 ≤ _; omega, fun j hj => ?_⟩
   have : j < 2 := hj
   rcases (show j = 0 ∨ j = 1 by omega) with rfl | rfl
   ·simpa using ha
   ·omega
  ·exact one
 ·rw [if_neg c2]
  by_cases c3 : ((s.get! (i + 0)).toNat / 16 == 14 && (decide (i + 1 < s.size) && (s.get! (i + 1)).toNat / 64 == 2) && (decide (i + 2 < s.size) && (s.get! (i + 2)).toNat / 64 == 2)) = true
  ·rw [if_pos c3]
   simp only [Bool.and_eq_true, beq_iff_eq, decide_eq_true_eq] at c3
   split
   ·refine ⟨by show i + 3 ≤ _; omega, fun j hj => ?_⟩
    have : j < 3 := hj
    rcases (show j = 0 ∨ j = 1 ∨ j = 2 by omega) with rfl | rfl | rfl
    ·simpa using ha
    ·omega
    ·omega
   ·exact one
  ·rw [if_neg c3]
   by_cases c4 : ((s.get! (i + 0)).toNat / 8 == 30 && (decide (i + 1 < s.size) && (s.get! (i + 1)).toNat / 64 == 2) && (decide (i + 2 < s.size) && (s.get! (i + 2)).toNat / 64 == 2) && (decide (i + 3 < s.size) && (s.get! (i + 3)).toNat / 64 == 2)) = true
   ·rw [if_pos c4]
    simp only [Bool.and_eq_true, beq_iff_eq, decide_eq_true_eq] at c4
    split
    ·refine ⟨by show i + 4 ≤ _; omega, fun j hj => ?_⟩
     have : j < 4 := hj
     rcases (show j = 0 ∨ j = 1 ∨ j = 2 ∨ j = 3 by omega) with rfl | rfl | rfl | rfl
     ·simpa using ha
     ·omega
     ·omega
     ·omega
    ·exact one
   ·rw [if_neg c4]; exact one
def Ysg (l : List UInt8) : Bool := l.all fun b => decide (b.toNat < 128)
theorem Yng {l : List UInt8} (h : Ysg l = true) {j : Nat} {b : UInt8} (hb : l[j]? = some b) : b.toNat < 128 := ascii_of_all h j b hb
def NotIn (chars : List UInt8) (c j : Nat) : Prop := ∀ (i : Nat) b, i < j → chars[i]? = some b → b.toNat ≠ c
theorem Yao {s chars : Y} {i : Nat} (ha : Ysg chars.data.toList = true) (hi : i < s.size) (hno : Lib.NoAny s.data.toList chars.data.toList i)
  (hn : NotIn chars.data.toList (Utf8.decode s i).1 chars.size) : Lib.NoAny s.data.toList chars.data.toList (i + (Utf8.decode s i).2) := by
 intro j b hj hb
 by_cases hji : j < i
 ·exact hno j b hji hb
 obtain ⟨d, rfl⟩ : ∃ d, j = i + d := ⟨j - i, Zj⟩
 have hjs : i + d < s.size := by
  rcases Nat.lt_or_ge (i + d) s.size with h' | h'
  ·exact h'
  ·rw [List.getElem?_eq_none (by rw [← Lib.size_eq]; exact h')] at hb; cases hb
 have hbg : b = s.get! (i + d) := by rw [get!_data s _ hjs] at hb; exact (Kr hb).symm
 by_cases zD : 128 ≤ (s.get! i).toNat
 ·have := (Yej s i hi zD).2 d Zj
  cases hc : chars.data.toList.contains b with
  | false => rfl
  | true =>
   obtain ⟨q, hq⟩ := List.mem_iff_getElem?.1 (List.contains_iff_mem.1 hc)
   have := Yng ha hq
   rw [hbg] at this
   omega
 ·have hlt : (s[i]'hi).toNat < 128 := by rw [← get!_at s i hi]; omega
  rw [decode_ascii s i hi hlt] at hj hn
  have hd0 : d = 0 := by have : i + d < i + 1 := hj; omega
  subst hd0
  cases hc : chars.data.toList.contains b with
  | false => rfl
  | true =>
   obtain ⟨q, hq⟩ := List.mem_iff_getElem?.1 (List.contains_iff_mem.1 hc)
   have hqs : q < chars.size := by
    rcases Nat.lt_or_ge q chars.size with h' | h'
    ·exact h'
    ·rw [List.getElem?_eq_none (by rw [← Lib.size_eq]; exact h')] at hq; cases hq
   exact absurd (by rw [hbg]; simp [get!_at s i hi]) (hn q b hqs hq)
theorem hit_at {s chars : Y} {i j : Nat} {b : UInt8} (ha : Ysg chars.data.toList = true) (hi : i < s.size) (hj : chars.data.toList[j]? = some b) (he : (Utf8.decode s i).1 = b.toNat) :
  s.data.toList[i]? = some b ∧ chars.data.toList.contains b = true := by
 have hb := Yng ha hj
 have hlt : (s[i]'hi).toNat < 128 := by
  rcases Nat.lt_or_ge (s[i]'hi).toNat 128 with h' | h'
  ·exact h'
  ·have := (decode_high s i hi h').1; omega
 rw [decode_ascii s i hi hlt] at he
 refine ⟨?_, List.contains_iff_mem.2 (List.mem_iff_getElem?.2 ⟨j, hj⟩)⟩
 rw [Lib.data_getElem? s i hi]
 congr 1
 exact UInt8.toNat_inj.1 he
set_option maxHeartbeats 4000000 in
set_option maxRecDepth 100000 in
theorem url_anyAt.walk (s chars : Y) (w : World) (ha0 : Ysg chars.data.toList = true) :
  Calls Tryz.prog 103 #[.string s, .string chars] w fun e w' => e = .returned (.int .i64 (Lib.indexAny s.data.toList chars.data.toList)) ∧ Below w.heap.size w w' := by
 have HA := Ya.mk ha0
 clear ha0
 go_enter Tryz.func103, Tryz.ntmps103
 go_wp2
 go_loopg [5, 6, 8] s.size (fun g _ _ _ wx => ∃ i : Nat, i + g ≤ s.size ∧ s.size ≤ i + g ∧ wx.heap[w.heap.size]? = some (.stringIter s i) ∧ Ya (Below w.heap.size w wx) ∧ Ya (Lib.NoAny s.data.toList chars.data.toList i))
 case atStart => exact ⟨0, Zj, Zj, World.iter_heap w s 0, ⟨(Below.refl _ _).alloc (Ks _) _⟩, ⟨Lib.NoAny.zero _ _⟩⟩
 case round =>
  obtain ⟨i, hig, aHY, hit, HB, HN⟩ := hrel
  cases gk with
  | zero =>
   obtain rfl : i = s.size := by omega
   have hnx := fun ty => Lib.run_next_end_at (P := Tryz.prog) wr w.heap.size s s.size ty hit (Nat.lt_irrefl _)
   go_wp2
   go_ret
   exact ⟨by rw [Lib.indexAny_none (by rw [← Lib.size_eq]; exact HN.out)]; rfl, HB.out⟩
  | succ g =>
   have hi : i < s.size := by omega
   have hnx := fun ty => Lib.run_next_any_at (P := Tryz.prog) wr w.heap.size s i ty hit hi
   have hd1 := decode_le s i
   have hwd : 1 ≤ (Utf8.decode s i).2 := Lib.decode_width_pos s i hi
   have mA := Lib.iterAt_heap wr w.heap.size s i (i + (Utf8.decode s i).2) hit
   have fJ := Ya.mk (Lib.below_iterAt HB.out (k := w.heap.size) (Ks _) s (i + (Utf8.decode s i).2))
   obtain ⟨W1, hW1⟩ : ∃ W1, W1 = wr.iterAt w.heap.size s (i + (Utf8.decode s i).2) := ⟨_, rfl⟩
   rw [← hW1] at hnx mA fJ
   have HS := Ya.mk (Yao HA.out hi HN.out)
   have HH := Ya.mk (fun (j : Nat) (b : UInt8) => hit_at (j := j) (b := b) HA.out hi)
   have hle : Ya (i + (Utf8.decode s i).2 ≤ s.size) := ⟨by
    rcases Nat.lt_or_ge (s.get! i).toNat 128 with h' | h'
    ·rw [decode_ascii s i hi (by rw [← get!_at s i hi]; exact h')]; exact hi
    ·exact (Yej s i hi h').1⟩
   obtain ⟨c, hc⟩ : ∃ c, c = (Utf8.decode s i).1 := ⟨_, rfl⟩
   obtain ⟨n, hn⟩ : ∃ n, n = (Utf8.decode s i).2 := ⟨_, rfl⟩
   rw [← hc] at hnx HS HH hd1
   rw [← hn] at mA HS hle hwd
   clear hW1 hit HB hc hn
   have HLt := Ya.mk (show w.heap.size < W1.heap.size from (Array.getElem?_eq_some_iff.1 mA).1)
   have HI2 := Ya.mk mA
   clear mA
   obtain ⟨wo, rfl⟩ : ∃ wo : World, wo = wr := ⟨_, rfl⟩
   go_wp2
   go_loopg [8] chars.size (fun g2 _ wy => ∃ j : Nat, j + g2 ≤ chars.size ∧ chars.size ≤ j + g2 ∧ wy.heap[W1.heap.size]? = some (.stringIter chars j) ∧ Ya (Below W1.heap.size W1 wy) ∧ Ya (NotIn chars.data.toList c j))
   case atStart => exact ⟨0, Zj, Zj, World.iter_heap W1 chars 0, ⟨(Below.refl _ _).alloc (Ks _) _⟩, ⟨fun _ _ h => absurd h (Nat.not_lt_zero _)⟩⟩
   case round =>
    obtain ⟨j, hjg, aZM, hjt, cZ, HN3⟩ := hrel
    cases gk with
    | zero =>
     obtain rfl : j = chars.size := by omega
     have hny := fun ty => Lib.run_next_end_at (P := Tryz.prog) wr W1.heap.size chars chars.size ty hjt (Nat.lt_irrefl _)
     go_wp2
     go_roundg (s.size - (i + n))
     case measure => omega
     case rel =>
      exact ⟨i + n, by have := hle.out; omega, Zj, by rw [cZ.out.block _ HLt.out]; exact HI2.out, ⟨fJ.out.trans (cZ.out.mono (Nat.le_of_lt HLt.out))⟩, ⟨HS.out HN3.out⟩⟩
    | succ g2 =>
     have hj : j < chars.size := by omega
     have hx := get!_data chars j hj
     have nK := Yng HA.out hx
     have hny := fun ty => Lib.run_next_ascii_at (P := Tryz.prog) wr W1.heap.size chars j ty hjt hj (by rw [← get!_at chars j hj]; exact nK)
     rw [← get!_at chars j hj] at hny
     have hlt := (chars.get! j).toNat_lt
     have aEV := Lib.iterAt_heap wr W1.heap.size chars j (j + 1) hjt
     have cU := Ya.mk (Lib.below_iterAt cZ.out (k := W1.heap.size) (Ks _) chars (j + 1))
     obtain ⟨W2, hW2⟩ : ∃ W2, W2 = wr.iterAt W1.heap.size chars (j + 1) := ⟨_, rfl⟩
     rw [← hW2] at hny aEV cU
     have HX := Ya.mk hx
     obtain ⟨b, hb⟩ : ∃ b, b = chars.get! j := ⟨_, rfl⟩
     rw [← hb] at hny HX nK hlt
     have tW := Ya.mk aEV
     clear aEV hx hb hW2 hjt cZ
     by_cases he : c = b.toNat
     ·have he1 : ((c : Int) == (b.toNat : Int)) = true := by rw [he]; simp
      have tX := Ya.mk he
      clear he
      go_wp2
      go_ret
      obtain ⟨h1, h2⟩ := HH.out j b HX.out tX.out
      exact ⟨by rw [Lib.indexAny_hit HN.out h1 h2]; rfl, fJ.out.trans (cU.out.mono (Nat.le_of_lt HLt.out))⟩
     ·have he1 : ((c : Int) == (b.toNat : Int)) = false := beq_eq_false_iff_ne.2 Zj
      have tX := Ya.mk he
      clear he
      go_wp2
      go_roundg g2
      case measure => omega
      case rel =>
       refine ⟨j + 1, Zj, Zj, tW.out, cU, ⟨fun i2 b2 h1 h2 => ?_⟩⟩
       by_cases e : i2 = j
       ·subst e; rw [HX.out] at h2; cases h2; exact fun h => tX.out h.symm
       ·exact HN3.out i2 b2 Zj h2
end Go.Proofs.YtihaeeldgimdiaaGreatDoor.X
end
