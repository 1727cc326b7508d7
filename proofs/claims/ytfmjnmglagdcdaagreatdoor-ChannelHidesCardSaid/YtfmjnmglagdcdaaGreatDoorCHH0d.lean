/- strings.IndexAny where what is sought is ASCII: whatever the text is. -/
import Derived.Test.YtfmjnmglagdcdaaGreatDoorCHWords
import Derived.Test.YtfmjnmglagdcdaaGreatDoorCHH0b
import Derived.Deep.QuietTactic
import Derived.BigQuiet
import Derived.Shelf.Strings.IndexAnyAll
import Derived.Outline
import Derived.WalkMore
import Derived.IntWalk
import Derived.Lib.QuoteLoop
namespace Go.Proofs.YtfmjnmglagdcdaaGreatDoor.X
open Go.RowKit Go.Lib Go.Shelf Go.Yw.PrintWords Go.Yw.PrintLast Go.Yw.PrintMore
set_option linter.unusedVariables false
set_option linter.unusedSimpArgs false
theorem Ydo {P : Program} {f : FuncId} {args : Array Value} {w : World} {a n : Nat} {v : Value}
  (h : Calls P f args (w.drewN (a + n)) fun e w' => e = .returned v ∧ w' = w.drewN (a + n)) :
  Calls P f args (w.drewN (a + n)) fun e w2 => e = .returned v ∧ ∃ m, w2 = w.drewN (a + m) :=
 h.mono fun _ _ ⟨he, hm⟩ => ⟨he, n, hm⟩
theorem indexByte_none {l : List UInt8} {b : UInt8} (h : ∀ x ∈ l, x ≠ b) : Lib.indexByte l b = -1 := by
 induction l with
 | nil => rfl
 | cons x l ih =>
  unfold Lib.indexByte
  rw [if_neg (by simpa using h x Zy), ih (fun y hy => h y (by simp [hy]))]
  rfl
theorem Lib.decode_valid (s : ByteArray) (i : Nat) : (Utf8.decode s i).1 ≤ 1114111 ∧ ¬ (55296 ≤ (Utf8.decode s i).1 ∧ (Utf8.decode s i).1 ≤ 57343) := by
 have h := Lib.decodeN_valid (s.size - i) (s.get! i).toNat (s.get! (i + 1)).toNat (s.get! (i + 2)).toNat (s.get! (i + 3)).toNat (s.get! i).toNat_lt
 rw [← Lib.decode_at] at h
 omega
theorem Ycn (r : Nat) (h : 128 ≤ r) (hv : r ≤ 1114111) (hs : ¬ (55296 ≤ r ∧ r ≤ 57343)) : 2 ≤ (Utf8.encode (r : Int)).size ∧ (Utf8.encode (r : Int)).size ≤ 4 ∧ 128 ≤ ((Utf8.encode (r : Int)).get! ((Utf8.encode (r : Int)).size - 1)).toNat := by
 have hva : Utf8.valid (r : Int) = true := by
  unfold Utf8.valid
  simp only [Bool.or_eq_true, Bool.and_eq_true, decide_eq_true_eq]
  omega
 have hlo : ∀ k : Nat, 128 ≤ (UInt8.ofNat (128 + k % 64)).toNat := fun k => by
  rw [UInt8.toNat_ofNat']; omega
 unfold Utf8.encode
 rw [hva]
 simp only [if_true, Int.toNat_natCast]
 rw [if_neg Zk]
 by_cases h2 : r < 2048
 ·rw [if_pos h2]; exact ⟨Nat.le_refl 2, (show 2 ≤ 4 by decide), hlo r⟩
 ·rw [if_neg h2]
  by_cases h3 : r < 65536
  ·rw [if_pos h3]; exact ⟨(show 2 ≤ 3 by decide), (show 3 ≤ 4 by decide), hlo r⟩
  ·rw [if_neg h3]; exact ⟨(show 2 ≤ 4 by decide), Nat.le_refl 4, hlo r⟩
set_option maxHeartbeats 4000000 in
set_option maxRecDepth 100000 in
theorem Ywj (s : ByteArray) (r : Nat) (w : World) (ha : Yee s.data.toList = true) (hs : s.size ≤ 4294967281) (h1 : 128 ≤ r) (h2 : r ≤ 1114111) (h3 : ¬ (55296 ≤ r ∧ r ≤ 57343)) :
  Calls Tryz.prog 94 #[.string s, .int .i32 (r : Int)] w fun e w' => e = .returned (.int .i64 (-1)) ∧ Below w.heap.size w w' := by
 have HA := Ya.mk ha
 clear ha
 have hle : decide ((0 : Int) ≤ (r : Int)) = true := by simp
 have hlt : decide ((r : Int) < 128) = false := by simp; omega
 by_cases he : r = 65533
 ·have hq : ((r : Int) == 65533) = true := by rw [he]; rfl
  have HE := Ya.mk he
  clear he h3
  go_enter Tryz.func94, Tryz.ntmps94
  go_wp2
  go_loopg [5, 6] s.size (fun g _ _ wx => ∃ i : Nat, i + g ≤ s.size ∧ s.size ≤ i + g ∧ wx.heap[w.heap.size]? = some (.stringIter s i) ∧ Ya (Below w.heap.size w wx))
  case atStart => exact ⟨0, Zk, Zk, World.iter_heap w s 0, ⟨(Below.refl _ _).alloc (Nat.le_refl _) _⟩⟩
  case round =>
   obtain ⟨i, hig, hig2, hit, HB⟩ := hrel
   cases gk with
   | zero =>
    obtain rfl : i = s.size := by omega
    have hnx := fun ty => Lib.run_next_end_at (P := Tryz.prog) wr w.heap.size s s.size ty hit (Nat.lt_irrefl _)
    go_wp2
    go_ret
    exact ⟨rfl, HB.out⟩
   | succ g =>
    have hi : i < s.size := by omega
    have hx := get!_data s i hi
    have hx128 := Ytd HA.out hx
    have hnx := fun ty => Lib.run_next_ascii_at (P := Tryz.prog) wr w.heap.size s i ty hit hi (by rw [← get!_at s i hi]; exact hx128)
    rw [← get!_at s i hi] at hnx
    have hit2 := Lib.iterAt_heap wr w.heap.size s i (i + 1) hit
    have HB2 := Ya.mk (Lib.below_iterAt HB.out (k := w.heap.size) (Nat.le_refl _) s (i + 1))
    obtain ⟨W1, hW1⟩ : ∃ W1, W1 = wr.iterAt w.heap.size s (i + 1) := ⟨_, rfl⟩
    rw [← hW1] at hnx hit2 HB2
    obtain ⟨b, hb⟩ : ∃ b, b = s.get! i := ⟨_, rfl⟩
    rw [← hb] at hnx hx128
    clear hx hb hW1 hit HB
    have hne : ((b.toNat : Int) == 65533) = false := beq_eq_false_iff_ne.2 Zk
    go_wp2
    go_roundg g
    case measure => omega
    case rel => exact ⟨i + 1, Zk, Zk, hit2, HB2⟩
 ·have hq : ((r : Int) == 65533) = false := beq_eq_false_iff_ne.2 Zk
  obtain ⟨z1, z2, z3⟩ := Ycn r h1 h2 h3
  obtain ⟨rs, hrs⟩ : ∃ rs, rs = Utf8.encode (r : Int) := ⟨_, rfl⟩
  have hcv : ∀ W, (convert 21 9 (.int .i32 (r : Int))).run Tryz.prog W = .ok (.string rs) W := by
   intro W; rw [hrs]; rfl
  rw [← hrs] at z1 z2 z3
  have HV := Ya.mk h3
  clear hrs he h3
  go_enter Tryz.func94, Tryz.ntmps94
  go_wp2_with fail
  refine (Tryz.utf8_ValidRune _ _).mono ?_
  rintro e w' ⟨rfl, hw⟩
  rw [hw]
  clear hw
  have hvr : Lib.validRune (r : Int) = true := by
   have := HV.out
   unfold Lib.validRune
   simp only [decide_eq_true_eq]
   omega
  rw [hvr]
  clear hvr
  obtain ⟨n, hn⟩ : ∃ n, rs.size = n + 1 := ⟨rs.size - 1, Zk⟩
  have hz : (rs.size : Int) - 1 = (n : Int) := by omega
  have hz2 : (rs.size : Int) = (n : Int) + 1 := by omega
  have HZ := Ya.mk hz
  have hnl : n < rs.size := by omega
  have hb : (rs[n]'hnl).toNat = (rs.get! (rs.size - 1)).toNat := by rw [show rs.size - 1 = n by omega, get!_at rs n Zk]
  rw [← hb] at z3
  have HN := Ya.mk hn
  clear hz hz2 hn hb
  go_wp2
  go_step3
  go_wp2
  simp only [HZ.out]
  refine wp_loop_rounds 1 ?_
  rw [rounds_succ]
  by_cases hlast : n < s.size
  ·have hl1 : decide ((n : Int) < (s.size : Int)) = true := decide_eq_true Zk
   have hxs := get!_data s n hlast
   have hx128 := Ytd HA.out hxs
   rw [get!_at s n hlast] at hx128
   clear hxs
   have hne1 : (((s[n]'hlast).toNat : Int) != ((rs[n]'hnl).toNat : Int)) = true := bne_iff_ne.2 Zk
   have hne2 : (((s[n]'hlast).toNat : Int) == ((rs[n]'hnl).toNat : Int)) = false := beq_eq_false_iff_ne.2 Zk
   have k1 : (0 : Int) ≤ (n : Int) := by omega
   have k2 : (n : Int) < (s.size : Int) := by omega
   have k3 : (n : Int) < (rs.size : Int) := by omega
   have k4 : (n : Int) + 1 ≤ (s.size : Int) := by omega
   have k5 : IntKind.i64.wrap ((n : Int) + 1) = (n : Int) + 1 := Go.IntWalk.i64_in _ Zk
   go_wp2
   go_step3
   go_wp2
   go_quiet (fail)
   go_wp2
   have hix : Lib.indexByte (s.extract (n + 1) s.size).data.toList ((((rs[n]'hnl).toNat : Int)).toNat.toUInt8) = -1 := by
    refine indexByte_none fun x hx he => ?_
    have hm : x ∈ s.data.toList := by
     rw [ByteArray.data_extract, Array.toList_extract] at hx
     exact List.mem_of_mem_drop (List.mem_of_mem_take hx)
    obtain ⟨q, hq⟩ := List.mem_iff_getElem?.1 hm
    have := Ytd HA.out hq
    rw [he] at this
    simp at this
    omega
   have hcall : ∀ W, Calls Tryz.prog 73 #[.string (s.extract (n + 1) s.size), .int .u8 ((rs[n]'hnl).toNat : Int)] W fun e w' => e = .returned (.int .i64 (-1)) ∧ w' = W :=
    fun W => (Tryz.strings_IndexByte _ _ _).mono fun e w' ⟨g1, g2⟩ => ⟨by rw [g1, hix], g2⟩
   have HC := Ya.mk hcall
   clear hcall hix
   have k6 : (0 : Int) ≤ (n : Int) + 1 := by omega
   have k7 : ((n : Int) + 1).toNat = n + 1 := by omega
   go_quiet ((go_at_call 73; exact Ydo (HC.out _)))
   go_wp2
   rw [Exit.noGoto_ret]
   go_wp2
   rw [Exit.noGoto_ret]
   go_ret
   exact ⟨rfl, Yb (Below.refl _ _) _⟩
  ·have hl1 : decide ((n : Int) < (s.size : Int)) = false := decide_eq_false Zk
   go_wp2
   rw [Exit.noGoto_ret]
   go_ret
   exact ⟨rfl, Below.refl _ _⟩
set_option maxHeartbeats 4000000 in
set_option maxRecDepth 100000 in
theorem Ysk (s chars : ByteArray) (w : World) (ha0 : Yee chars.data.toList = true) (h2 : 2 ≤ chars.size) (hcs : chars.size ≤ 4294967281) (h8 : s.size ≤ 8) :
  Calls Tryz.prog 75 #[.string s, .string chars] w fun e w' => e = .returned (.int .i64 (Lib.indexAny s.data.toList chars.data.toList)) ∧ Below w.heap.size w w' := by
 have HA := Ya.mk ha0
 clear ha0
 have hemp : chars.toList.isEmpty = false := by
  rw [Lib.toList_data]
  cases h : chars.data.toList with
  | nil => have := Lib.size_eq chars; rw [h, List.length_nil] at this; omega
  | cons _ _ => rfl
 have hn1 : ((chars.size : Int) == 1) = false := beq_eq_false_iff_ne.2 Zk
 have h8z : decide ((8 : Int) < (s.size : Int)) = false := decide_eq_false Zk
 go_enter Tryz.func75, Tryz.ntmps75
 go_wp2_with (go_at_call 95; refine (Tryz.strings_shouldUseASCIISet _ _).mono ?_; rintro e w' ⟨rfl, hw⟩; rw [hw, h8z])
 go_loopg [9, 10] s.size (fun g _ _ wx => ∃ i : Nat, i + g ≤ s.size ∧ s.size ≤ i + g ∧ wx.heap[w.heap.size]? = some (.stringIter s i) ∧ Ya (Below w.heap.size w wx) ∧ Ya (Lib.NoAny s.data.toList chars.data.toList i))
 case atStart => exact ⟨0, Zk, Zk, World.iter_heap w s 0, ⟨(Below.refl _ _).alloc (Nat.le_refl _) _⟩, ⟨Lib.NoAny.zero _ _⟩⟩
 case round =>
  obtain ⟨i, hig, hig2, hit, HB, HN⟩ := hrel
  cases gk with
  | zero =>
   obtain rfl : i = s.size := by omega
   have hnx := fun ty => Lib.run_next_end_at (P := Tryz.prog) wr w.heap.size s s.size ty hit (Nat.lt_irrefl _)
   go_wp2
   go_ret
   exact ⟨by rw [Lib.indexAny_none (by rw [← Lib.size_eq]; exact HN.out)]; rfl, HB.out⟩
  | succ g =>
   have hi : i < s.size := by omega
   have hnx := fun ty => Lib.run_next_any_at (P := Tryz.prog) wr w.heap.size s i ty hit hi
   have hwd : 1 ≤ (Utf8.decode s i).2 := Lib.decode_width_pos s i hi
   have hit2 := Lib.iterAt_heap wr w.heap.size s i (i + (Utf8.decode s i).2) hit
   have HB2 := Ya.mk (Lib.below_iterAt HB.out (k := w.heap.size) (Nat.le_refl _) s (i + (Utf8.decode s i).2))
   obtain ⟨W1, hW1⟩ : ∃ W1, W1 = wr.iterAt w.heap.size s (i + (Utf8.decode s i).2) := ⟨_, rfl⟩
   rw [← hW1] at hnx hit2 HB2
   have hle : i + (Utf8.decode s i).2 ≤ s.size := by
    rcases Nat.lt_or_ge (s.get! i).toNat 128 with h' | h'
    ·rw [decode_ascii s i hi (by rw [← get!_at s i hi]; exact h')]; exact hi
    ·exact (Ylf s i hi h').1
   have HS := Ya.mk (Yrj HA.out hi HN.out)
   have HLt := Ya.mk (show w.heap.size < W1.heap.size from (Array.getElem?_eq_some_iff.1 hit2).1)
   have HI2 := Ya.mk hit2
   clear hit2 hW1 hit HB
   rcases Nat.lt_or_ge (s.get! i).toNat 128 with h128 | h128
   ·-- a byte of ASCII
    have hdec := decode_ascii s i hi (by rw [← get!_at s i hi]; exact h128)
    rw [hdec] at HI2 HS hnx
    have hx := get!_data s i hi
    rw [← get!_at s i hi] at hnx HS
    obtain ⟨x, hxe⟩ : ∃ x, x = s.get! i := ⟨_, rfl⟩
    rw [← hxe] at hnx HS h128 hx
    have HX := Ya.mk hx
    clear hx hxe hdec hwd hle
    have hcon := Lib.contains_iff_indexByte chars.data.toList x
    have hback : ((x.toNat : Int)).toNat.toUInt8 = x := by simp
    have HBk := Ya.mk hback
    clear hback
    cases hin : chars.data.toList.contains x
    ·rw [hin] at hcon
     have hlt : ¬ ((0 : Int) ≤ Lib.indexByte chars.data.toList x) := of_decide_eq_false hcon.symm
     have HIn := Ya.mk hin
     clear hcon hin
     go_wp2_with (go_at_call 94; refine (Any.strings_IndexRune_ascii Tryz.lays152 _ _ _ Zk Zk).mono ?_; rintro e w' ⟨rfl, hw⟩; rw [hw, HBk.out])
     go_roundg g
     case measure => omega
     case rel => exact ⟨i + 1, Zk, Zk, HI2.out, HB2, ⟨HN.out.succ HX.out HIn.out⟩⟩
    ·rw [hin] at hcon
     have hge : (0 : Int) ≤ Lib.indexByte chars.data.toList x := of_decide_eq_true hcon.symm
     have HIn := Ya.mk hin
     clear hcon hin
     go_wp2_with (go_at_call 94; refine (Any.strings_IndexRune_ascii Tryz.lays152 _ _ _ Zk Zk).mono ?_; rintro e w' ⟨rfl, hw⟩; rw [hw, HBk.out])
     go_ret
     exact ⟨by rw [Lib.indexAny_hit HN.out HX.out HIn.out]; rfl, HB2.out⟩
   ·-- a rune beyond ASCII: it is none of those sought
    have hr1 := (decode_high s i hi (by rw [← get!_at s i hi]; exact h128)).1
    have hrv := Lib.decode_valid s i
    have HN2 := Ya.mk (HS.out (fun j b hj hb => by have := Ytd HA.out hb; omega))
    clear HS
    obtain ⟨c, hc⟩ : ∃ c, c = (Utf8.decode s i).1 := ⟨_, rfl⟩
    obtain ⟨n, hn⟩ : ∃ n, n = (Utf8.decode s i).2 := ⟨_, rfl⟩
    rw [← hc] at hnx hr1 hrv
    rw [← hn] at HI2 HN2 hle hwd
    clear hc hn
    go_wp2_with (go_at_call 94; refine (Ywj chars c _ HA.out hcs hr1 Zk Zk).mono ?_)
    rintro e w2 ⟨rfl, hb2⟩
    have HB3 := Ya.mk hb2
    clear hb2
    go_wp2
    go_roundg (s.size - (i + n))
    case measure => omega
    case rel => exact ⟨i + n, Zk, Zk, by rw [HB3.out.block _ HLt.out]; exact HI2.out, ⟨HB2.out.trans (HB3.out.mono (Nat.le_of_lt HLt.out))⟩, HN2⟩
def strings_IndexAny.f (a0 a1 : ByteArray) : Option Int :=
 if Yee a1.data.toList = true ∧ 2 ≤ a1.size ∧ a1.size < 4294967281 ∧ a0.size < 4294967281 then some (Lib.indexAny a0.data.toList a1.data.toList) else none
theorem strings_IndexAny.calls (a0 a1 : ByteArray) (r : Int) (w : World) (hE : EnvOk w) (h : strings_IndexAny.f a0 a1 = some r) :
  Calls Tryz.prog 75 #[.string a0, .string a1] w fun e w' => e = .returned (.int .i64 r) ∧ Below w.heap.size w w' := by
 unfold strings_IndexAny.f at h
 by_cases hs : Yee a1.data.toList = true ∧ 2 ≤ a1.size ∧ a1.size < 4294967281 ∧ a0.size < 4294967281
 ·rw [if_pos hs] at h
  obtain rfl := Option.some.inj h
  obtain ⟨ha, h2, hc, h0⟩ := hs
  by_cases h8 : a0.size ≤ 8
  ·exact Ysk a0 a1 w ha h2 Zk h8
  ·have h116 : (Tryz.prog.info? 130).map (fun i => (i.zero, i.size)) = some (some (.agg (Array.replicate 256 (.bool false))), 256) := by kernel_rfl
   refine (Tryz.strings_IndexAny_long (zero_of_info h116).1 a0 a1 w h2 Zk h0 hc (ascii_of_all ha)).mono fun e w' ⟨g1, g2⟩ => ⟨g1, ?_⟩
   rw [g2]
   exact Ye (Ye (Below.refl _ _) _) _
 ·rw [if_neg hs] at h; cases h
end Go.Proofs.YtfmjnmglagdcdaaGreatDoor.X
