import Derived.Test.YtihaeeldgimdiaaGreatDoorIUH0a
import Derived.Lib.QuoteLoop
set_option linter.all false
section
namespace Go.Proofs.YtihaeeldgimdiaaGreatDoor.X
open Go.RowKit Go.Lib Go.Shelf Go.Yw.PrintWords Go.Yw.PrintLast Go.Yw.PrintMore
theorem Ye {W : World} {g : Nat} {cs : Array Value} {t : TypeId} (h : W.heap[g]? = some (.cells cs t (0, 0))) (j : Nat) : W.frozen? ⟨g, j, none⟩ = false := by
 unfold World.frozen?; rw [h]; simp
theorem KeepBut.below' {w w1 w2 : World} {g : Nat} (h : KeepBut w w1 g none) (k : Below w1.heap.size w1 w2) : KeepBut w w2 g none := h.trans (KeepBut.of_below k g none) (.inl rfl)
def Ymg (s chars : Y) : Nat := if Lib.indexAny s.data.toList chars.data.toList < 0 then s.size else (Lib.indexAny s.data.toList chars.data.toList).toNat
theorem Ypm (s chars : List UInt8) : Lib.indexAny s chars < s.length ∨ Lib.indexAny s chars = -1 := by
 induction s with
 | nil => right; rfl
 | cons b l ih =>
  unfold Lib.indexAny
  by_cases h : chars.contains b = true
  ·rw [if_pos h]; left; simp
  ·rw [if_neg h]
   by_cases h2 : (Lib.indexAny l chars == -1) = true
   ·rw [if_pos h2]; right; rfl
   ·rw [if_neg h2]; left
    rcases ih with ih | ih
    ·simp only [List.length_cons]; omega
    ·rw [ih] at h2; exact absurd rfl h2
theorem Yrq (s chars : Y) : Ymg s chars ≤ s.size := by
 unfold Ymg
 split
 ·exact Ks _
 ·rcases Ypm s.data.toList chars.data.toList with h | h
  ·rw [← Lib.size_eq] at h; omega
  ·omega
theorem Ymo (s : Y) : s.extract 0 s.size = s := by
 apply ByteArray.ext; simp
theorem Ypr (s : Y) : s.extract s.size s.size = ByteArray.empty := by
 apply ByteArray.ext; simp
theorem Ygn {w0 w w1 : World} {g : Nat} {s0 s1 s2 : Y} {s3 : Int} {s4 s5 s6 : Y} {s7 s8 : Bool} (hB : Below w0.heap.size w0 w) (hb : Below w.heap.size w w1) (hI : IsS75 w0 w1 g s0 s1 s2 s3 s4 s5 s6 s7 s8) (x : Y) :
  IsS75 w0 (w1.setCell ⟨g, 0, none⟩ (.string x)) g x s1 s2 s3 s4 s5 s6 s7 s8 ∧ Below w0.heap.size w0 (w1.setCell ⟨g, 0, none⟩ (.string x)) ∧ KeepBut w (w1.setCell ⟨g, 0, none⟩ (.string x)) g none :=
 ⟨hI.set_0 x, Yg (hB.trans (hb.mono hB.size)) hI.ge, (KeepBut.of_below hb g none).set_ 0 _⟩
def Yrb.f (s0 s1 s2 : Y) (s3 : Int) (s4 s5 s6 : Y) (s7 s8 : Bool) (a1 : Y) : Option (Y × Y × Y × Y × Int × Y × Y × Y × Bool × Bool) :=
 if Ysg a1.data.toList = true ∧ s0.size ≤ 140737488355328 then some (s0.extract 0 (Ymg s0 a1), s0.extract (Ymg s0 a1) s0.size, s1, s2, s3, s4, s5, s6, s7, s8) else none
set_option maxHeartbeats 4000000 in
set_option maxRecDepth 100000 in
theorem Yrb.calls (g : Nat) (s0 s1 s2 : Y) (s3 : Int) (s4 s5 s6 : Y) (s7 s8 : Bool) (a1 r1 r2 r3 r4 : Y) (r5 : Int) (r6 r7 r8 : Y) (r9 lX : Bool) (w0 w : World) (hE : EnvOk w0) (hI : IsS75 w0 w g s0 s1 s2 s3 s4 s5 s6 s7 s8) (hB : Below w0.heap.size w0 w) (h : Yrb.f s0 s1 s2 s3 s4 s5 s6 s7 s8 a1 = some (r1, r2, r3, r4, r5, r6, r7, r8, r9, lX)) :
  Calls Tryz.prog 73 #[.pointer (some ⟨g, 0, none⟩), .string a1] w fun e w' => e = .returned (.string r1) ∧ IsS75 w0 w' g r2 r3 r4 r5 r6 r7 r8 r9 lX ∧ Below w0.heap.size w0 w' ∧ KeepBut w w' g none := by
 unfold Yrb.f at h
 by_cases hs : Ysg a1.data.toList = true ∧ s0.size ≤ 140737488355328
 ·rw [if_pos hs] at h
  simp only [Kz, Kaa] at h
  obtain ⟨rfl, rfl, rfl, rfl, rfl, rfl, rfl, rfl, rfl, rfl⟩ := h
  obtain ⟨ha, hsz⟩ := hs
  have HA := Ya.mk ha
  clear ha
  have hc := Ysb hI.1
  have hfz := Ye hI.1 0
  have HI := Ya.mk hI
  have hle := Yrq s0 a1
  have HU := Ya.mk (show Ymg s0 a1 = if Lib.indexAny s0.data.toList a1.data.toList < 0 then s0.size else (Lib.indexAny s0.data.toList a1.data.toList).toNat from rfl)
  have hge := Lib.indexAny_ge a1.data.toList s0.data.toList
  have hlt := Ypm s0.data.toList a1.data.toList
  rw [← Lib.size_eq] at hlt
  obtain ⟨n, hn⟩ : ∃ n, n = Ymg s0 a1 := ⟨_, rfl⟩
  obtain ⟨i, hi⟩ : ∃ i, i = Lib.indexAny s0.data.toList a1.data.toList := ⟨_, rfl⟩
  rw [← hn] at HU hle ⊢
  rw [← hi] at HU hge hlt
  have HIx := Ya.mk hi
  have HBg := Ya.mk hB
  clear hi hn hI hB hE
  go_enter Tryz.func73, Tryz.ntmps73
  go_wp2_with (go_at_call 103; refine (url_anyAt.walk s0 a1 _ HA.out).mono ?_)
  rintro e w1 ⟨rfl, hb⟩
  rw [← HIx.out]
  have fL := cell_kept hb hc
  have HI1 := Ya.mk (HI.out.below hb)
  have aZN := Ye HI1.out.1 0
  have HBw := Ya.mk hb
  clear hb hc hfz HI HA
  by_cases hneg : i < 0
  ·have hnb : decide (i < 0) = true := Kn hneg
   have HU2 := Ya.mk (show n = s0.size by have := HU.out; rw [if_pos hneg] at this; exact this)
   clear HU hlt hge
   go_wp2
   go_ret
   obtain rfl := HU2.out
   rw [Ymo, Ypr]
   exact ⟨rfl, Ygn HBg.out HBw.out HI1.out _⟩
  ·have hnb : decide (i < 0) = false := Ko hneg
   have HU2 := Ya.mk (show n = i.toNat by have := HU.out; rw [if_neg hneg] at this; exact this)
   have h0i : 0 ≤ i := by omega
   have hisz : i ≤ (s0.size : Int) := by omega
   clear HU hlt hge
   go_wp2
   go_ret
   obtain rfl := HU2.out
   exact ⟨rfl, Ygn HBg.out HBw.out HI1.out _⟩
 ·rw [if_neg hs] at h; cases h
def Ynd.f (s0 s1 s2 : Y) (s3 : Int) (s4 s5 s6 : Y) (s7 s8 : Bool) (a1 : Int) : Option (Bool × Y × Y × Y × Int × Y × Y × Y × Bool × Bool) :=
 if s0.size ≤ 140737488355328 then (if 0 < s0.size ∧ bt s0 0 = a1 then some (true, s0.extract 1 s0.size, s1, s2, s3, s4, s5, s6, s7, s8) else some (false, s0, s1, s2, s3, s4, s5, s6, s7, s8)) else none
set_option maxHeartbeats 4000000 in
set_option maxRecDepth 100000 in
theorem Ynd.calls (g : Nat) (s0 s1 s2 : Y) (s3 : Int) (s4 s5 s6 : Y) (s7 s8 : Bool) (a1 : Int) (r1 : Bool) (r2 r3 r4 : Y) (r5 : Int) (r6 r7 r8 : Y) (r9 lX : Bool) (w0 w : World) (hE : EnvOk w0) (hI : IsS75 w0 w g s0 s1 s2 s3 s4 s5 s6 s7 s8) (hB : Below w0.heap.size w0 w) (h : Ynd.f s0 s1 s2 s3 s4 s5 s6 s7 s8 a1 = some (r1, r2, r3, r4, r5, r6, r7, r8, r9, lX)) :
  Calls Tryz.prog 78 #[.pointer (some ⟨g, 0, none⟩), .int .u8 a1] w fun e w' => e = .returned (.bool r1) ∧ IsS75 w0 w' g r2 r3 r4 r5 r6 r7 r8 r9 lX ∧ Below w0.heap.size w0 w' ∧ KeepBut w w' g none := by
 unfold Ynd.f at h
 by_cases hsz : s0.size ≤ 140737488355328
 ·rw [if_pos hsz] at h
  have hc := Ysb hI.1
  have hfz := Ye hI.1 0
  have HI := Ya.mk hI
  have HBg := Ya.mk hB
  clear hI hB hE
  by_cases h0 : 0 < s0.size
  ·have hb : bt s0 0 = ((s0[0]'h0).toNat : Int) := by unfold bt; rw [dif_pos (show (0 : Int).toNat < s0.size from h0)]; rfl
   have hne : s0.toList ≠ [] := by
    intro e
    have h2 := congrArg List.length e
    rw [Lib.toList_data, ← Lib.size_eq] at h2
    exact absurd h2 Zna
   have he1 : (s0.toList == []) = false := beq_eq_false_iff_ne.2 hne
   have he2 : s0.toList.isEmpty = false := by cases h' : s0.toList with | nil => exact absurd h' hne | cons _ _ => rfl
   by_cases hq : bt s0 0 = a1
   ·rw [if_pos ⟨h0, hq⟩] at h
    simp only [Kz, Kaa] at h
    obtain ⟨rfl, rfl, rfl, rfl, rfl, rfl, rfl, rfl, rfl, rfl⟩ := h
    rw [hb] at hq
    have hq1 : (((s0[0]'h0).toNat : Int) != a1) = false := bne_eq_false_iff_eq.2 hq
    have cP : (((s0[0]'h0).toNat : Int) == a1) = true := beq_iff_eq.2 hq
    clear hq hb hne
    have h1s : 1 ≤ s0.size := h0
    go_enter Tryz.func78, Tryz.ntmps78
    go_wp2
    go_ret
    exact ⟨rfl, Ygn HBg.out (Below.refl _ _) HI.out _⟩
   ·rw [if_neg (fun hx => hq hx.2)] at h
    simp only [Kz, Kaa] at h
    obtain ⟨rfl, rfl, rfl, rfl, rfl, rfl, rfl, rfl, rfl, rfl⟩ := h
    rw [hb] at hq
    have hq1 : (((s0[0]'h0).toNat : Int) != a1) = true := bne_iff_ne.2 hq
    have cP : (((s0[0]'h0).toNat : Int) == a1) = false := beq_eq_false_iff_ne.2 hq
    clear hq hb hne
    go_enter Tryz.func78, Tryz.ntmps78
    go_wp2
    go_ret
    exact ⟨rfl, HI.out, HBg.out, KeepBut.refl _ _ _⟩
  ·rw [if_neg (fun hx => h0 hx.1)] at h
   simp only [Kz, Kaa] at h
   obtain ⟨rfl, rfl, rfl, rfl, rfl, rfl, rfl, rfl, rfl, rfl⟩ := h
   have hne : s0.toList = [] := by
    apply List.eq_nil_of_length_eq_zero
    rw [Lib.toList_data, ← Lib.size_eq]; omega
   have he1 : (s0.toList == []) = true := beq_iff_eq.2 hne
   have he2 : s0.toList.isEmpty = true := by rw [hne]; rfl
   clear hne
   go_enter Tryz.func78, Tryz.ntmps78
   go_wp2
   go_ret
   exact ⟨rfl, HI.out, HBg.out, KeepBut.refl _ _ _⟩
 ·rw [if_neg hsz] at h; cases h
end Go.Proofs.YtihaeeldgimdiaaGreatDoor.X
end
section
namespace Go.Proofs.YtihaeeldgimdiaaGreatDoor.X
open Go.RowKit Go.Lib Go.Shelf Go.Yw.PrintWords Go.Yw.PrintLast Go.Yw.PrintMore
theorem Ybr {P : Program} {f : FuncId} {args : Array Value} {w : World} {a n : Nat} {v : Value}
  (h : Calls P f args (w.drewN (a + n)) fun e w' => e = .returned v ∧ w' = w.drewN (a + n)) :
  Calls P f args (w.drewN (a + n)) fun e w2 => e = .returned v ∧ ∃ m, w2 = w.drewN (a + m) :=
 h.mono fun _ _ ⟨he, hm⟩ => ⟨he, n, hm⟩
theorem indexByte_none {l : List UInt8} {b : UInt8} (h : ∀ x ∈ l, x ≠ b) : Lib.indexByte l b = -1 := by
 induction l with
 | nil => rfl
 | cons x l ih =>
  unfold Lib.indexByte
  rw [if_neg (by simpa using h x Zq), ih (fun y hy => h y (by simp [hy]))]
  rfl
theorem Lib.decode_valid (s : Y) (i : Nat) : (Utf8.decode s i).1 ≤ 1114111 ∧ ¬ (55296 ≤ (Utf8.decode s i).1 ∧ (Utf8.decode s i).1 ≤ 57343) := by
 have h := Lib.decodeN_valid (s.size - i) (s.get! i).toNat (s.get! (i + 1)).toNat (s.get! (i + 2)).toNat (s.get! (i + 3)).toNat (s.get! i).toNat_lt
 rw [← Lib.decode_at] at h
 omega
theorem Yuq (r : Nat) (h : 128 ≤ r) (hv : r ≤ 1114111) (hs : ¬ (55296 ≤ r ∧ r ≤ 57343)) : 2 ≤ (Utf8.encode (r : Int)).size ∧ (Utf8.encode (r : Int)).size ≤ 4 ∧ 128 ≤ ((Utf8.encode (r : Int)).get! ((Utf8.encode (r : Int)).size - 1)).toNat := by
 have hva : Utf8.valid (r : Int) = true := by
  unfold Utf8.valid
  simp only [Bool.or_eq_true, Bool.and_eq_true, decide_eq_true_eq]
  omega
 have hlo : ∀ k : Nat, 128 ≤ (UInt8.ofNat (128 + k % 64)).toNat := fun k => by
  rw [UInt8.toNat_ofNat']; omega
 unfold Utf8.encode
 rw [hva]
 simp only [if_true, Int.toNat_natCast]
 rw [if_neg Zj]
 by_cases h2 : r < 2048
 ·rw [if_pos h2]; exact ⟨Ks 2, (show 2 ≤ 4 by decide), hlo r⟩
 ·rw [if_neg h2]
  by_cases h3 : r < 65536
  ·rw [if_pos h3]; exact ⟨(show 2 ≤ 3 by decide), (show 3 ≤ 4 by decide), hlo r⟩
  ·rw [if_neg h3]; exact ⟨(show 2 ≤ 4 by decide), Ks 4, hlo r⟩
set_option maxHeartbeats 4000000 in
set_option maxRecDepth 100000 in
theorem Ykn (s : Y) (r : Nat) (w : World) (ha : Ysg s.data.toList = true) (hs : s.size ≤ 4294967281) (h1 : 128 ≤ r) (h2 : r ≤ 1114111) (h3 : ¬ (55296 ≤ r ∧ r ≤ 57343)) :
  Calls Tryz.prog 96 #[.string s, .int .i32 (r : Int)] w fun e w' => e = .returned (.int .i64 (-1)) ∧ Below w.heap.size w w' := by
 have HA := Ya.mk ha
 clear ha
 have hle : decide ((0 : Int) ≤ (r : Int)) = true := by simp
 have hlt : decide ((r : Int) < 128) = false := by simp; omega
 by_cases he : r = 65533
 ·have hq : ((r : Int) == 65533) = true := by rw [he]; rfl
  have HE := Ya.mk he
  clear he h3
  go_enter Tryz.func96, Tryz.ntmps96
  go_wp2
  go_loopg [5, 6] s.size (fun g _ _ wx => ∃ i : Nat, i + g ≤ s.size ∧ s.size ≤ i + g ∧ wx.heap[w.heap.size]? = some (.stringIter s i) ∧ Ya (Below w.heap.size w wx))
  case atStart => exact ⟨0, Zj, Zj, World.iter_heap w s 0, ⟨(Below.refl _ _).alloc (Ks _) _⟩⟩
  case round =>
   obtain ⟨i, hig, aHY, hit, HB⟩ := hrel
   cases gk with
   | zero =>
    obtain rfl : i = s.size := by omega
    have hnx := fun ty => Lib.run_next_end_at (P := Tryz.prog) wr w.heap.size s s.size ty hit (Nat.lt_irrefl _)
    go_wp2
    go_ret
    exact ⟨rfl, HB.out⟩
   | succ g =>
    have hi : i < s.size := by omega
    have hx := get!_data s i hi
    have nK := Yng HA.out hx
    have hnx := fun ty => Lib.run_next_ascii_at (P := Tryz.prog) wr w.heap.size s i ty hit hi (by rw [← get!_at s i hi]; exact nK)
    rw [← get!_at s i hi] at hnx
    have mA := Lib.iterAt_heap wr w.heap.size s i (i + 1) hit
    have fJ := Ya.mk (Lib.below_iterAt HB.out (k := w.heap.size) (Ks _) s (i + 1))
    obtain ⟨W1, hW1⟩ : ∃ W1, W1 = wr.iterAt w.heap.size s (i + 1) := ⟨_, rfl⟩
    rw [← hW1] at hnx mA fJ
    obtain ⟨b, hb⟩ : ∃ b, b = s.get! i := ⟨_, rfl⟩
    rw [← hb] at hnx nK
    clear hx hb hW1 hit HB
    have hne : ((b.toNat : Int) == 65533) = false := beq_eq_false_iff_ne.2 Zj
    go_wp2
    go_roundg g
    case measure => omega
    case rel => exact ⟨i + 1, Zj, Zj, mA, fJ⟩
 ·have hq : ((r : Int) == 65533) = false := beq_eq_false_iff_ne.2 Zj
  obtain ⟨z1, z2, z3⟩ := Yuq r h1 h2 h3
  obtain ⟨rs, hrs⟩ : ∃ rs, rs = Utf8.encode (r : Int) := ⟨_, rfl⟩
  have hcv : ∀ W, (convert 21 9 (.int .i32 (r : Int))).run Tryz.prog W = .ok (.string rs) W := by
   intro W; rw [hrs]; rfl
  rw [← hrs] at z1 z2 z3
  have HV := Ya.mk h3
  clear hrs he h3
  go_enter Tryz.func96, Tryz.ntmps96
  go_wp2_with fail
  refine (Tryz.utf8_ValidRune _ _).mono ?_
  rintro e w' ⟨rfl, hw⟩
  rw [hw]
  clear hw
  have hvr : Lib.validRune (r : Int) = true := by
   have := HV.out
   unfold Lib.validRune
   simp only [decide_eq_true_eq]
   omega
  rw [hvr]
  clear hvr
  obtain ⟨n, hn⟩ : ∃ n, rs.size = n + 1 := ⟨rs.size - 1, Zj⟩
  have hz : (rs.size : Int) - 1 = (n : Int) := by omega
  have oP : (rs.size : Int) = (n : Int) + 1 := by omega
  have HZ := Ya.mk hz
  have hnl : n < rs.size := by omega
  have hb : (rs[n]'hnl).toNat = (rs.get! (rs.size - 1)).toNat := by rw [show rs.size - 1 = n by omega, get!_at rs n Zj]
  rw [← hb] at z3
  have HN := Ya.mk hn
  clear hz oP hn hb
  go_wp2
  go_step3
  go_wp2
  simp only [HZ.out]
  refine wp_loop_rounds 1 ?_
  rw [rounds_succ]
  by_cases hlast : n < s.size
  ·have jK : decide ((n : Int) < (s.size : Int)) = true := Kn Zj
   have hxs := get!_data s n hlast
   have nK := Yng HA.out hxs
   rw [get!_at s n hlast] at nK
   clear hxs
   have aZO : (((s[n]'hlast).toNat : Int) != ((rs[n]'hnl).toNat : Int)) = true := bne_iff_ne.2 Zj
   have aZP : (((s[n]'hlast).toNat : Int) == ((rs[n]'hnl).toNat : Int)) = false := beq_eq_false_iff_ne.2 Zj
   have k1 : (0 : Int) ≤ (n : Int) := by omega
   have k2 : (n : Int) < (s.size : Int) := by omega
   have k3 : (n : Int) < (rs.size : Int) := by omega
   have k4 : (n : Int) + 1 ≤ (s.size : Int) := by omega
   have k5 : IntKind.i64.wrap ((n : Int) + 1) = (n : Int) + 1 := Go.IntWalk.i64_in _ Zj
   go_wp2
   go_step3
   go_wp2
   go_quiet (fail)
   go_wp2
   have hix : Lib.indexByte (s.extract (n + 1) s.size).data.toList ((((rs[n]'hnl).toNat : Int)).toNat.toUInt8) = -1 := by
    refine indexByte_none fun x hx he => ?_
    have hm : x ∈ s.data.toList := by
     rw [ByteArray.data_extract, Array.toList_extract] at hx
     exact List.mem_of_mem_drop (List.mem_of_mem_take hx)
    obtain ⟨q, hq⟩ := List.mem_iff_getElem?.1 hm
    have := Yng HA.out hq
    rw [he] at this
    simp at this
    omega
   have hcall : ∀ W, Calls Tryz.prog 25 #[.string (s.extract (n + 1) s.size), .int .u8 ((rs[n]'hnl).toNat : Int)] W fun e w' => e = .returned (.int .i64 (-1)) ∧ w' = W :=
    fun W => (Tryz.strings_IndexByte _ _ _).mono fun e w' ⟨g1, g2⟩ => ⟨by rw [g1, hix], g2⟩
   have HC := Ya.mk hcall
   clear hcall hix
   have k6 : (0 : Int) ≤ (n : Int) + 1 := by omega
   have k7 : ((n : Int) + 1).toNat = n + 1 := by omega
   go_quiet ((go_at_call 25; exact Ybr (HC.out _)))
   go_wp2
   rw [Exit.noGoto_ret]
   go_wp2
   rw [Exit.noGoto_ret]
   go_ret
   exact ⟨rfl, Yb (Below.refl _ _) _⟩
  ·have jK : decide ((n : Int) < (s.size : Int)) = false := Ko Zj
   go_wp2
   rw [Exit.noGoto_ret]
   go_ret
   exact ⟨rfl, Below.refl _ _⟩
set_option maxHeartbeats 4000000 in
set_option maxRecDepth 100000 in
theorem Ysn (s chars : Y) (w : World) (ha0 : Ysg chars.data.toList = true) (h2 : 2 ≤ chars.size) (hcs : chars.size ≤ 4294967281) (h8 : s.size ≤ 8) :
  Calls Tryz.prog 71 #[.string s, .string chars] w fun e w' => e = .returned (.int .i64 (Lib.indexAny s.data.toList chars.data.toList)) ∧ Below w.heap.size w w' := by
 have HA := Ya.mk ha0
 clear ha0
 have hemp : chars.toList.isEmpty = false := by
  rw [Lib.toList_data]
  cases h : chars.data.toList with
  | nil => have := Lib.size_eq chars; rw [h, List.length_nil] at this; omega
  | cons _ _ => rfl
 have pE : ((chars.size : Int) == 1) = false := beq_eq_false_iff_ne.2 Zj
 have h8z : decide ((8 : Int) < (s.size : Int)) = false := Ko Zj
 go_enter Tryz.func71, Tryz.ntmps71
 go_wp2_with (go_at_call 97; refine (Tryz.strings_shouldUseASCIISet _ _).mono ?_; rintro e w' ⟨rfl, hw⟩; rw [hw, h8z])
 go_loopg [9, 10] s.size (fun g _ _ wx => ∃ i : Nat, i + g ≤ s.size ∧ s.size ≤ i + g ∧ wx.heap[w.heap.size]? = some (.stringIter s i) ∧ Ya (Below w.heap.size w wx) ∧ Ya (Lib.NoAny s.data.toList chars.data.toList i))
 case atStart => exact ⟨0, Zj, Zj, World.iter_heap w s 0, ⟨(Below.refl _ _).alloc (Ks _) _⟩, ⟨Lib.NoAny.zero _ _⟩⟩
 case round =>
  obtain ⟨i, hig, aHY, hit, HB, HN⟩ := hrel
  cases gk with
  | zero =>
   obtain rfl : i = s.size := by omega
   have hnx := fun ty => Lib.run_next_end_at (P := Tryz.prog) wr w.heap.size s s.size ty hit (Nat.lt_irrefl _)
   go_wp2
   go_ret
   exact ⟨by rw [Lib.indexAny_none (by rw [← Lib.size_eq]; exact HN.out)]; rfl, HB.out⟩
  | succ g =>
   have hi : i < s.size := by omega
   have hnx := fun ty => Lib.run_next_any_at (P := Tryz.prog) wr w.heap.size s i ty hit hi
   have hwd : 1 ≤ (Utf8.decode s i).2 := Lib.decode_width_pos s i hi
   have mA := Lib.iterAt_heap wr w.heap.size s i (i + (Utf8.decode s i).2) hit
   have fJ := Ya.mk (Lib.below_iterAt HB.out (k := w.heap.size) (Ks _) s (i + (Utf8.decode s i).2))
   obtain ⟨W1, hW1⟩ : ∃ W1, W1 = wr.iterAt w.heap.size s (i + (Utf8.decode s i).2) := ⟨_, rfl⟩
   rw [← hW1] at hnx mA fJ
   have hle : i + (Utf8.decode s i).2 ≤ s.size := by
    rcases Nat.lt_or_ge (s.get! i).toNat 128 with h' | h'
    ·rw [decode_ascii s i hi (by rw [← get!_at s i hi]; exact h')]; exact hi
    ·exact (Yej s i hi h').1
   have HS := Ya.mk (Yao HA.out hi HN.out)
   have HLt := Ya.mk (show w.heap.size < W1.heap.size from (Array.getElem?_eq_some_iff.1 mA).1)
   have HI2 := Ya.mk mA
   clear mA hW1 hit HB
   rcases Nat.lt_or_ge (s.get! i).toNat 128 with zD | zD
   ·-- a byte of ASCII
    have hdec := decode_ascii s i hi (by rw [← get!_at s i hi]; exact zD)
    rw [hdec] at HI2 HS hnx
    have hx := get!_data s i hi
    rw [← get!_at s i hi] at hnx HS
    obtain ⟨x, hxe⟩ : ∃ x, x = s.get! i := ⟨_, rfl⟩
    rw [← hxe] at hnx HS zD hx
    have HX := Ya.mk hx
    clear hx hxe hdec hwd hle
    have hcon := Lib.contains_iff_indexByte chars.data.toList x
    have hback : ((x.toNat : Int)).toNat.toUInt8 = x := by simp
    have HBk := Ya.mk hback
    clear hback
    cases hin : chars.data.toList.contains x
    ·rw [hin] at hcon
     have hlt : ¬ ((0 : Int) ≤ Lib.indexByte chars.data.toList x) := of_decide_eq_false hcon.symm
     have HIn := Ya.mk hin
     clear hcon hin
     go_wp2_with (go_at_call 96; refine (Any.strings_IndexRune_ascii Tryz.lays152 _ _ _ Zj Zj).mono ?_; rintro e w' ⟨rfl, hw⟩; rw [hw, HBk.out])
     go_roundg g
     case measure => omega
     case rel => exact ⟨i + 1, Zj, Zj, HI2.out, fJ, ⟨HN.out.succ HX.out HIn.out⟩⟩
    ·rw [hin] at hcon
     have hge : (0 : Int) ≤ Lib.indexByte chars.data.toList x := Km hcon.symm
     have HIn := Ya.mk hin
     clear hcon hin
     go_wp2_with (go_at_call 96; refine (Any.strings_IndexRune_ascii Tryz.lays152 _ _ _ Zj Zj).mono ?_; rintro e w' ⟨rfl, hw⟩; rw [hw, HBk.out])
     go_ret
     exact ⟨by rw [Lib.indexAny_hit HN.out HX.out HIn.out]; rfl, fJ.out⟩
   ·-- a rune beyond ASCII: it is none of those sought
    have hr1 := (decode_high s i hi (by rw [← get!_at s i hi]; exact zD)).1
    have hrv := Lib.decode_valid s i
    have HN2 := Ya.mk (HS.out (fun j b hj hb => by have := Yng HA.out hb; omega))
    clear HS
    obtain ⟨c, hc⟩ : ∃ c, c = (Utf8.decode s i).1 := ⟨_, rfl⟩
    obtain ⟨n, hn⟩ : ∃ n, n = (Utf8.decode s i).2 := ⟨_, rfl⟩
    rw [← hc] at hnx hr1 hrv
    rw [← hn] at HI2 HN2 hle hwd
    clear hc hn
    go_wp2_with (go_at_call 96; refine (Ykn chars c _ HA.out hcs hr1 Zj Zj).mono ?_)
    rintro e w2 ⟨rfl, cJ⟩
    have cZ := Ya.mk cJ
    clear cJ
    go_wp2
    go_roundg (s.size - (i + n))
    case measure => omega
    case rel => exact ⟨i + n, Zj, Zj, by rw [cZ.out.block _ HLt.out]; exact HI2.out, ⟨fJ.out.trans (cZ.out.mono (Nat.le_of_lt HLt.out))⟩, HN2⟩
def strings_IndexAny.f (a0 a1 : Y) : Option Int :=
 if Ysg a1.data.toList = true ∧ 2 ≤ a1.size ∧ a1.size < 4294967281 ∧ a0.size < 4294967281 then some (Lib.indexAny a0.data.toList a1.data.toList) else none
theorem strings_IndexAny.calls (a0 a1 : Y) (r : Int) (w : World) (hE : EnvOk w) (h : strings_IndexAny.f a0 a1 = some r) :
  Calls Tryz.prog 71 #[.string a0, .string a1] w fun e w' => e = .returned (.int .i64 r) ∧ Below w.heap.size w w' := by
 unfold strings_IndexAny.f at h
 by_cases hs : Ysg a1.data.toList = true ∧ 2 ≤ a1.size ∧ a1.size < 4294967281 ∧ a0.size < 4294967281
 ·rw [if_pos hs] at h
  obtain rfl := Kr h
  obtain ⟨ha, h2, hc, h0⟩ := hs
  by_cases h8 : a0.size ≤ 8
  ·exact Ysn a0 a1 w ha h2 Zj h8
  ·have aWx : (Tryz.prog.info? 110).map (fun i => (i.zero, i.size)) = some (some (.agg (Array.replicate 256 (.bool false))), 256) := by kernel_rfl
   refine (Tryz.strings_IndexAny_long (zero_of_info aWx).1 a0 a1 w h2 Zj h0 hc (ascii_of_all ha)).mono fun e w' ⟨g1, g2⟩ => ⟨g1, ?_⟩
   rw [g2]
   exact Yd (Yd (Below.refl _ _) _) _
 ·rw [if_neg hs] at h; cases h
end Go.Proofs.YtihaeeldgimdiaaGreatDoor.X
end
