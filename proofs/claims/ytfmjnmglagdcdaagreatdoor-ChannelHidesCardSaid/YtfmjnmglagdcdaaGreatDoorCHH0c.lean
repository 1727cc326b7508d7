/- What the parser of a URL takes off its text: up to one of some bytes, or one byte. -/
import Derived.Test.YtfmjnmglagdcdaaGreatDoorCHWords
import Derived.Test.YtfmjnmglagdcdaaGreatDoorCHH0b
namespace Go.Proofs.YtfmjnmglagdcdaaGreatDoor.X
open Go.RowKit Go.Lib Go.Shelf Go.Yw.PrintWords Go.Yw.PrintLast Go.Yw.PrintMore
set_option linter.unusedVariables false
set_option linter.unusedSimpArgs false
theorem Yc {W : World} {g : Nat} {cs : Array Value} {t : TypeId} (h : W.heap[g]? = some (.cells cs t (0, 0))) (j : Nat) : W.frozen? ⟨g, j, none⟩ = false := by
 unfold World.frozen?; rw [h]; simp
theorem KeepBut.below' {w w1 w2 : World} {g : Nat} (h : KeepBut w w1 g none) (k : Below w1.heap.size w1 w2) : KeepBut w w2 g none := h.trans (KeepBut.of_below k g none) (.inl rfl)
def Ysd (s chars : ByteArray) : Nat := if Lib.indexAny s.data.toList chars.data.toList < 0 then s.size else (Lib.indexAny s.data.toList chars.data.toList).toNat
theorem Yzi (s chars : List UInt8) : Lib.indexAny s chars < s.length ∨ Lib.indexAny s chars = -1 := by
 induction s with
 | nil => right; rfl
 | cons b l ih =>
  unfold Lib.indexAny
  by_cases h : chars.contains b = true
  ·rw [if_pos h]; left; simp
  ·rw [if_neg h]
   by_cases h2 : (Lib.indexAny l chars == -1) = true
   ·rw [if_pos h2]; right; rfl
   ·rw [if_neg h2]; left
    rcases ih with ih | ih
    ·simp only [List.length_cons]; omega
    ·rw [ih] at h2; exact absurd rfl h2
theorem Ytn (s chars : ByteArray) : Ysd s chars ≤ s.size := by
 unfold Ysd
 split
 ·exact Nat.le_refl _
 ·rcases Yzi s.data.toList chars.data.toList with h | h
  ·rw [← Lib.size_eq] at h; omega
  ·omega
theorem Ycl (s : ByteArray) : s.extract 0 s.size = s := by
 apply ByteArray.ext; simp
theorem Yeo (s : ByteArray) : s.extract s.size s.size = ByteArray.empty := by
 apply ByteArray.ext; simp
theorem Yfk {w0 w w1 : World} {g : Nat} {s0 s1 s2 : ByteArray} {s3 : Int} {s4 s5 s6 : ByteArray} {s7 s8 : Bool} (hB : Below w0.heap.size w0 w) (hb : Below w.heap.size w w1) (hI : IsS101 w0 w1 g s0 s1 s2 s3 s4 s5 s6 s7 s8) (x : ByteArray) :
  IsS101 w0 (w1.setCell ⟨g, 0, none⟩ (.string x)) g x s1 s2 s3 s4 s5 s6 s7 s8 ∧ Below w0.heap.size w0 (w1.setCell ⟨g, 0, none⟩ (.string x)) ∧ KeepBut w (w1.setCell ⟨g, 0, none⟩ (.string x)) g none :=
 ⟨hI.set_0 x, Yh (hB.trans (hb.mono hB.size)) hI.ge, (KeepBut.of_below hb g none).set_ 0 _⟩
def Yma.f (s0 s1 s2 : ByteArray) (s3 : Int) (s4 s5 s6 : ByteArray) (s7 s8 : Bool) (a1 : ByteArray) : Option (ByteArray × ByteArray × ByteArray × ByteArray × Int × ByteArray × ByteArray × ByteArray × Bool × Bool) :=
 if Yee a1.data.toList = true ∧ s0.size ≤ 140737488355328 then some (s0.extract 0 (Ysd s0 a1), s0.extract (Ysd s0 a1) s0.size, s1, s2, s3, s4, s5, s6, s7, s8) else none
set_option maxHeartbeats 4000000 in
set_option maxRecDepth 100000 in
theorem Yma.calls (g : Nat) (s0 s1 s2 : ByteArray) (s3 : Int) (s4 s5 s6 : ByteArray) (s7 s8 : Bool) (a1 : ByteArray) (r1 r2 r3 r4 : ByteArray) (r5 : Int) (r6 r7 r8 : ByteArray) (r9 r10 : Bool) (w0 w : World) (hE : EnvOk w0) (hI : IsS101 w0 w g s0 s1 s2 s3 s4 s5 s6 s7 s8) (hB : Below w0.heap.size w0 w) (h : Yma.f s0 s1 s2 s3 s4 s5 s6 s7 s8 a1 = some (r1, r2, r3, r4, r5, r6, r7, r8, r9, r10)) :
  Calls Tryz.prog 77 #[.pointer (some ⟨g, 0, none⟩), .string a1] w fun e w' => e = .returned (.string r1) ∧ IsS101 w0 w' g r2 r3 r4 r5 r6 r7 r8 r9 r10 ∧ Below w0.heap.size w0 w' ∧ KeepBut w w' g none := by
 unfold Yma.f at h
 by_cases hs : Yee a1.data.toList = true ∧ s0.size ≤ 140737488355328
 ·rw [if_pos hs] at h
  simp only [Option.some.injEq, Prod.mk.injEq] at h
  obtain ⟨rfl, rfl, rfl, rfl, rfl, rfl, rfl, rfl, rfl, rfl⟩ := h
  obtain ⟨ha, hsz⟩ := hs
  have HA := Ya.mk ha
  clear ha
  have hc := Yy hI.1
  have hfz := Yc hI.1 0
  have HI := Ya.mk hI
  have hle := Ytn s0 a1
  have HU := Ya.mk (show Ysd s0 a1 = if Lib.indexAny s0.data.toList a1.data.toList < 0 then s0.size else (Lib.indexAny s0.data.toList a1.data.toList).toNat from rfl)
  have hge := Lib.indexAny_ge a1.data.toList s0.data.toList
  have hlt := Yzi s0.data.toList a1.data.toList
  rw [← Lib.size_eq] at hlt
  obtain ⟨n, hn⟩ : ∃ n, n = Ysd s0 a1 := ⟨_, rfl⟩
  obtain ⟨i, hi⟩ : ∃ i, i = Lib.indexAny s0.data.toList a1.data.toList := ⟨_, rfl⟩
  rw [← hn] at HU hle ⊢
  rw [← hi] at HU hge hlt
  have HIx := Ya.mk hi
  have HBg := Ya.mk hB
  clear hi hn hI hB hE
  go_enter Tryz.func77, Tryz.ntmps77
  go_wp2_with (go_at_call 101; refine (url_anyAt.walk s0 a1 _ HA.out).mono ?_)
  rintro e w1 ⟨rfl, hb⟩
  rw [← HIx.out]
  have hc1 := cell_kept hb hc
  have HI1 := Ya.mk (HI.out.below hb)
  have hfz1 := Yc HI1.out.1 0
  have HBw := Ya.mk hb
  clear hb hc hfz HI HA
  by_cases hneg : i < 0
  ·have hnb : decide (i < 0) = true := decide_eq_true hneg
   have HU2 := Ya.mk (show n = s0.size by have := HU.out; rw [if_pos hneg] at this; exact this)
   clear HU hlt hge
   go_wp2
   go_ret
   obtain rfl := HU2.out
   rw [Ycl, Yeo]
   exact ⟨rfl, Yfk HBg.out HBw.out HI1.out _⟩
  ·have hnb : decide (i < 0) = false := decide_eq_false hneg
   have HU2 := Ya.mk (show n = i.toNat by have := HU.out; rw [if_neg hneg] at this; exact this)
   have h0i : 0 ≤ i := by omega
   have hisz : i ≤ (s0.size : Int) := by omega
   clear HU hlt hge
   go_wp2
   go_ret
   obtain rfl := HU2.out
   exact ⟨rfl, Yfk HBg.out HBw.out HI1.out _⟩
 ·rw [if_neg hs] at h; cases h
def Ypb.f (s0 s1 s2 : ByteArray) (s3 : Int) (s4 s5 s6 : ByteArray) (s7 s8 : Bool) (a1 : Int) : Option (Bool × ByteArray × ByteArray × ByteArray × Int × ByteArray × ByteArray × ByteArray × Bool × Bool) :=
 if s0.size ≤ 140737488355328 then (if 0 < s0.size ∧ bt s0 0 = a1 then some (true, s0.extract 1 s0.size, s1, s2, s3, s4, s5, s6, s7, s8) else some (false, s0, s1, s2, s3, s4, s5, s6, s7, s8)) else none
set_option maxHeartbeats 4000000 in
set_option maxRecDepth 100000 in
theorem Ypb.calls (g : Nat) (s0 s1 s2 : ByteArray) (s3 : Int) (s4 s5 s6 : ByteArray) (s7 s8 : Bool) (a1 : Int) (r1 : Bool) (r2 r3 r4 : ByteArray) (r5 : Int) (r6 r7 r8 : ByteArray) (r9 r10 : Bool) (w0 w : World) (hE : EnvOk w0) (hI : IsS101 w0 w g s0 s1 s2 s3 s4 s5 s6 s7 s8) (hB : Below w0.heap.size w0 w) (h : Ypb.f s0 s1 s2 s3 s4 s5 s6 s7 s8 a1 = some (r1, r2, r3, r4, r5, r6, r7, r8, r9, r10)) :
  Calls Tryz.prog 81 #[.pointer (some ⟨g, 0, none⟩), .int .u8 a1] w fun e w' => e = .returned (.bool r1) ∧ IsS101 w0 w' g r2 r3 r4 r5 r6 r7 r8 r9 r10 ∧ Below w0.heap.size w0 w' ∧ KeepBut w w' g none := by
 unfold Ypb.f at h
 by_cases hsz : s0.size ≤ 140737488355328
 ·rw [if_pos hsz] at h
  have hc := Yy hI.1
  have hfz := Yc hI.1 0
  have HI := Ya.mk hI
  have HBg := Ya.mk hB
  clear hI hB hE
  by_cases h0 : 0 < s0.size
  ·have hb : bt s0 0 = ((s0[0]'h0).toNat : Int) := by unfold bt; rw [dif_pos (show (0 : Int).toNat < s0.size from h0)]; rfl
   have hne : s0.toList ≠ [] := by
    intro e
    have h2 := congrArg List.length e
    rw [Lib.toList_data, ← Lib.size_eq] at h2
    exact absurd h2 (by simp only [List.length_nil]; omega)
   have he1 : (s0.toList == []) = false := beq_eq_false_iff_ne.2 hne
   have he2 : s0.toList.isEmpty = false := by cases h' : s0.toList with | nil => exact absurd h' hne | cons _ _ => rfl
   by_cases hq : bt s0 0 = a1
   ·rw [if_pos ⟨h0, hq⟩] at h
    simp only [Option.some.injEq, Prod.mk.injEq] at h
    obtain ⟨rfl, rfl, rfl, rfl, rfl, rfl, rfl, rfl, rfl, rfl⟩ := h
    rw [hb] at hq
    have hq1 : (((s0[0]'h0).toNat : Int) != a1) = false := bne_eq_false_iff_eq.2 hq
    have hq2 : (((s0[0]'h0).toNat : Int) == a1) = true := beq_iff_eq.2 hq
    clear hq hb hne
    have h1s : 1 ≤ s0.size := h0
    go_enter Tryz.func81, Tryz.ntmps81
    go_wp2
    go_ret
    exact ⟨rfl, Yfk HBg.out (Below.refl _ _) HI.out _⟩
   ·rw [if_neg (fun hx => hq hx.2)] at h
    simp only [Option.some.injEq, Prod.mk.injEq] at h
    obtain ⟨rfl, rfl, rfl, rfl, rfl, rfl, rfl, rfl, rfl, rfl⟩ := h
    rw [hb] at hq
    have hq1 : (((s0[0]'h0).toNat : Int) != a1) = true := bne_iff_ne.2 hq
    have hq2 : (((s0[0]'h0).toNat : Int) == a1) = false := beq_eq_false_iff_ne.2 hq
    clear hq hb hne
    go_enter Tryz.func81, Tryz.ntmps81
    go_wp2
    go_ret
    exact ⟨rfl, HI.out, HBg.out, KeepBut.refl _ _ _⟩
  ·rw [if_neg (fun hx => h0 hx.1)] at h
   simp only [Option.some.injEq, Prod.mk.injEq] at h
   obtain ⟨rfl, rfl, rfl, rfl, rfl, rfl, rfl, rfl, rfl, rfl⟩ := h
   have hne : s0.toList = [] := by
    apply List.eq_nil_of_length_eq_zero
    rw [Lib.toList_data, ← Lib.size_eq]; omega
   have he1 : (s0.toList == []) = true := beq_iff_eq.2 hne
   have he2 : s0.toList.isEmpty = true := by rw [hne]; rfl
   clear hne
   go_enter Tryz.func81, Tryz.ntmps81
   go_wp2
   go_ret
   exact ⟨rfl, HI.out, HBg.out, KeepBut.refl _ _ _⟩
 ·rw [if_neg hsz] at h; cases h
end Go.Proofs.YtfmjnmglagdcdaaGreatDoor.X
