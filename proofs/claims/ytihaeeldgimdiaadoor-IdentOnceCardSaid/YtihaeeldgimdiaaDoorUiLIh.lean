/- IdentStays: what a call of it does. -/
import Derived.Test.YtihaeeldgimdiaaDoorUiIa
import Derived.Test.YtihaeeldgimdiaaDoorUiIg
import Derived.Test.YtihaeeldgimdiaaDoorUiIf
namespace Go.Proofs.YtihaeeldgimdiaaDoor.X
open Go.RowKit Go.Lib Go.Shelf Go.Proofs.YtihaeeldgimdiaaDoorW.PrintWords Go.Proofs.YtihaeeldgimdiaaDoorW.PrintLast Go.Proofs.YtihaeeldgimdiaaDoorW.PrintMore
set_option linter.unusedVariables false
set_option linter.unusedSimpArgs false
theorem one_C {w W : World} {x : En} {cs : List Value} (hK : k30.K w x cs) (hb : Below w.heap.size w W) : Kd.C k30 (W.alloc (.cells cs.toArray 30)) (some ⟨W.heap.size, 0, none⟩) 1 [x] := by
 have h := OwnRow.lit (R := (Kd.fixed k30 w).M W W.heap.size (fun _ => True)) (e := 30) (size := 16) W W.heap.size (ps := [x]) (inner := cs) ⟨by rw [k30.K_len hK]; rfl, fun j p hj => by
  rcases j with _ | j
  ·obtain rfl : x = p := by simpa using hj
   rw [Nat.zero_mul, List.drop_zero, List.take_of_length_le (by rw [k30.K_len hK]; exact Nat.le_refl _)]
   exact hK
  ·simp at hj⟩ (Nat.le_refl _) (by simp)
 exact fixed_C (Kd.R_reads' (show Kd.R (Kd.fixed k30 w) 30 _ W.heap.size (fun _ => True) (.slice (some ⟨W.heap.size, 0, none⟩) 1 1) [x] from ⟨fun _ _ => trivial, h⟩)).2.2 (hb.alloc hb.size _)
def turned (x : En) (s : ByteArray) : En := { x with f3 := s, f4 := s, f5 := s, f10 := [s] }
theorem turned_ok {x : En} {s : ByteArray} (h : OfOk x) (hs : s.size ≤ 1000) : OfOk (turned x s) :=
 ⟨h.s1, h.s2, by show s.size ≤ _; omega, by show s.size ≤ _; omega, by show s.size ≤ _; omega, h.hn, h.hs⟩
theorem one_S (W : World) (s : ByteArray) : Kd.C Kd.string (W.alloc (.cells #[.string s] 9)) (some ⟨W.heap.size, 0, none⟩) 1 [s] := by
 have h := OwnRow.lit (R := Kd.string.M W W.heap.size (fun _ => True)) (e := 9) (size := 1) W W.heap.size (ps := [s]) (inner := [.string s]) ⟨rfl, fun j p hj => by
  rcases j with _ | j
  ·obtain rfl : s = p := by simpa using hj
   rfl
  ·simp at hj⟩ (Nat.le_refl _) (by simp)
 exact (Kd.R_reads' (show Kd.R Kd.string 9 _ W.heap.size (fun _ => True) (.slice (some ⟨W.heap.size, 0, none⟩) 1 1) [s] from ⟨fun _ _ => trivial, h⟩)).2.2
set_option maxHeartbeats 8000000 in
set_option maxRecDepth 100000 in
theorem stays_far (k : Nat) (x : En) (s : ByteArray) (A9 A10 A11 A12 A13 : Option Addr) (n9 n10 n11 n12 n13 : Nat) (w : World) (hE : EnvOk w)
  (r9 : x.f9.length ≤ n9 ∧ Kd.C Kd.string w A9 x.f9.length x.f9) (r10 : x.f10.length ≤ n10 ∧ Kd.C Kd.string w A10 x.f10.length x.f10) (r11 : x.f11.length ≤ n11 ∧ Kd.C Kd.string w A11 x.f11.length x.f11) (r12 : x.f12.length ≤ n12 ∧ Kd.C Kd.string w A12 x.f12.length x.f12) (r13 : x.f13.length ≤ n13 ∧ Kd.C Kd.string w A13 x.f13.length x.f13)
  (hf : cringlelaw21_far.f k [x] [] = some true) :
  Calls Tryd.prog 4 #[.agg (ec x.f0 x.f1 x.f2 x.f3 x.f4 x.f5 x.f6 x.f7 x.f8.f0 x.f8.f1 x.f8.f2 (.slice A9 x.f9.length n9) (.slice A10 x.f10.length n10) (.slice A11 x.f11.length n11) (.slice A12 x.f12.length n12) (.slice A13 x.f13.length n13)), .string s] w fun e w' => e = .returned (.bool true) ∧ Below w.heap.size w w' := by
 have HE := Aside0.mk hE
 have HK := Aside0.mk (k30_mk w x r9.1 r9.2 r10.1 r10.2 r11.1 r11.2 r12.1 r12.2 r13.1 r13.2)
 have R9 := Aside0.mk r9
 have R10 := Aside0.mk r10
 have R11 := Aside0.mk r11
 have R12 := Aside0.mk r12
 have R13 := Aside0.mk r13
 have HF := Aside0.mk hf
 clear hE r9 r10 r11 r12 r13 hf
 have hu30 := Tryd.underlying30
 have BK := Aside0.mk (heap_alloc_new w (.cells (ec x.f0 x.f1 x.f2 x.f3 x.f4 x.f5 x.f6 x.f7 x.f8.f0 x.f8.f1 x.f8.f2 (.slice A9 x.f9.length n9) (.slice A10 x.f10.length n10) (.slice A11 x.f11.length n11) (.slice A12 x.f12.length n12) (.slice A13 x.f13.length n13)) 30))
 have HB := Aside0.mk ((Below.refl w.heap.size w).alloc (Nat.le_refl _) (.cells (ec x.f0 x.f1 x.f2 x.f3 x.f4 x.f5 x.f6 x.f7 x.f8.f0 x.f8.f1 x.f8.f2 (.slice A9 x.f9.length n9) (.slice A10 x.f10.length n10) (.slice A11 x.f11.length n11) (.slice A12 x.f12.length n12) (.slice A13 x.f13.length n13)) 30))
 go_enter Tryd.func4, Tryd.ntmps4
 obtain ⟨h0, h1, h2, h3, h4, h5, h6, h7, h8, h9, h10, h11, h12, h13, h14, h15⟩ := ec_cells BK.out
 go_wp2_with fail
 clear h0 h1 h2 h3 h4 h5 h6 h7 h8 h9 h10 h11 h12 h13 h14 h15
 have HC := Aside0.mk (one_C HK.out HB.out)
 have hsz : (w.alloc (.cells (ec x.f0 x.f1 x.f2 x.f3 x.f4 x.f5 x.f6 x.f7 x.f8.f0 x.f8.f1 x.f8.f2 (.slice A9 x.f9.length n9) (.slice A10 x.f10.length n10) (.slice A11 x.f11.length n11) (.slice A12 x.f12.length n12) (.slice A13 x.f13.length n13)) 30)).heap.size = w.heap.size + 1 := Array.size_push _
 rw [hsz] at HC
 clear hsz
 replace HB := Aside0.mk (HB.out.alloc HB.out.size (.cells (ec x.f0 x.f1 x.f2 x.f3 x.f4 x.f5 x.f6 x.f7 x.f8.f0 x.f8.f1 x.f8.f2 (.slice A9 x.f9.length n9) (.slice A10 x.f10.length n10) (.slice A11 x.f11.length n11) (.slice A12 x.f12.length n12) (.slice A13 x.f13.length n13)) 30))
 replace BK := Aside0.mk (blk_alloc BK.out (.cells (ec x.f0 x.f1 x.f2 x.f3 x.f4 x.f5 x.f6 x.f7 x.f8.f0 x.f8.f1 x.f8.f2 (.slice A9 x.f9.length n9) (.slice A10 x.f10.length n10) (.slice A11 x.f11.length n11) (.slice A12 x.f12.length n12) (.slice A13 x.f13.length n13)) 30))
 refine (cringlelaw21_far.calls k _ 1 [x] none 0 [] true _ (HE.out.below HB.out) HC.out (Nat.le_refl _) (Kd.C_nil _ _) (Nat.le_refl _) HF.out).mono ?_
 rintro e w1 ⟨rfl, hb⟩
 replace BK := Aside0.mk (blk_bel BK.out hb)
 replace HB := Aside0.mk (HB.out.trans (hb.mono HB.out.size))
 clear hb
 go_wp2_with fail
 refine (alive21 _ (HE.out.below HB.out)).mono ?_
 rintro e w2 ⟨rfl, hb⟩
 replace HB := Aside0.mk (HB.out.trans (hb.mono HB.out.size))
 clear hb
 go_wp2_with fail
 go_ret
 exact ⟨rfl, HB.out⟩
set_option maxHeartbeats 8000000 in
set_option maxRecDepth 100000 in
theorem stays_long (k : Nat) (x : En) (s : ByteArray) (A9 A10 A11 A12 A13 : Option Addr) (n9 n10 n11 n12 n13 : Nat) (w : World) (hE : EnvOk w)
  (r9 : x.f9.length ≤ n9 ∧ Kd.C Kd.string w A9 x.f9.length x.f9) (r10 : x.f10.length ≤ n10 ∧ Kd.C Kd.string w A10 x.f10.length x.f10) (r11 : x.f11.length ≤ n11 ∧ Kd.C Kd.string w A11 x.f11.length x.f11) (r12 : x.f12.length ≤ n12 ∧ Kd.C Kd.string w A12 x.f12.length x.f12) (r13 : x.f13.length ≤ n13 ∧ Kd.C Kd.string w A13 x.f13.length x.f13)
  (hf : cringlelaw21_far.f k [x] [] = some false)
  (hl : 1000 < s.size) :
  Calls Tryd.prog 4 #[.agg (ec x.f0 x.f1 x.f2 x.f3 x.f4 x.f5 x.f6 x.f7 x.f8.f0 x.f8.f1 x.f8.f2 (.slice A9 x.f9.length n9) (.slice A10 x.f10.length n10) (.slice A11 x.f11.length n11) (.slice A12 x.f12.length n12) (.slice A13 x.f13.length n13)), .string s] w fun e w' => e = .returned (.bool true) ∧ Below w.heap.size w w' := by
 have HE := Aside0.mk hE
 have HK := Aside0.mk (k30_mk w x r9.1 r9.2 r10.1 r10.2 r11.1 r11.2 r12.1 r12.2 r13.1 r13.2)
 have R9 := Aside0.mk r9
 have R10 := Aside0.mk r10
 have R11 := Aside0.mk r11
 have R12 := Aside0.mk r12
 have R13 := Aside0.mk r13
 have HF := Aside0.mk hf
 have HL := Aside0.mk hl
 clear hE r9 r10 r11 r12 r13 hf hl
 have hu30 := Tryd.underlying30
 have BK := Aside0.mk (heap_alloc_new w (.cells (ec x.f0 x.f1 x.f2 x.f3 x.f4 x.f5 x.f6 x.f7 x.f8.f0 x.f8.f1 x.f8.f2 (.slice A9 x.f9.length n9) (.slice A10 x.f10.length n10) (.slice A11 x.f11.length n11) (.slice A12 x.f12.length n12) (.slice A13 x.f13.length n13)) 30))
 have HB := Aside0.mk ((Below.refl w.heap.size w).alloc (Nat.le_refl _) (.cells (ec x.f0 x.f1 x.f2 x.f3 x.f4 x.f5 x.f6 x.f7 x.f8.f0 x.f8.f1 x.f8.f2 (.slice A9 x.f9.length n9) (.slice A10 x.f10.length n10) (.slice A11 x.f11.length n11) (.slice A12 x.f12.length n12) (.slice A13 x.f13.length n13)) 30))
 go_enter Tryd.func4, Tryd.ntmps4
 obtain ⟨h0, h1, h2, h3, h4, h5, h6, h7, h8, h9, h10, h11, h12, h13, h14, h15⟩ := ec_cells BK.out
 go_wp2_with fail
 clear h0 h1 h2 h3 h4 h5 h6 h7 h8 h9 h10 h11 h12 h13 h14 h15
 have HC := Aside0.mk (one_C HK.out HB.out)
 have hsz : (w.alloc (.cells (ec x.f0 x.f1 x.f2 x.f3 x.f4 x.f5 x.f6 x.f7 x.f8.f0 x.f8.f1 x.f8.f2 (.slice A9 x.f9.length n9) (.slice A10 x.f10.length n10) (.slice A11 x.f11.length n11) (.slice A12 x.f12.length n12) (.slice A13 x.f13.length n13)) 30)).heap.size = w.heap.size + 1 := Array.size_push _
 rw [hsz] at HC
 clear hsz
 replace HB := Aside0.mk (HB.out.alloc HB.out.size (.cells (ec x.f0 x.f1 x.f2 x.f3 x.f4 x.f5 x.f6 x.f7 x.f8.f0 x.f8.f1 x.f8.f2 (.slice A9 x.f9.length n9) (.slice A10 x.f10.length n10) (.slice A11 x.f11.length n11) (.slice A12 x.f12.length n12) (.slice A13 x.f13.length n13)) 30))
 replace BK := Aside0.mk (blk_alloc BK.out (.cells (ec x.f0 x.f1 x.f2 x.f3 x.f4 x.f5 x.f6 x.f7 x.f8.f0 x.f8.f1 x.f8.f2 (.slice A9 x.f9.length n9) (.slice A10 x.f10.length n10) (.slice A11 x.f11.length n11) (.slice A12 x.f12.length n12) (.slice A13 x.f13.length n13)) 30))
 refine (cringlelaw21_far.calls k _ 1 [x] none 0 [] false _ (HE.out.below HB.out) HC.out (Nat.le_refl _) (Kd.C_nil _ _) (Nat.le_refl _) HF.out).mono ?_
 rintro e w1 ⟨rfl, hb⟩
 replace BK := Aside0.mk (blk_bel BK.out hb)
 replace HB := Aside0.mk (HB.out.trans (hb.mono HB.out.size))
 clear hb
 have d0 : decide (1000 < (s.size : Int)) = true := decide_eq_true (by have := HL.out; omega)
 have d1 : decide (1000 < s.size) = true := decide_eq_true HL.out
 go_wp2_with fail
 refine (alive21 _ (HE.out.below HB.out)).mono ?_
 rintro e w2 ⟨rfl, hb⟩
 replace HB := Aside0.mk (HB.out.trans (hb.mono HB.out.size))
 clear hb
 go_wp2_with fail
 go_ret
 exact ⟨rfl, HB.out⟩
end Go.Proofs.YtihaeeldgimdiaaDoor.X
