import Derived.Test.YtnmglnglbdpjjaaGreatDoorUfQa
set_option linter.all false
namespace Go.Proofs.YtnmglnglbdpjjaaGreatDoor.X
open Go.RowKit Go.Lib Go.Shelf Go.Yw.PrintWords Go.Yw.PrintLast Go.Yw.PrintMore
def hexR (n : Nat) : UInt8 := if n < 10 then UInt8.ofNat (48 + n) else UInt8.ofNat (55 + n)
def Yfd.f (a0 : Int) : Option Y := if 0 ≤ a0 ∧ a0 < 256 then some (ofL [37, hexR (a0.toNat / 16), hexR (a0.toNat % 16)]) else none
abbrev hexS : Y := ⟨#[48, 49, 50, 51, 52, 53, 54, 55, 56, 57, 65, 66, 67, 68, 69, 70]⟩
theorem Yau (n : Nat) (h : n < 16) : hexS[n]'h = hexR n := by
 have : ∀ n : Fin 16, hexS[n.val]'n.isLt = hexR n.val := by decide +kernel
 exact this ⟨n, h⟩
set_option maxHeartbeats 8000000 in
set_option maxRecDepth 100000 in
theorem Yfd.calls (a0 : Int) (r : Y) (w : World) (hE : EnvOk w) (h : Yfd.f a0 = some r) :
  Calls Tryz.prog 120 #[.int .u8 a0] w fun e w' => e = .returned (.string r) ∧ Below w.heap.size w w' := by
 unfold Yfd.f at h
 by_cases hs : 0 ≤ a0 ∧ a0 < 256
 ·rw [if_pos hs] at h
  obtain rfl := Kv h
  obtain ⟨n, rfl⟩ : ∃ n : Nat, a0 = (n : Int) := ⟨a0.toNat, Zk⟩
  rw [Int.toNat_natCast]
  have hn : n < 256 := by omega
  obtain ⟨q, hq⟩ : ∃ q, q = n / 16 := ⟨_, rfl⟩
  obtain ⟨m, hm⟩ : ∃ m, m = n % 16 := ⟨_, rfl⟩
  have e1 : Int.tdiv (n : Int) 16 = (q : Int) := by rw [Int.tdiv_eq_ediv_of_nonneg Zk]; omega
  have e2 : Int.tmod (n : Int) 16 = (m : Int) := by rw [Int.tmod_eq_emod_of_nonneg Zk]; omega
  have cH : q < 16 := by omega
  have zP : m < 16 := by omega
  have w1 : IntKind.u8.wrap (q : Int) = (q : Int) := by unfold IntKind.wrap; simp [IntKind.bits, IntKind.signed]; omega
  have w2 : IntKind.u8.wrap (m : Int) = (m : Int) := by unfold IntKind.wrap; simp [IntKind.bits, IntKind.signed]; omega
  have k1 : (0 : Int) ≤ (q : Int) := by omega
  have k2 : (q : Int) < 16 := by omega
  have k3 : (0 : Int) ≤ (m : Int) := by omega
  have k4 : (m : Int) < 16 := by omega
  rw [← hq, ← hm]
  clear hq hm hs hn h
  have hcv := run_convert_bytes_back (P := Tryz.prog) (w.alloc (.cells #[.int .u8 (((hexS[q]'cH).toNat : Nat) : Int), .int .u8 (((hexS[m]'zP).toNat : Nat) : Int)] 5)).drew 62 9 5 ⟨w.heap.size, 0, none⟩ 2 [hexS[q]'cH, hexS[m]'zP] Tryz.underlying62 Tryz.underlying5 Tryz.underlying9
   (fun j hj => by
    have hb := heap_alloc_new w (.cells #[.int .u8 (((hexS[q]'cH).toNat : Nat) : Int), .int .u8 (((hexS[m]'zP).toNat : Nat) : Int)] 5)
    match j, hj with
    | 0, _ => exact (Yf (Yp hb) 0).trans rfl
    | 1, _ => exact (Yf (Yp hb) 1).trans rfl)
  have aVl := hcv
  simp only [List.length_cons, List.length_nil] at hcv
  have HX := Ya.mk (And.intro (Yau q cH) (Yau m zP))
  clear aVl
  go_enter Tryz.func120, Tryz.ntmps120
  go_wp2_with fail
  go_region
  go_wp2
  go_ret
  exact ⟨by rw [HX.out.1, HX.out.2]; rfl, Yc ((Below.refl w.heap.size w).alloc (Kw _) _)⟩
 ·rw [if_neg hs] at h; cases h
end Go.Proofs.YtnmglnglbdpjjaaGreatDoor.X
