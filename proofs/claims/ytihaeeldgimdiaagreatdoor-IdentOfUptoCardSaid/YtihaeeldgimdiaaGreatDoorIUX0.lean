import Derived.Test.YtihaeeldgimdiaaGreatDoorIUWords
import Derived.Test.YtihaeeldgimdiaaGreatDoorIUEnv
set_option linter.all false
namespace Go.Proofs.YtihaeeldgimdiaaGreatDoor.X
open Go.RowKit Go.Yw.PrintWords Go.Yw.PrintLast Go.Yw.PrintMore
attribute [local go_sem] Yxd Yvd Yze Yye Ymd Yld Yyd Ywd
def errW : Option Int → Value
 | none => .nilIface
 | some c => .iface 0 (.int .i64 c)
theorem Ym : errW none = .nilIface := rfl
theorem Yl (c : Int) : errW (some c) = .iface 0 (.int .i64 c) := rfl
theorem Yaj : (Tryz.prog.info? 5).map (fun i => (i.zero, i.size, i.bytes)) = some (some (.int .u8 0), 1, 1) := by kernel_rfl
theorem Ype : (Tryz.prog.info? 9).map (fun i => (i.zero, i.size, i.bytes)) = some (some (.string ⟨#[]⟩), 1, 16) := by kernel_rfl
theorem info32 : (Tryz.prog.info? 32).map (fun i => (i.zero, i.size, i.bytes)) = some (some (.agg #[(.string ⟨#[]⟩), (.string ⟨#[]⟩), (.string ⟨#[]⟩), (.string ⟨#[]⟩), (.string ⟨#[]⟩), (.string ⟨#[]⟩), (.int .i64 0), (.bool false), (.string ⟨#[]⟩), (.string ⟨#[]⟩), (.string ⟨#[]⟩), (.slice none 0 0), (.slice none 0 0), (.slice none 0 0), (.slice none 0 0), (.slice none 0 0)]), 16, 280) := by kernel_rfl
-- the values' own types
def Ywc (xs : List (List Y)) (i : Int) : (List Y) := xs.getD i.toNat ([] : List Y)
theorem at_L1 {w : World} {A : Option Addr} {n : Nat} {xs : List (List Y)} (h : Kd.C (Kd.slice 9 Kd.string) w A n xs) (i : Int) (h0 : 0 ≤ i) (h1 : i < n) : ∃ ad A0 c0, A = some ad ∧ w.cell? (ad.add i.toNat) = some (.slice A0 (Ywc xs i).length c0) ∧ (Ywc xs i).length ≤ c0 ∧ Kd.string.C w A0 (Ywc xs i).length (Ywc xs i) := by
 obtain ⟨ad, c, e, _, hK, eE⟩ := Kd.C_get h ([] : List Y) i h0 h1
 have hc : ∀ j u, c[j]? = some u → w.cell? (ad.add (i.toNat * 1 + j)) = some u := eE
 obtain ⟨A0, c0, rfl, l0, g0⟩ := hK
 exact ⟨ad, A0, c0, e, by have hq := hc 0 _ rfl; rwa [Nat.mul_one, Nat.add_zero] at hq, l0, g0⟩
structure S30 where
 f0 : Y
 f1 : Y
 f2 : Y
def z30 : S30 := ⟨(⟨#[]⟩ : Y), (⟨#[]⟩ : Y), (⟨#[]⟩ : Y)⟩
def k30 : Kd S30 := Kd.iso (Kd.pair Kd.string (Kd.pair Kd.string Kd.string)) (fun x : S30 => (x.f0, x.f1, x.f2))
theorem k30_open {w : World} {x : S30} {cs : List Value} (h : k30.K w x cs) : cs = [.string x.f0, .string x.f1, .string x.f2] := by
 obtain ⟨_, _, rfl, rfl, ⟨_, _, rfl, rfl, rfl⟩⟩ := h
 exact rfl
theorem k30_mk (w : World) (x : S30)  : k30.K w x [.string x.f0, .string x.f1, .string x.f2] := ⟨[.string x.f0], [.string x.f1, .string x.f2], rfl, rfl, ⟨[.string x.f1], [.string x.f2], rfl, rfl, rfl⟩⟩
structure S32 where
 f0 : Y
 f1 : Y
 f2 : Y
 f3 : Y
 f4 : Y
 f5 : Y
 f6 : Int
 f7 : Bool
 f8 : S30
 f9 : (List Y)
 f10 : (List Y)
 f11 : (List Y)
 f12 : (List Y)
 f13 : (List Y)
def z32 : S32 := ⟨(⟨#[]⟩ : Y), (⟨#[]⟩ : Y), (⟨#[]⟩ : Y), (⟨#[]⟩ : Y), (⟨#[]⟩ : Y), (⟨#[]⟩ : Y), (0 : Int), false, z30, ([] : List Y), ([] : List Y), ([] : List Y), ([] : List Y), ([] : List Y)⟩
def k32 : Kd S32 := Kd.iso (Kd.pair Kd.string (Kd.pair Kd.string (Kd.pair Kd.string (Kd.pair Kd.string (Kd.pair Kd.string (Kd.pair Kd.string (Kd.pair (Kd.int .i64) (Kd.pair Kd.bool (Kd.pair k30 (Kd.pair (Kd.slice 9 Kd.string) (Kd.pair (Kd.slice 9 Kd.string) (Kd.pair (Kd.slice 9 Kd.string) (Kd.pair (Kd.slice 9 Kd.string) (Kd.slice 9 Kd.string)))))))))))))) (fun x : S32 => (x.f0, x.f1, x.f2, x.f3, x.f4, x.f5, x.f6, x.f7, x.f8, x.f9, x.f10, x.f11, x.f12, x.f13))
theorem Yij {w : World} {x : S32} {cs : List Value} (h : k32.K w x cs) : ∃ cA bK bW bT cB cI eF cD dW bN, cs = [.string x.f0, .string x.f1, .string x.f2, .string x.f3, .string x.f4, .string x.f5, .int .i64 x.f6, .bool x.f7, .string x.f8.f0, .string x.f8.f1, .string x.f8.f2, .slice cA x.f9.length bK, .slice bW x.f10.length bT, .slice cB x.f11.length cI, .slice eF x.f12.length cD, .slice dW x.f13.length bN] ∧ x.f9.length ≤ bK ∧ Kd.string.C w cA x.f9.length x.f9 ∧ x.f10.length ≤ bT ∧ Kd.string.C w bW x.f10.length x.f10 ∧ x.f11.length ≤ cI ∧ Kd.string.C w cB x.f11.length x.f11 ∧ x.f12.length ≤ cD ∧ Kd.string.C w eF x.f12.length x.f12 ∧ x.f13.length ≤ bN ∧ Kd.string.C w dW x.f13.length x.f13 := by
 obtain ⟨_, _, rfl, rfl, ⟨_, _, rfl, rfl, ⟨_, _, rfl, rfl, ⟨_, _, rfl, rfl, ⟨_, _, rfl, rfl, ⟨_, _, rfl, rfl, ⟨_, _, rfl, rfl, ⟨_, _, rfl, rfl, ⟨_, _, rfl, s8, ⟨_, _, rfl, ⟨cA, bK, rfl, jW, nC⟩, ⟨_, _, rfl, ⟨bW, bT, rfl, jX, mL⟩, ⟨_, _, rfl, ⟨cB, cI, rfl, jY, lW⟩, ⟨_, _, rfl, ⟨eF, cD, rfl, uH, nJ⟩, ⟨dW, bN, rfl, uI, mR⟩⟩⟩⟩⟩⟩⟩⟩⟩⟩⟩⟩⟩⟩ := h
 obtain rfl := k30_open s8
 exact ⟨cA, bK, bW, bT, cB, cI, eF, cD, dW, bN, rfl, jW, nC, jX, mL, jY, lW, uH, nJ, uI, mR⟩
theorem Yuk (w : World) (x : S32) {cA : Option Addr} {bK : Nat} (jW : x.f9.length ≤ bK) (nC : Kd.string.C w cA x.f9.length x.f9) {bW : Option Addr} {bT : Nat} (jX : x.f10.length ≤ bT) (mL : Kd.string.C w bW x.f10.length x.f10) {cB : Option Addr} {cI : Nat} (jY : x.f11.length ≤ cI) (lW : Kd.string.C w cB x.f11.length x.f11) {eF : Option Addr} {cD : Nat} (uH : x.f12.length ≤ cD) (nJ : Kd.string.C w eF x.f12.length x.f12) {dW : Option Addr} {bN : Nat} (uI : x.f13.length ≤ bN) (mR : Kd.string.C w dW x.f13.length x.f13) : k32.K w x [.string x.f0, .string x.f1, .string x.f2, .string x.f3, .string x.f4, .string x.f5, .int .i64 x.f6, .bool x.f7, .string x.f8.f0, .string x.f8.f1, .string x.f8.f2, .slice cA x.f9.length bK, .slice bW x.f10.length bT, .slice cB x.f11.length cI, .slice eF x.f12.length cD, .slice dW x.f13.length bN] := ⟨[.string x.f0], [.string x.f1, .string x.f2, .string x.f3, .string x.f4, .string x.f5, .int .i64 x.f6, .bool x.f7, .string x.f8.f0, .string x.f8.f1, .string x.f8.f2, .slice cA x.f9.length bK, .slice bW x.f10.length bT, .slice cB x.f11.length cI, .slice eF x.f12.length cD, .slice dW x.f13.length bN], rfl, rfl, ⟨[.string x.f1], [.string x.f2, .string x.f3, .string x.f4, .string x.f5, .int .i64 x.f6, .bool x.f7, .string x.f8.f0, .string x.f8.f1, .string x.f8.f2, .slice cA x.f9.length bK, .slice bW x.f10.length bT, .slice cB x.f11.length cI, .slice eF x.f12.length cD, .slice dW x.f13.length bN], rfl, rfl, ⟨[.string x.f2], [.string x.f3, .string x.f4, .string x.f5, .int .i64 x.f6, .bool x.f7, .string x.f8.f0, .string x.f8.f1, .string x.f8.f2, .slice cA x.f9.length bK, .slice bW x.f10.length bT, .slice cB x.f11.length cI, .slice eF x.f12.length cD, .slice dW x.f13.length bN], rfl, rfl, ⟨[.string x.f3], [.string x.f4, .string x.f5, .int .i64 x.f6, .bool x.f7, .string x.f8.f0, .string x.f8.f1, .string x.f8.f2, .slice cA x.f9.length bK, .slice bW x.f10.length bT, .slice cB x.f11.length cI, .slice eF x.f12.length cD, .slice dW x.f13.length bN], rfl, rfl, ⟨[.string x.f4], [.string x.f5, .int .i64 x.f6, .bool x.f7, .string x.f8.f0, .string x.f8.f1, .string x.f8.f2, .slice cA x.f9.length bK, .slice bW x.f10.length bT, .slice cB x.f11.length cI, .slice eF x.f12.length cD, .slice dW x.f13.length bN], rfl, rfl, ⟨[.string x.f5], [.int .i64 x.f6, .bool x.f7, .string x.f8.f0, .string x.f8.f1, .string x.f8.f2, .slice cA x.f9.length bK, .slice bW x.f10.length bT, .slice cB x.f11.length cI, .slice eF x.f12.length cD, .slice dW x.f13.length bN], rfl, rfl, ⟨[.int .i64 x.f6], [.bool x.f7, .string x.f8.f0, .string x.f8.f1, .string x.f8.f2, .slice cA x.f9.length bK, .slice bW x.f10.length bT, .slice cB x.f11.length cI, .slice eF x.f12.length cD, .slice dW x.f13.length bN], rfl, rfl, ⟨[.bool x.f7], [.string x.f8.f0, .string x.f8.f1, .string x.f8.f2, .slice cA x.f9.length bK, .slice bW x.f10.length bT, .slice cB x.f11.length cI, .slice eF x.f12.length cD, .slice dW x.f13.length bN], rfl, rfl, ⟨[.string x.f8.f0, .string x.f8.f1, .string x.f8.f2], [.slice cA x.f9.length bK, .slice bW x.f10.length bT, .slice cB x.f11.length cI, .slice eF x.f12.length cD, .slice dW x.f13.length bN], rfl, (k30_mk w x.f8 ), ⟨[.slice cA x.f9.length bK], [.slice bW x.f10.length bT, .slice cB x.f11.length cI, .slice eF x.f12.length cD, .slice dW x.f13.length bN], rfl, ⟨cA, bK, rfl, jW, nC⟩, ⟨[.slice bW x.f10.length bT], [.slice cB x.f11.length cI, .slice eF x.f12.length cD, .slice dW x.f13.length bN], rfl, ⟨bW, bT, rfl, jX, mL⟩, ⟨[.slice cB x.f11.length cI], [.slice eF x.f12.length cD, .slice dW x.f13.length bN], rfl, ⟨cB, cI, rfl, jY, lW⟩, ⟨[.slice eF x.f12.length cD], [.slice dW x.f13.length bN], rfl, ⟨eF, cD, rfl, uH, nJ⟩, ⟨dW, bN, rfl, uI, mR⟩⟩⟩⟩⟩⟩⟩⟩⟩⟩⟩⟩⟩⟩
def Yj (xs : List S32) (i : Int) : S32 := xs.getD i.toNat z32
theorem at_T32 {w : World} {A : Option Addr} {n : Nat} {xs : List S32} (h : Kd.C k32 w A n xs) (i : Int) (h0 : 0 ≤ i) (h1 : i < n) : ∃ ad cA bK bW bT cB cI eF cD dW bN, A = some ad ∧ w.cell? (ad.add (i.toNat * 16)) = some (.string (Yj xs i).f0) ∧ w.cell? ⟨(ad.add (i.toNat * 16)).block, (ad.add (i.toNat * 16)).off + 1, none⟩ = some (.string (Yj xs i).f1) ∧ w.cell? ⟨(ad.add (i.toNat * 16)).block, (ad.add (i.toNat * 16)).off + 2, none⟩ = some (.string (Yj xs i).f2) ∧ w.cell? ⟨(ad.add (i.toNat * 16)).block, (ad.add (i.toNat * 16)).off + 3, none⟩ = some (.string (Yj xs i).f3) ∧ w.cell? ⟨(ad.add (i.toNat * 16)).block, (ad.add (i.toNat * 16)).off + 4, none⟩ = some (.string (Yj xs i).f4) ∧ w.cell? ⟨(ad.add (i.toNat * 16)).block, (ad.add (i.toNat * 16)).off + 5, none⟩ = some (.string (Yj xs i).f5) ∧ w.cell? ⟨(ad.add (i.toNat * 16)).block, (ad.add (i.toNat * 16)).off + 6, none⟩ = some (.int .i64 (Yj xs i).f6) ∧ w.cell? ⟨(ad.add (i.toNat * 16)).block, (ad.add (i.toNat * 16)).off + 7, none⟩ = some (.bool (Yj xs i).f7) ∧ w.cell? ⟨(ad.add (i.toNat * 16)).block, (ad.add (i.toNat * 16)).off + 8, none⟩ = some (.string (Yj xs i).f8.f0) ∧ w.cell? ⟨(ad.add (i.toNat * 16)).block, (ad.add (i.toNat * 16)).off + 9, none⟩ = some (.string (Yj xs i).f8.f1) ∧ w.cell? ⟨(ad.add (i.toNat * 16)).block, (ad.add (i.toNat * 16)).off + 10, none⟩ = some (.string (Yj xs i).f8.f2) ∧ w.cell? ⟨(ad.add (i.toNat * 16)).block, (ad.add (i.toNat * 16)).off + 11, none⟩ = some (.slice cA (Yj xs i).f9.length bK) ∧ w.cell? ⟨(ad.add (i.toNat * 16)).block, (ad.add (i.toNat * 16)).off + 12, none⟩ = some (.slice bW (Yj xs i).f10.length bT) ∧ w.cell? ⟨(ad.add (i.toNat * 16)).block, (ad.add (i.toNat * 16)).off + 13, none⟩ = some (.slice cB (Yj xs i).f11.length cI) ∧ w.cell? ⟨(ad.add (i.toNat * 16)).block, (ad.add (i.toNat * 16)).off + 14, none⟩ = some (.slice eF (Yj xs i).f12.length cD) ∧ w.cell? ⟨(ad.add (i.toNat * 16)).block, (ad.add (i.toNat * 16)).off + 15, none⟩ = some (.slice dW (Yj xs i).f13.length bN) ∧ (Yj xs i).f9.length ≤ bK ∧ Kd.string.C w cA (Yj xs i).f9.length (Yj xs i).f9 ∧ (Yj xs i).f10.length ≤ bT ∧ Kd.string.C w bW (Yj xs i).f10.length (Yj xs i).f10 ∧ (Yj xs i).f11.length ≤ cI ∧ Kd.string.C w cB (Yj xs i).f11.length (Yj xs i).f11 ∧ (Yj xs i).f12.length ≤ cD ∧ Kd.string.C w eF (Yj xs i).f12.length (Yj xs i).f12 ∧ (Yj xs i).f13.length ≤ bN ∧ Kd.string.C w dW (Yj xs i).f13.length (Yj xs i).f13 := by
 obtain ⟨ad, c, e, _, hK, eE⟩ := Kd.C_get h z32 i h0 h1
 have hc : ∀ j u, c[j]? = some u → w.cell? (ad.add (i.toNat * 16 + j)) = some u := eE
 obtain ⟨cA, bK, bW, bT, cB, cI, eF, cD, dW, bN, rfl, jW, nC, jX, mL, jY, lW, uH, nJ, uI, mR⟩ := Yij hK
 exact ⟨ad, cA, bK, bW, bT, cB, cI, eF, cD, dW, bN, e, hc 0 _ rfl, by rw [← Yxb _ _ 1 Zj]; exact hc 1 _ rfl, by rw [← Yxb _ _ 2 Zj]; exact hc 2 _ rfl, by rw [← Yxb _ _ 3 Zj]; exact hc 3 _ rfl, by rw [← Yxb _ _ 4 Zj]; exact hc 4 _ rfl, by rw [← Yxb _ _ 5 Zj]; exact hc 5 _ rfl, by rw [← Yxb _ _ 6 Zj]; exact hc 6 _ rfl, by rw [← Yxb _ _ 7 Zj]; exact hc 7 _ rfl, by rw [← Yxb _ _ 8 Zj]; exact hc 8 _ rfl, by rw [← Yxb _ _ 9 Zj]; exact hc 9 _ rfl, by rw [← Yxb _ _ 10 Zj]; exact hc 10 _ rfl, by rw [← Yxb _ _ 11 Zj]; exact hc 11 _ rfl, by rw [← Yxb _ _ 12 Zj]; exact hc 12 _ rfl, by rw [← Yxb _ _ 13 Zj]; exact hc 13 _ rfl, by rw [← Yxb _ _ 14 Zj]; exact hc 14 _ rfl, by rw [← Yxb _ _ 15 Zj]; exact hc 15 _ rfl, jW, nC, jX, mL, jY, lW, uH, nJ, uI, mR⟩
structure S46 where
 f0 : Y
 f1 : Y
 f2 : Int
 f3 : Y
 f4 : Y
 f5 : Y
 f6 : Bool
 f7 : Bool
def IsS75 (w0 W : World) (g : Nat) (f0 f1 f2 : Y) (f3 : Int) (f4 f5 f6 : Y) (f7 f8 : Bool) : Prop := W.heap[g]? = some (.cells #[.string f0, .string f1, .string f2, .int .i64 f3, .string f4, .string f5, .string f6, .bool f7, .bool f8] 75 (0, 0)) ∧ w0.heap.size ≤ g
theorem IsS75.grown {w0 W : World} {g : Nat} {f0 : Y} {f1 : Y} {f2 : Y} {f3 : Int} {f4 : Y} {f5 : Y} {f6 : Y} {f7 : Bool} {f8 : Bool} {W1 : World} {row : Option Nat} (h : IsS75 w0 W g f0 f1 f2 f3 f4 f5 f6 f7 f8) (hw : W.grownBy W1 row) (hne : some g ≠ row) : IsS75 w0 W1 g f0 f1 f2 f3 f4 f5 f6 f7 f8 := by
 obtain ⟨hb, hg⟩ := h
 exact ⟨Yeh hb hw hne, hg⟩
theorem IsS75.below {w0 W : World} {g : Nat} {f0 : Y} {f1 : Y} {f2 : Y} {f3 : Int} {f4 : Y} {f5 : Y} {f6 : Y} {f7 : Bool} {f8 : Bool} {W1 : World} (h : IsS75 w0 W g f0 f1 f2 f3 f4 f5 f6 f7 f8) (hw : Below W.heap.size W W1) : IsS75 w0 W1 g f0 f1 f2 f3 f4 f5 f6 f7 f8 := h.grown (Ymj hw none) Zq
theorem IsS75.drewN {w0 W : World} {g : Nat} {f0 : Y} {f1 : Y} {f2 : Y} {f3 : Int} {f4 : Y} {f5 : Y} {f6 : Y} {f7 : Bool} {f8 : Bool} (h : IsS75 w0 W g f0 f1 f2 f3 f4 f5 f6 f7 f8) (m : Nat) : IsS75 w0 (W.drewN m) g f0 f1 f2 f3 f4 f5 f6 f7 f8 := h
theorem IsS75.apart {w0 W : World} {g : Nat} {f0 : Y} {f1 : Y} {f2 : Y} {f3 : Int} {f4 : Y} {f5 : Y} {f6 : Y} {f7 : Bool} {f8 : Bool} {α : Type} {d : Kd α} {e : Nat} {base : Nat} {ok : Nat → Prop} {v : Value} {xs : List α} (h : IsS75 w0 W g f0 f1 f2 f3 f4 f5 f6 f7 f8) (ho : d.R e W base ok v xs) (ht : ∀ q, q ∈ e :: d.E → q ≠ 75) : d.R e W base (fun k => ok k ∧ k ≠ g) v xs := by
 obtain ⟨hb, hg⟩ := h
 exact Kd.R_types ho hb ht
theorem IsS75.ge {w0 W : World} {g : Nat} {f0 : Y} {f1 : Y} {f2 : Y} {f3 : Int} {f4 : Y} {f5 : Y} {f6 : Y} {f7 : Bool} {f8 : Bool} (h : IsS75 w0 W g f0 f1 f2 f3 f4 f5 f6 f7 f8) : w0.heap.size ≤ g := by
 obtain ⟨hb, hg⟩ := h
 exact hg
theorem Ysb {W : World} {g : Nat} {f0 : Y} {f1 : Y} {f2 : Y} {f3 : Int} {f4 : Y} {f5 : Y} {f6 : Y} {f7 : Bool} {f8 : Bool} (h : W.heap[g]? = some (.cells #[.string f0, .string f1, .string f2, .int .i64 f3, .string f4, .string f5, .string f6, .bool f7, .bool f8] 75 (0, 0))) : W.cell? ⟨g, 0, none⟩ = some (.string f0) := (Yf h 0).trans rfl
theorem IsS75.set_0 {w0 W : World} {g : Nat} {f0 : Y} {f1 : Y} {f2 : Y} {f3 : Int} {f4 : Y} {f5 : Y} {f6 : Y} {f7 : Bool} {f8 : Bool} (h : IsS75 w0 W g f0 f1 f2 f3 f4 f5 f6 f7 f8) (x : Y) : IsS75 w0 (W.setCell ⟨g, 0, none⟩ (.string x)) g x f1 f2 f3 f4 f5 f6 f7 f8 := by
 obtain ⟨hb, hg⟩ := h
 exact ⟨by simpa using Yjh hb 0 (.string x), hg⟩
theorem Ydc {W : World} {g : Nat} {f0 : Y} {f1 : Y} {f2 : Y} {f3 : Int} {f4 : Y} {f5 : Y} {f6 : Y} {f7 : Bool} {f8 : Bool} (h : W.heap[g]? = some (.cells #[.string f0, .string f1, .string f2, .int .i64 f3, .string f4, .string f5, .string f6, .bool f7, .bool f8] 75 (0, 0))) : W.cell? ⟨g, 1, none⟩ = some (.string f1) := (Yf h 1).trans rfl
theorem IsS75.set_1 {w0 W : World} {g : Nat} {f0 : Y} {f1 : Y} {f2 : Y} {f3 : Int} {f4 : Y} {f5 : Y} {f6 : Y} {f7 : Bool} {f8 : Bool} (h : IsS75 w0 W g f0 f1 f2 f3 f4 f5 f6 f7 f8) (x : Y) : IsS75 w0 (W.setCell ⟨g, 1, none⟩ (.string x)) g f0 x f2 f3 f4 f5 f6 f7 f8 := by
 obtain ⟨hb, hg⟩ := h
 exact ⟨by simpa using Yjh hb 1 (.string x), hg⟩
theorem Yhc {W : World} {g : Nat} {f0 : Y} {f1 : Y} {f2 : Y} {f3 : Int} {f4 : Y} {f5 : Y} {f6 : Y} {f7 : Bool} {f8 : Bool} (h : W.heap[g]? = some (.cells #[.string f0, .string f1, .string f2, .int .i64 f3, .string f4, .string f5, .string f6, .bool f7, .bool f8] 75 (0, 0))) : W.cell? ⟨g, 2, none⟩ = some (.string f2) := (Yf h 2).trans rfl
theorem IsS75.set_2 {w0 W : World} {g : Nat} {f0 : Y} {f1 : Y} {f2 : Y} {f3 : Int} {f4 : Y} {f5 : Y} {f6 : Y} {f7 : Bool} {f8 : Bool} (h : IsS75 w0 W g f0 f1 f2 f3 f4 f5 f6 f7 f8) (x : Y) : IsS75 w0 (W.setCell ⟨g, 2, none⟩ (.string x)) g f0 f1 x f3 f4 f5 f6 f7 f8 := by
 obtain ⟨hb, hg⟩ := h
 exact ⟨by simpa using Yjh hb 2 (.string x), hg⟩
theorem Yec {W : World} {g : Nat} {f0 : Y} {f1 : Y} {f2 : Y} {f3 : Int} {f4 : Y} {f5 : Y} {f6 : Y} {f7 : Bool} {f8 : Bool} (h : W.heap[g]? = some (.cells #[.string f0, .string f1, .string f2, .int .i64 f3, .string f4, .string f5, .string f6, .bool f7, .bool f8] 75 (0, 0))) : W.cell? ⟨g, 3, none⟩ = some (.int .i64 f3) := (Yf h 3).trans rfl
theorem IsS75.set_3 {w0 W : World} {g : Nat} {f0 : Y} {f1 : Y} {f2 : Y} {f3 : Int} {f4 : Y} {f5 : Y} {f6 : Y} {f7 : Bool} {f8 : Bool} (h : IsS75 w0 W g f0 f1 f2 f3 f4 f5 f6 f7 f8) (x : Int) : IsS75 w0 (W.setCell ⟨g, 3, none⟩ (.int .i64 x)) g f0 f1 f2 x f4 f5 f6 f7 f8 := by
 obtain ⟨hb, hg⟩ := h
 exact ⟨by simpa using Yjh hb 3 (.int .i64 x), hg⟩
theorem Yzb {W : World} {g : Nat} {f0 : Y} {f1 : Y} {f2 : Y} {f3 : Int} {f4 : Y} {f5 : Y} {f6 : Y} {f7 : Bool} {f8 : Bool} (h : W.heap[g]? = some (.cells #[.string f0, .string f1, .string f2, .int .i64 f3, .string f4, .string f5, .string f6, .bool f7, .bool f8] 75 (0, 0))) : W.cell? ⟨g, 4, none⟩ = some (.string f4) := (Yf h 4).trans rfl
theorem IsS75.set_4 {w0 W : World} {g : Nat} {f0 : Y} {f1 : Y} {f2 : Y} {f3 : Int} {f4 : Y} {f5 : Y} {f6 : Y} {f7 : Bool} {f8 : Bool} (h : IsS75 w0 W g f0 f1 f2 f3 f4 f5 f6 f7 f8) (x : Y) : IsS75 w0 (W.setCell ⟨g, 4, none⟩ (.string x)) g f0 f1 f2 f3 x f5 f6 f7 f8 := by
 obtain ⟨hb, hg⟩ := h
 exact ⟨by simpa using Yjh hb 4 (.string x), hg⟩
theorem Yac {W : World} {g : Nat} {f0 : Y} {f1 : Y} {f2 : Y} {f3 : Int} {f4 : Y} {f5 : Y} {f6 : Y} {f7 : Bool} {f8 : Bool} (h : W.heap[g]? = some (.cells #[.string f0, .string f1, .string f2, .int .i64 f3, .string f4, .string f5, .string f6, .bool f7, .bool f8] 75 (0, 0))) : W.cell? ⟨g, 5, none⟩ = some (.string f5) := (Yf h 5).trans rfl
theorem IsS75.set_5 {w0 W : World} {g : Nat} {f0 : Y} {f1 : Y} {f2 : Y} {f3 : Int} {f4 : Y} {f5 : Y} {f6 : Y} {f7 : Bool} {f8 : Bool} (h : IsS75 w0 W g f0 f1 f2 f3 f4 f5 f6 f7 f8) (x : Y) : IsS75 w0 (W.setCell ⟨g, 5, none⟩ (.string x)) g f0 f1 f2 f3 f4 x f6 f7 f8 := by
 obtain ⟨hb, hg⟩ := h
 exact ⟨by simpa using Yjh hb 5 (.string x), hg⟩
theorem Yvb {W : World} {g : Nat} {f0 : Y} {f1 : Y} {f2 : Y} {f3 : Int} {f4 : Y} {f5 : Y} {f6 : Y} {f7 : Bool} {f8 : Bool} (h : W.heap[g]? = some (.cells #[.string f0, .string f1, .string f2, .int .i64 f3, .string f4, .string f5, .string f6, .bool f7, .bool f8] 75 (0, 0))) : W.cell? ⟨g, 6, none⟩ = some (.string f6) := (Yf h 6).trans rfl
theorem IsS75.set_6 {w0 W : World} {g : Nat} {f0 : Y} {f1 : Y} {f2 : Y} {f3 : Int} {f4 : Y} {f5 : Y} {f6 : Y} {f7 : Bool} {f8 : Bool} (h : IsS75 w0 W g f0 f1 f2 f3 f4 f5 f6 f7 f8) (x : Y) : IsS75 w0 (W.setCell ⟨g, 6, none⟩ (.string x)) g f0 f1 f2 f3 f4 f5 x f7 f8 := by
 obtain ⟨hb, hg⟩ := h
 exact ⟨by simpa using Yjh hb 6 (.string x), hg⟩
theorem Ybc {W : World} {g : Nat} {f0 : Y} {f1 : Y} {f2 : Y} {f3 : Int} {f4 : Y} {f5 : Y} {f6 : Y} {f7 : Bool} {f8 : Bool} (h : W.heap[g]? = some (.cells #[.string f0, .string f1, .string f2, .int .i64 f3, .string f4, .string f5, .string f6, .bool f7, .bool f8] 75 (0, 0))) : W.cell? ⟨g, 7, none⟩ = some (.bool f7) := (Yf h 7).trans rfl
theorem IsS75.set_7 {w0 W : World} {g : Nat} {f0 : Y} {f1 : Y} {f2 : Y} {f3 : Int} {f4 : Y} {f5 : Y} {f6 : Y} {f7 : Bool} {f8 : Bool} (h : IsS75 w0 W g f0 f1 f2 f3 f4 f5 f6 f7 f8) (x : Bool) : IsS75 w0 (W.setCell ⟨g, 7, none⟩ (.bool x)) g f0 f1 f2 f3 f4 f5 f6 x f8 := by
 obtain ⟨hb, hg⟩ := h
 exact ⟨by simpa using Yjh hb 7 (.bool x), hg⟩
theorem Yub {W : World} {g : Nat} {f0 : Y} {f1 : Y} {f2 : Y} {f3 : Int} {f4 : Y} {f5 : Y} {f6 : Y} {f7 : Bool} {f8 : Bool} (h : W.heap[g]? = some (.cells #[.string f0, .string f1, .string f2, .int .i64 f3, .string f4, .string f5, .string f6, .bool f7, .bool f8] 75 (0, 0))) : W.cell? ⟨g, 8, none⟩ = some (.bool f8) := (Yf h 8).trans rfl
theorem IsS75.set_8 {w0 W : World} {g : Nat} {f0 : Y} {f1 : Y} {f2 : Y} {f3 : Int} {f4 : Y} {f5 : Y} {f6 : Y} {f7 : Bool} {f8 : Bool} (h : IsS75 w0 W g f0 f1 f2 f3 f4 f5 f6 f7 f8) (x : Bool) : IsS75 w0 (W.setCell ⟨g, 8, none⟩ (.bool x)) g f0 f1 f2 f3 f4 f5 f6 f7 x := by
 obtain ⟨hb, hg⟩ := h
 exact ⟨by simpa using Yjh hb 8 (.bool x), hg⟩
theorem IsS75.new (w0 W : World) (f0 f1 f2 : Y) (f3 : Int) (f4 f5 f6 : Y) (f7 f8 : Bool) (hB : Below w0.heap.size w0 W) : IsS75 w0 (W.alloc (.cells #[.string f0, .string f1, .string f2, .int .i64 f3, .string f4, .string f5, .string f6, .bool f7, .bool f8] 75)) W.heap.size f0 f1 f2 f3 f4 f5 f6 f7 f8 := ⟨by simpa using heap_alloc_new W _, hB.size⟩
end Go.Proofs.YtihaeeldgimdiaaGreatDoor.X
