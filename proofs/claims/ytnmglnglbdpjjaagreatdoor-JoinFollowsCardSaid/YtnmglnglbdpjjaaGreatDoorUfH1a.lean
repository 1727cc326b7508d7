import Derived.Test.YtnmglnglbdpjjaaGreatDoorUfX5
set_option linter.all false
section
section
namespace Go.Proofs.YtnmglnglbdpjjaaGreatDoor.X
open Go.RowKit Go.Lib Go.Shelf Go.Yw.PrintWords Go.Yw.PrintLast Go.Yw.PrintMore
set_option maxHeartbeats 8000000
set_option maxRecDepth 100000
def isUpperB (b : UInt8) : Bool := decide (65 ≤ b.toNat) && decide (b.toNat ≤ 90)
def lowB (b : UInt8) : UInt8 := if isUpperB b then b + 32 else b
def Yyc (b : UInt8) : Bool := isUpperB b || (decide (97 ≤ b.toNat) && decide (b.toNat ≤ 122))
def Ygd (b : UInt8) : Bool := decide (48 ≤ b.toNat) && decide (b.toNat ≤ 57)
def Ybk (b : UInt8) : Bool := Yyc b || Ygd b || b == 45 || b == 46 || b == 95 || b == 126
def hexB (n : Nat) : UInt8 := if n < 10 then UInt8.ofNat (48 + n) else UInt8.ofNat (55 + n)
theorem Yad {p : UInt8 → Prop} (h : ∀ x : Fin 256, p (UInt8.ofNat x.val)) (b : UInt8) : p b := by
 have := h ⟨b.toNat, b.toNat_lt⟩
 simpa using this
theorem low_f (b : UInt8) : Yxg.f (b.toNat : Int) = some ((lowB b).toNat : Int) := by
 revert b; exact Yad Zma
theorem plain_f (b : UInt8) : Ysf.f (b.toNat : Int) = some (Ybk b) := by
 revert b; exact Yad Zma
theorem Ydk (b : UInt8) : Ywa.f (b.toNat : Int) = some (Yyc b) := by
 revert b; exact Yad Zma
theorem Ynj (b : UInt8) : Yua.f (b.toNat : Int) = some (Ygd b) := by
 revert b; exact Yad Zma
theorem hex_hi (b : UInt8) : bt ⟨#[48, 49, 50, 51, 52, 53, 54, 55, 56, 57, 65, 66, 67, 68, 69, 70]⟩ ((b.toNat : Int) / 16) = ((hexB (b.toNat / 16)).toNat : Int) := by
 revert b; exact Yad Zma
theorem hexAt (x : Fin 16) : ((⟨#[48, 49, 50, 51, 52, 53, 54, 55, 56, 57, 65, 66, 67, 68, 69, 70]⟩ : Y)[x.val]'x.isLt).toNat = (hexB x.val).toNat := by
 revert x; decide +kernel
theorem hexAt_lo (b : UInt8) {h : b.toNat % 16 < (⟨#[48, 49, 50, 51, 52, 53, 54, 55, 56, 57, 65, 66, 67, 68, 69, 70]⟩ : Y).size} : ((⟨#[48, 49, 50, 51, 52, 53, 54, 55, 56, 57, 65, 66, 67, 68, 69, 70]⟩ : Y)[b.toNat % 16]'h).toNat = (hexB (b.toNat % 16)).toNat :=
 hexAt ⟨b.toNat % 16, h⟩
theorem and15 (b : UInt8) : 0 ≤ Go.bits .and .u8 (b.toNat : Int) 15 ∧ Go.bits .and .u8 (b.toNat : Int) 15 < 16 := by
 revert b; exact Yad Zma
def lowL (l : List UInt8) : List UInt8 := l.map lowB
def Ypf (free : List UInt8) (b : UInt8) : List UInt8 := if Ybk b || free.contains b then [b] else [37, hexB (b.toNat / 16), hexB (b.toNat % 16)]
def Yil (free l : List UInt8) : List UInt8 := l.flatMap (Ypf free)
theorem Ybm (free : List UInt8) (b : UInt8) : (Ypf free b).length ≤ 3 := by unfold Ypf; split <;> simp
theorem markL_le (free l : List UInt8) : (Yil free l).length ≤ 3 * l.length := by
 induction l with
 | nil => simp [Yil]
 | cons b l ih =>
  have := Ybm free b
  simp only [Yil, List.flatMap_cons, List.length_append, List.length_cons] at ih ⊢
  omega
theorem Ysq (s : Y) (i : Nat) (h : i < s.size) : s.data.toList.take (i + 1) = s.data.toList.take i ++ [s.get! i] := by
 rw [List.take_add_one, get!_data s i h]; rfl
theorem Yzj (l : List UInt8) (b : UInt8) : decide (Lib.indexByte l b ≥ 0) = l.contains b := (Lib.contains_iff_indexByte l b).symm
theorem Ytl (free l : List UInt8) (b : UInt8) : Yil free (l ++ [b]) = Yil free l ++ Ypf free b := by simp [Yil]
theorem Yej {B b : Nat} {l : List UInt8} {w : World} (h : Yrj B b l w) (n : Nat) : Yrj B b l (w.drewN n) := h.below (Yb (Below.refl _ _) n)
def Ygf.f (a0 a1 : Y) : Option Y := if a0.size ≤ 4294967281 then some (ofL (Yil a1.data.toList a0.data.toList)) else none
theorem Ygf.calls (a0 a1 r : Y) (w : World) (hE : EnvOk w) (h : Ygf.f a0 a1 = some r) :
  Calls Tryz.prog 104 #[.string a0, .string a1] w fun e w' => e = .returned (.string r) ∧ Below w.heap.size w w' := by
 unfold Ygf.f at h
 by_cases hs : a0.size ≤ 4294967281
 ·rw [if_pos hs] at h
  obtain rfl := Kv h
  have HE := Ya.mk hE
  clear hE h
  go_enter Tryz.func104, Tryz.ntmps104
  go_wp2
  go_loopg [6, 7, 10] a0.size (fun g _ _ v10 wx => ∃ (i : Nat), i + g ≤ a0.size ∧ a0.size ≤ i + g ∧ v10 = .int .i64 (i : Int) ∧ Ya (Yrj w.heap.size w.heap.size (Yil a1.data.toList (a0.data.toList.take i)) wx) ∧ Ya (Below w.heap.size w wx))
  case atStart => exact ⟨0, Zk, Zk, rfl, ⟨Ybs w⟩, ⟨(Below.refl _ _).alloc (Kw _) _⟩⟩
  case round =>
   obtain ⟨i, hi1, kY, rfl, HI, HB⟩ := hrel
   cases gk with
   | zero =>
    obtain rfl : i = a0.size := by omega
    go_wp2_with fail
    refine (Ynl w.heap.size w.heap.size _ _ HI.out HB.out.size).mono ?_
    rintro e w2 ⟨rfl, bU⟩
    have eL := Ya.mk (HB.out.trans bU)
    clear bU
    go_wp2
    go_ret
    exact ⟨by rw [List.take_of_length_le Zmb]; rfl, eL.out⟩
   | succ g =>
    have hi : i < a0.size := by omega
    have hlt : decide ((i : Int) < (a0.size : Int)) = true := Kr Zk
    have hg := get!_at a0 i hi
    have HT := Ya.mk (Ysq a0 i hi)
    have HL := Ya.mk (markL_le a1.data.toList (a0.data.toList.take i))
    have hle : Ya ((a0.data.toList.take i).length ≤ i) := ⟨List.length_take_le _ _⟩
    obtain ⟨b, hb⟩ : ∃ b, b = a0.get! i := ⟨_, rfl⟩
    rw [← hb] at hg HT
    have hx : (a0[i]'hi).toNat = b.toNat := by rw [hg]
    clear hb hg
    have lM := Ya.mk (HE.out.below HB.out)
    have HP := Ya.mk (plain_f b)
    have hbt := b.toNat_lt
    cases hp : Ybk b with
    | true =>
     rw [hp] at HP
     have HM := Ya.mk (show Ypf a1.data.toList b = [b] by simp [Ypf, hp])
     clear hp
     go_wp2_with fail
     refine (Ysf.calls (b.toNat : Int) _ _ lM.out HP.out).mono ?_
     rintro e w2 ⟨rfl, ⟨n, rfl⟩⟩
     go_wp2_with fail
     refine (Yrh w.heap.size w.heap.size _ b _ (Yej HI.out n) Zub (Yb HB.out n).size).mono ?_
     rintro e w3 ⟨rfl, pT, gN⟩
     have oE := Ya.mk pT
     have eF := Ya.mk ((Yb HB.out n).trans gN)
     clear pT gN
     go_wp2
     go_roundg g
     case measure => omega
     case rel => exact ⟨i + 1, Zk, Zk, by go_num, ⟨by rw [HT.out, Ytl, HM.out]; exact oE.out⟩, eF⟩
    | false =>
     rw [hp] at HP
     have HX := Ya.mk (Yzj a1.data.toList b)
     have hback : ((b.toNat : Int)).toNat.toUInt8 = b := by simp
     have HBk := Ya.mk hback
     clear hback
     have uQ := Ya.mk (HE.out)
     cases hc : a1.data.toList.contains b with
     | true =>
      rw [hc] at HX
      have HM := Ya.mk (show Ypf a1.data.toList b = [b] by unfold Ypf; rw [hp, hc]; rfl)
      clear hp hc
      go_wp2_with fail
      refine (Ysf.calls (b.toNat : Int) _ _ lM.out HP.out).mono ?_
      rintro e w2 ⟨rfl, ⟨n, rfl⟩⟩
      go_wp2_with fail
      refine (Tryz.strings_IndexByte _ _ _).mono ?_
      rintro e w2 ⟨rfl, tA⟩
      rw [tA, HBk.out]
      clear tA
      have wE : decide (0 ≤ Lib.indexByte a1.data.toList b) = true := HX.out
      go_wp2_with fail
      refine (Yrh w.heap.size w.heap.size _ b _ (Yej HI.out n) Zub (Yb HB.out n).size).mono ?_
      rintro e w3 ⟨rfl, pT, gN⟩
      have oE := Ya.mk pT
      have eF := Ya.mk ((Yb HB.out n).trans gN)
      clear pT gN
      go_wp2
      go_roundg g
      case measure => omega
      case rel => exact ⟨i + 1, Zk, Zk, by go_num, ⟨by rw [HT.out, Ytl, HM.out]; exact oE.out⟩, eF⟩
     | false =>
      rw [hc] at HX
      have HM := Ya.mk (show Ypf a1.data.toList b = [37, hexB (b.toNat / 16), hexB (b.toNat % 16)] by unfold Ypf; rw [hp, hc]; rfl)
      clear hp hc
      go_wp2_with fail
      refine (Ysf.calls (b.toNat : Int) _ _ lM.out HP.out).mono ?_
      rintro e w2 ⟨rfl, ⟨n, rfl⟩⟩
      go_wp2_with fail
      refine (Tryz.strings_IndexByte _ _ _).mono ?_
      rintro e w2 ⟨rfl, tA⟩
      rw [tA, HBk.out]
      clear tA
      have wE : decide (0 ≤ Lib.indexByte a1.data.toList b) = false := HX.out
      go_wp2_with fail
      refine (Yrh w.heap.size w.heap.size _ 37 _ (Yej HI.out n) Zub (Yb HB.out n).size).mono ?_
      rintro e w3 ⟨rfl, pT, gN⟩
      have oE := Ya.mk pT
      have eF := Ya.mk ((Yb HB.out n).trans gN)
      clear pT gN
      have k1 : (0 : Int) ≤ (b.toNat : Int) / 16 := by omega
      have k2 : (b.toNat : Int) / 16 < ((16 : Nat) : Int) := by omega
      have jF := Ybb ⟨#[48, 49, 50, 51, 52, 53, 54, 55, 56, 57, 65, 66, 67, 68, 69, 70]⟩ ((b.toNat : Int) / 16)
      have HH := Ya.mk (hex_hi b)
      go_wp2_with fail
      rw [HH.out]
      refine (Yrh w.heap.size w.heap.size _ (hexB (b.toNat / 16)) _ oE.out (by have := HL.out; have := hle.out; rw [List.length_append]; show _ + 1 + 1 ≤ _; omega) eF.out.size).mono ?_
      rintro e w4 ⟨rfl, hi4, kW⟩
      have vA := Ya.mk hi4
      have dL := Ya.mk (eF.out.trans kW)
      clear hi4 kW k1 k2 jF
      obtain ⟨k3, k4⟩ := and15 b
      go_wp2_with fail
      rw [hexAt_lo b]
      refine (Yrh w.heap.size w.heap.size _ (hexB (b.toNat % 16)) _ vA.out (by have := HL.out; have := hle.out; rw [List.length_append, List.length_append]; show _ + 1 + 1 + 1 ≤ _; omega) dL.out.size).mono ?_
      rintro e w5 ⟨rfl, hi5, hb5⟩
      have oF := Ya.mk hi5
      have cM := Ya.mk (dL.out.trans hb5)
      clear hi5 hb5 k3 k4
      go_wp2
      go_roundg g
      case measure => omega
      case rel => exact ⟨i + 1, Zk, Zk, by go_num, ⟨by rw [HT.out, Ytl, HM.out]; simpa [Yrj, List.append_assoc] using oF.out⟩, cM⟩
 ·rw [if_neg hs] at h; cases h
end Go.Proofs.YtnmglnglbdpjjaaGreatDoor.X
end
section
namespace Go.Proofs.YtnmglnglbdpjjaaGreatDoor.X
open Go.RowKit Go.Lib Go.Shelf Go.Yw.PrintWords Go.Yw.PrintLast Go.Yw.PrintMore
set_option maxHeartbeats 8000000
set_option maxRecDepth 100000
def Yln (s : Y) (i j : Nat) : UInt8 := if j < i then lowB (s.get! j) else s.get! j
def LowRow (s : Y) (b i : Nat) (w : World) : Prop :=
 ∃ (cs : Array Value) (N : Nat), w.heap[b]? = some (.cells cs 5 (N, N + 1)) ∧ cs.size = N ∧ s.size ≤ N ∧ ∀ j, j < s.size → cs[j]? = some (.int .u8 ((Yln s i j).toNat : Int))
theorem LowRow.cell {s : Y} {b i : Nat} {w : World} (h : LowRow s b i w) (j : Nat) (hj : j < s.size) : w.cell? ⟨b, j, none⟩ = some (.int .u8 ((Yln s i j).toNat : Int)) ∧ w.frozen? ⟨b, j, none⟩ = false := by
 obtain ⟨cs, N, hb, hN, hs, hc⟩ := h
 refine ⟨?_, ?_⟩
 ·unfold World.cell?; rw [hb]; simpa using hc j hj
 ·unfold World.frozen?; rw [hb]; simp; omega
theorem LowRow.step {s : Y} {b i : Nat} {w : World} (h : LowRow s b i w) (hi : i < s.size) : LowRow s b (i + 1) (w.setCell ⟨b, i, none⟩ (.int .u8 ((lowB (s.get! i)).toNat : Int))) := by
 obtain ⟨cs, N, hb, hN, hs, hc⟩ := h
 refine ⟨cs.setIfInBounds i (.int .u8 ((lowB (s.get! i)).toNat : Int)), N, ?_, by simp [hN], hs, fun j hj => ?_⟩
 ·have hlt := (Array.getElem?_eq_some_iff.1 hb).1
  have hv := (Array.getElem?_eq_some_iff.1 hb).2
  unfold World.setCell
  simp only [Option.isSome_none]
  rw [Array.getElem?_eq_getElem (by simpa using hlt), Array.getElem_modify_self, hv]
  rfl
 ·by_cases he : j = i
  ·subst he
   rw [Array.getElem?_setIfInBounds_self_of_lt Zk]
   simp [Yln]
  ·rw [Array.getElem?_setIfInBounds_ne Zk, hc j hj]
   unfold Yln
   by_cases h1 : j < i
   ·rw [if_pos h1, if_pos Zk]
   ·rw [if_neg h1, if_neg Zk]
theorem LowRow.below {s : Y} {b i : Nat} {w w' : World} (h : LowRow s b i w) (hb : Below w.heap.size w w') : LowRow s b i w' := by
 obtain ⟨cs, N, h1, r⟩ := h
 exact ⟨cs, N, by rw [hb.block _ (Array.getElem?_eq_some_iff.1 h1).1]; exact h1, r⟩
def Yib.f (a0 : Y) : Option Y := if a0.size ≤ 140737488351232 then some (ofL (lowL a0.data.toList)) else none
theorem Yib.calls (a0 r : Y) (w : World) (hE : EnvOk w) (h : Yib.f a0 = some r) :
  Calls Tryz.prog 52 #[.string a0] w fun e w' => e = .returned (.string r) ∧ Below w.heap.size w w' := by
 unfold Yib.f at h
 by_cases hs : a0.size ≤ 140737488351232
 ·rw [if_pos hs] at h
  obtain rfl := Kv h
  have HE := Ya.mk hE
  clear hE h
  have hcv := Lib.run_convert_string_bytes (P := Tryz.prog) w 9 62 5 a0 Tryz.underlying9 Tryz.underlying62 Tryz.underlying5
  have hrow : LowRow a0 w.heap.size 0 (Lib.bytesWorld w 5 a0) := by
   refine ⟨_, _, Lib.bytesWorld_at_new w 5 a0, rfl, by simp [Lib.bytesCells], fun j hj => ?_⟩
   have := Lib.bytesWorld_cell w 5 a0 j hj
   unfold World.cell? at this
   rw [Lib.bytesWorld_at_new] at this
   have h2 : (Lib.bytesCells w 5 a0)[j]? = some (.int .u8 ((a0.data.toList.getD j 0).toNat : Int)) := by simpa using this
   rw [h2, List.getD_eq_getElem?_getD, get!_data a0 j hj]
   simp [Yln]
  have hbel : Below w.heap.size w (Lib.bytesWorld w 5 a0) := ⟨rfl, rfl, rfl, by rw [Lib.bytesWorld_size]; omega, fun i hi => Lib.bytesWorld_at_old w _ a0 i hi⟩
  obtain ⟨C, hC⟩ : ∃ C, C = grownCap w a0.size 0 5 := ⟨_, rfl⟩
  obtain ⟨W0, hW0⟩ : ∃ W0, W0 = Lib.bytesWorld w 5 a0 := ⟨_, rfl⟩
  rw [← hC, ← hW0] at hcv
  rw [← hW0] at hrow hbel
  have HR := Ya.mk hrow
  have HB0 := Ya.mk hbel
  clear hC hW0 hrow hbel
  go_enter Tryz.func52, Tryz.ntmps52
  go_wp2
  go_loopg [4, 5, 10] a0.size (fun g _ _ v10 wx => ∃ (i : Nat), i + g ≤ a0.size ∧ a0.size ≤ i + g ∧ v10 = .int .i64 (i : Int) ∧ Ya (LowRow a0 w.heap.size i wx) ∧ Ya (Below w.heap.size w wx))
  case atStart => exact ⟨0, Zk, Zk, rfl, HR, HB0⟩
  case round =>
   clear hcv
   obtain ⟨i, hi1, kY, rfl, HI, HB⟩ := hrel
   cases gk with
   | zero =>
    obtain rfl : i = a0.size := by omega
    have hlt : decide ((a0.size : Int) < (a0.size : Int)) = false := Ks Zk
    have hsl : (lowL a0.data.toList).length = a0.size := by unfold lowL; rw [List.length_map, ← Lib.size_eq]
    have bU := run_convert_bytes_back (P := Tryz.prog) wr 62 9 5 ⟨w.heap.size, 0, none⟩ C (lowL a0.data.toList) Tryz.underlying62 Tryz.underlying5 Tryz.underlying9
     (fun j hj => by
      rw [hsl] at hj
      have : (Addr.add ⟨w.heap.size, 0, none⟩ j) = ⟨w.heap.size, j, none⟩ := by unfold Addr.add; split <;> simp_all
      rw [this, (HI.out.cell j hj).1]
      have hg := get!_data a0 j hj
      rw [List.getElem?_eq_getElem (by rw [← Lib.size_eq]; exact hj)] at hg
      simp [Yln, hj, lowL, Option.some.inj hg])
    rw [hsl] at bU
    have HX := Ya.mk hsl
    clear hsl
    go_wp2
    go_ret
    exact ⟨rfl, HB.out⟩
   | succ g =>
    have hi : i < a0.size := by omega
    have hlt : decide ((i : Int) < (a0.size : Int)) = true := Kr Zk
    obtain ⟨hc, hfz⟩ := HI.out.cell i hi
    rw [show Yln a0 i i = a0.get! i by simp [Yln]] at hc
    obtain ⟨b, hb⟩ : ∃ b, b = a0.get! i := ⟨_, rfl⟩
    have HS := Ya.mk (HI.out.step hi)
    rw [← hb] at hc HS
    have HF := Ya.mk (low_f b)
    have lM := Ya.mk (HE.out.below HB.out)
    clear hb
    go_wp2_with (go_at_call 91; refine (Yxg.calls (b.toNat : Int) _ _ lM.out HF.out).mono ?_; rintro e w2 ⟨rfl, ⟨n, rfl⟩⟩)
    go_roundg g
    case measure => omega
    case rel => exact ⟨i + 1, Zk, Zk, by go_num, ⟨LowRow.below HS.out (Yb (Below.refl _ _) n)⟩, ⟨Yg (Yb HB.out n) (Kw _)⟩⟩
 ·rw [if_neg hs] at h; cases h
end Go.Proofs.YtnmglnglbdpjjaaGreatDoor.X
end
end
section
section
namespace Go.Proofs.YtnmglnglbdpjjaaGreatDoor.X
open Go.RowKit Go.Lib Go.Shelf Go.Yw.PrintWords Go.Yw.PrintLast Go.Yw.PrintMore
set_option maxHeartbeats 8000000
set_option maxRecDepth 100000
def hexV (b : UInt8) : Nat := if Ygd b then b.toNat - 48 else if decide (97 ≤ (lowB b).toNat) && decide ((lowB b).toNat ≤ 102) then (lowB b).toNat - 87 else 16
def Ynb : List UInt8 → List UInt8
 | [] => []
 | [c] => [c]
 | [c, d] => [c, d]
 | c :: a :: b :: t => if c = 37 ∧ hexV a < 16 ∧ hexV b < 16 then UInt8.ofNat (hexV a * 16 + hexV b) :: Ynb t else c :: Ynb (a :: b :: t)
theorem Yuo (b : UInt8) : Ygg.f (b.toNat : Int) = if hexV b < 16 then some ((hexV b : Int), true) else some (0, false) := by
 revert b; exact Yad Zma
theorem or16 (x y : Fin 16) : Go.bits .or .u32 ((((x.val : Nat) : Int) * 16) % 4294967296) ((y.val : Nat) : Int) = (((x.val * 16 + y.val : Nat)) : Int) := by
 revert x y; decide +kernel
theorem or0 (y : Fin 16) : Go.bits .or .u32 ((0 * 16) % 4294967296) ((y.val : Nat) : Int) = ((y.val : Nat) : Int) := by
 revert y; decide +kernel
theorem Ytr (a b : UInt8) : bt ⟨#[a, b]⟩ 0 = (a.toNat : Int) := rfl
theorem bt_two1 (a b : UInt8) : bt ⟨#[a, b]⟩ 1 = (b.toNat : Int) := rfl
theorem hex_two (a b : UInt8) : Yed.f 3 ⟨#[a, b]⟩ = if hexV a < 16 ∧ hexV b < 16 then some (((hexV a * 16 + hexV b : Nat) : Int), 0) else some (0, 3) := by
 have hsz : ((⟨#[a, b]⟩ : Y).size : Int) = 2 := rfl
 have w0 : wrap64 (0 + 1) = 1 := by unfold wrap64; omega
 have w1 : wrap64 (1 + 1) = 2 := by unfold wrap64; omega
 have t0 : ((0 : Int) < 2) = True := by simp
 have t1 : ((1 : Int) < 2) = True := by simp
 have t2 : ((2 : Int) < 2) = False := by simp
 have z0 : ((0 : Int) ≤ 0) = True := by simp
 have z1 : ((0 : Int) ≤ 1) = True := by simp
 have tt : (true = true) = True := by simp
 have ff : (false = true) = False := by simp
 have m0 : ((0 : Int) / 268435456 != 0) = false := by decide
 unfold Yed.f
 rw [if_neg (by rw [Lib.toList_data]; simp), hsz]
 by_cases ha : hexV a < 16
 ·have o0 := or0 ⟨hexV a, ha⟩
  simp only at o0
  by_cases hb : hexV b < 16
  ·have o1 := or16 ⟨hexV a, ha⟩ ⟨hexV b, hb⟩
   simp only at o1
   have zP : ((hexV a : Int) / 268435456 != 0) = false := by
    have : (hexV a : Int) / 268435456 = 0 := by omega
    rw [this]; rfl
   simp only [Yed.l0, hsz, t0, t1, t2, z0, z1, tt, ff, if_true, if_false, Ytr, bt_two1, Yuo, ha, hb, Kfa, w0, w1, o0, o1, m0, zP, and_self]
  ·simp only [Yed.l0, hsz, t0, t1, z0, z1, tt, ff, if_true, if_false, Ytr, bt_two1, Yuo, ha, hb, Kfa, w0, o0, m0, and_false]
 ·simp only [Yed.l0, hsz, t0, z0, ff, if_true, if_false, Ytr, Yuo, ha, Kfa, false_and]
theorem Yrm (c : UInt8) (t : List UInt8) (h : c ≠ 37 ∨ t.length < 2) : Ynb (c :: t) = c :: Ynb t := by
 match t, h with
 | [], _ => rfl
 | [d], _ => rfl
 | a :: b :: t2, h =>
  rw [Ynb, if_neg]
  rintro ⟨h1, _⟩
  rcases h with h | h
  ·exact h h1
  ·simp only [List.length_cons] at h; omega
theorem Yfv (a b : UInt8) (t : List UInt8) (h : hexV a < 16 ∧ hexV b < 16) : Ynb (37 :: a :: b :: t) = UInt8.ofNat (hexV a * 16 + hexV b) :: Ynb t := by
 rw [Ynb, if_pos ⟨rfl, h⟩]
theorem Yxr (a b : UInt8) (t : List UInt8) (h : ¬ (hexV a < 16 ∧ hexV b < 16)) : Ynb (37 :: a :: b :: t) = 37 :: Ynb (a :: b :: t) := by
 rw [Ynb, if_neg (fun h2 => h h2.2)]
theorem data_cons (s : Y) (h : 0 < s.size) : s.data.toList = s.get! 0 :: (s.extract 1 s.size).data.toList := by
 rw [Lib.extract_to_end]
 have hg := get!_data s 0 h
 cases hl : s.data.toList with
 | nil => rw [hl] at hg; simp at hg
 | cons c t => rw [hl] at hg; simp at hg; rw [hg]; rfl
theorem toList_ne (s : Y) (h : 0 < s.size) : s.toList ≠ [] := by
 intro e
 have h2 := congrArg List.length e
 rw [Lib.toList_data, ← Lib.size_eq] at h2
 exact absurd h2 Zua
theorem Ymu (s : Y) (h : s.size = 0) : s.toList = [] := by
 apply List.eq_nil_of_length_eq_zero
 rw [Lib.toList_data, ← Lib.size_eq]; exact h
theorem Yts (s : Y) (h : 2 < s.size) : s.extract 1 3 = ⟨#[s.get! 1, s.get! 2]⟩ := by
 apply ByteArray.ext
 apply Array.ext'
 rw [Lib.extract_data]
 have h1 := get!_data s 1 Zk
 have h2 := get!_data s 2 h
 rw [List.drop_eq_getElem_cons Zcb, List.drop_eq_getElem_cons Zcb]
 rw [List.getElem?_eq_getElem Zcb] at h1 h2
 simp only [Kda] at h1 h2
 rw [h1, h2]; rfl
def Yce.f (a0 : Y) : Option Y := if a0.size ≤ 140737488351232 then some (ofL (Ynb a0.data.toList)) else none
theorem Yce.calls (a0 r : Y) (w : World) (hE : EnvOk w) (h : Yce.f a0 = some r) :
  Calls Tryz.prog 53 #[.string a0] w fun e w' => e = .returned (.string r) ∧ Below w.heap.size w w' := by
 unfold Yce.f at h
 by_cases hs : a0.size ≤ 140737488351232
 ·rw [if_pos hs] at h
  obtain rfl := Kv h
  have HE := Ya.mk hE
  clear hE h
  go_enter Tryz.func53, Tryz.ntmps53
  go_wp2
  go_loopg [0, 4, 5] a0.size (fun g v0 _ _ wx => ∃ (x : Y) (acc : List UInt8), v0 = .string x ∧ x.size ≤ g ∧ acc.length + x.size ≤ a0.size ∧ Ya (Yrj w.heap.size w.heap.size acc wx) ∧ Ya (acc ++ Ynb x.data.toList = Ynb a0.data.toList) ∧ Ya (Below w.heap.size w wx))
  case atStart => exact ⟨a0, [], rfl, Kw _, Zv, ⟨Ybs w⟩, ⟨rfl⟩, ⟨(Below.refl _ _).alloc (Kw _) _⟩⟩
  case round =>
   obtain ⟨x, acc, rfl, hxg, hacc, HI, HX, HB⟩ := hrel
   by_cases hx0 : x.size = 0
   ·have hn := Ymu x hx0
    have he1 : (x.toList == []) = true := beq_iff_eq.2 hn
    have he2 : x.toList.isEmpty = true := by rw [hn]; rfl
    have HN := Ya.mk (show x.data.toList = [] by rw [← Lib.toList_data]; exact hn)
    clear hn
    go_wp2_with fail
    refine (Ynl w.heap.size w.heap.size _ _ HI.out HB.out.size).mono ?_
    rintro e w2 ⟨rfl, bU⟩
    have eL := Ya.mk (HB.out.trans bU)
    clear bU
    go_wp2
    go_ret
    have hx := HX.out
    rw [HN.out, Ynb, List.append_nil] at hx
    exact ⟨by rw [hx]; rfl, eL.out⟩
   ·have h0 : 0 < x.size := by omega
    obtain ⟨g, rfl⟩ : ∃ g, gk = g + 1 := ⟨gk - 1, Zk⟩
    have hne := toList_ne x h0
    have he1 : (x.toList == []) = false := beq_eq_false_iff_ne.2 hne
    have he2 : x.toList.isEmpty = false := by cases h' : x.toList with | nil => exact absurd h' hne | cons _ _ => rfl
    have HD := Ya.mk (data_cons x h0)
    have hg := get!_at x 0 h0
    obtain ⟨c, hc⟩ : ∃ c, c = x.get! 0 := ⟨_, rfl⟩
    rw [← hc] at hg HD
    have hxc : (x[0]'h0).toNat = c.toNat := by rw [hg]
    have k1 : 1 ≤ x.size := h0
    have aAT : Ya ((x.extract 1 x.size).size = x.size - 1) := ⟨Zpa⟩
    clear hc hg hne
    by_cases hm : c.toNat = 37 ∧ 2 < x.size
    ·have hq : ((c.toNat : Int) == 37) = true := by rw [hm.1]; rfl
     have hl : decide ((2 : Int) < (x.size : Int)) = true := Kr Zk
     have aFy : Ya (c = 37) := ⟨UInt8.toNat_inj.1 hm.1⟩
     have HX2 := Ya.mk (Yts x hm.2)
     have sN : Ya (x.data.toList = 37 :: x.get! 1 :: x.get! 2 :: (x.extract 3 x.size).data.toList) := ⟨by
      rw [HD.out, aFy.out, Lib.extract_to_end, Lib.extract_to_end]
      have h1 := get!_data x 1 Zk
      have h2 := get!_data x 2 hm.2
      rw [List.drop_eq_getElem_cons Zcb, List.drop_eq_getElem_cons Zcb]
      rw [List.getElem?_eq_getElem Zcb] at h1 h2
      simp only [Kda] at h1 h2
      rw [h1, h2]⟩
     obtain ⟨a, ha⟩ : ∃ a, a = x.get! 1 := ⟨_, rfl⟩
     obtain ⟨b, hb⟩ : ∃ b, b = x.get! 2 := ⟨_, rfl⟩
     rw [← ha, ← hb] at HX2 sN
     have h3 : Ya ((x.extract 3 x.size).size = x.size - 3) := ⟨Zpa⟩
     have k3 : 3 ≤ x.size := hm.2
     have lM := Ya.mk (HE.out.below HB.out)
     have HF := Ya.mk (hex_two a b)
     clear hm ha hb
     by_cases hh : hexV a < 16 ∧ hexV b < 16
     ·have lO := Ya.mk (HF.out.trans (if_pos hh))
      have HU := Ya.mk (Yfv a b (x.extract 3 x.size).data.toList hh)
      have hv : Ya (((hexV a * 16 + hexV b : Nat) : Int) % 256 = ((UInt8.ofNat (hexV a * 16 + hexV b)).toNat : Int)) := ⟨by rw [UInt8.toNat_ofNat']; omega⟩
      obtain ⟨v, hve⟩ : ∃ v : Nat, v = hexV a * 16 + hexV b := ⟨_, rfl⟩
      rw [← hve] at lO HU hv
      clear hve hh HF
      go_wp2_with fail
      rw [HX2.out]
      refine (Yed.calls 3 ⟨#[a, b]⟩ (v : Int) 0 _ lM.out lO.out).mono ?_
      rintro e w2 ⟨rfl, ⟨n, rfl⟩⟩
      go_wp2_with fail
      rw [hv.out]
      refine (Yrh w.heap.size w.heap.size _ (UInt8.ofNat v) _ (Yej HI.out n) Zk (Yb HB.out n).size).mono ?_
      rintro e w3 ⟨rfl, pT, gN⟩
      have oE := Ya.mk pT
      have eF := Ya.mk ((Yb HB.out n).trans gN)
      clear pT gN
      go_wp2
      go_roundg g
      case measure => omega
      case rel => exact ⟨x.extract 3 x.size, acc ++ [UInt8.ofNat v], rfl, by have := h3.out; omega, by have := h3.out; simp; omega, oE, ⟨by rw [← HX.out, sN.out, HU.out]; simp⟩, eF⟩
     ·have lO := Ya.mk (HF.out.trans (if_neg hh))
      have HU := Ya.mk (Yxr a b (x.extract 3 x.size).data.toList hh)
      clear hh HF
      go_wp2_with fail
      rw [HX2.out]
      refine (Yed.calls 3 ⟨#[a, b]⟩ 0 3 _ lM.out lO.out).mono ?_
      rintro e w2 ⟨rfl, ⟨n, rfl⟩⟩
      go_wp2_with fail
      refine (Yrh w.heap.size w.heap.size _ c _ (Yej HI.out n) Zk (Yb HB.out n).size).mono ?_
      rintro e w3 ⟨rfl, pT, gN⟩
      have oE := Ya.mk pT
      have eF := Ya.mk ((Yb HB.out n).trans gN)
      clear pT gN
      go_wp2
      go_roundg g
      case measure => omega
      case rel =>
       refine ⟨x.extract 1 x.size, acc ++ [c], rfl, by have := aAT.out; omega, by have := aAT.out; simp; omega, oE, ⟨?_⟩, eF⟩
       rw [← HX.out]
       have h4 := HD.out
       rw [sN.out, aFy.out] at h4
       rw [sN.out, HU.out, aFy.out, List.append_assoc, ← (List.cons.inj h4).2]
       rfl
    ·have HU := Ya.mk (Yrm c (x.extract 1 x.size).data.toList (by
      by_cases hq : c.toNat = 37
      ·right; rw [← Lib.size_eq, aAT.out]; omega
      ·left; intro e; rw [e] at hq; exact hq rfl))
     have hcase : ((c.toNat : Int) == 37) = false ∨ (((c.toNat : Int) == 37) = true ∧ decide ((2 : Int) < (x.size : Int)) = false) := by
      by_cases hq : c.toNat = 37
      ·right; exact ⟨by rw [hq]; rfl, Ks Zk⟩
      ·left; exact beq_eq_false_iff_ne.2 Zk
     clear hm
     rcases hcase with hq | ⟨hq, hl⟩
     all_goals
      go_wp2_with fail
      refine (Yrh w.heap.size w.heap.size _ c _ HI.out Zk HB.out.size).mono ?_
      rintro e w3 ⟨rfl, pT, gN⟩
      have oE := Ya.mk pT
      have eF := Ya.mk (HB.out.trans gN)
      clear pT gN
      go_wp2
      go_roundg g
      case measure => omega
      case rel => exact ⟨x.extract 1 x.size, acc ++ [c], rfl, by have := aAT.out; omega, by have := aAT.out; simp; omega, oE, ⟨by rw [← HX.out, HD.out, HU.out]; simp⟩, eF⟩
 ·rw [if_neg hs] at h; cases h
end Go.Proofs.YtnmglnglbdpjjaaGreatDoor.X
end
section
end
end
