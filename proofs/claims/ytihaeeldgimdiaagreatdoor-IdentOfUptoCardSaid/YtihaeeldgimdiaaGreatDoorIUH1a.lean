import Derived.Test.YtihaeeldgimdiaaGreatDoorIUX4
set_option linter.all false
section
namespace Go.Proofs.YtihaeeldgimdiaaGreatDoor.X
open Go.RowKit Go.Lib Go.Shelf Go.Yw.PrintWords Go.Yw.PrintLast Go.Yw.PrintMore
set_option maxHeartbeats 8000000
set_option maxRecDepth 100000
def isUpperB (b : UInt8) : Bool := decide (65 ≤ b.toNat) && decide (b.toNat ≤ 90)
def lowB (b : UInt8) : UInt8 := if isUpperB b then b + 32 else b
def Yzc (b : UInt8) : Bool := isUpperB b || (decide (97 ≤ b.toNat) && decide (b.toNat ≤ 122))
def Ygd (b : UInt8) : Bool := decide (48 ≤ b.toNat) && decide (b.toNat ≤ 57)
def Ytk (b : UInt8) : Bool := Yzc b || Ygd b || b == 45 || b == 46 || b == 95 || b == 126
def hexB (n : Nat) : UInt8 := if n < 10 then UInt8.ofNat (48 + n) else UInt8.ofNat (55 + n)
theorem Yrd {p : UInt8 → Prop} (h : ∀ x : Fin 256, p (UInt8.ofNat x.val)) (b : UInt8) : p b := by
 have := h ⟨b.toNat, b.toNat_lt⟩
 simpa using this
theorem low_f (b : UInt8) : Ycg.f (b.toNat : Int) = some ((lowB b).toNat : Int) := by
 revert b; exact Yrd Zza
theorem plain_f (b : UInt8) : Yte.f (b.toNat : Int) = some (Ytk b) := by
 revert b; exact Yrd Zza
theorem Yfo (b : UInt8) : Yib.f (b.toNat : Int) = some (Yzc b) := by
 revert b; exact Yrd Zza
theorem Ybk (b : UInt8) : Ysa.f (b.toNat : Int) = some (Ygd b) := by
 revert b; exact Yrd Zza
theorem hex_hi (b : UInt8) : bt ⟨#[48, 49, 50, 51, 52, 53, 54, 55, 56, 57, 65, 66, 67, 68, 69, 70]⟩ ((b.toNat : Int) / 16) = ((hexB (b.toNat / 16)).toNat : Int) := by
 revert b; exact Yrd Zza
theorem hexAt (x : Fin 16) : ((⟨#[48, 49, 50, 51, 52, 53, 54, 55, 56, 57, 65, 66, 67, 68, 69, 70]⟩ : Y)[x.val]'x.isLt).toNat = (hexB x.val).toNat := by
 revert x; decide +kernel
theorem hexAt_lo (b : UInt8) {h : b.toNat % 16 < (⟨#[48, 49, 50, 51, 52, 53, 54, 55, 56, 57, 65, 66, 67, 68, 69, 70]⟩ : Y).size} : ((⟨#[48, 49, 50, 51, 52, 53, 54, 55, 56, 57, 65, 66, 67, 68, 69, 70]⟩ : Y)[b.toNat % 16]'h).toNat = (hexB (b.toNat % 16)).toNat :=
 hexAt ⟨b.toNat % 16, h⟩
theorem and15 (b : UInt8) : 0 ≤ Go.bits .and .u8 (b.toNat : Int) 15 ∧ Go.bits .and .u8 (b.toNat : Int) 15 < 16 := by
 revert b; exact Yrd Zza
def lowL (l : List UInt8) : List UInt8 := l.map lowB
def Ykf (free : List UInt8) (b : UInt8) : List UInt8 := if Ytk b || free.contains b then [b] else [37, hexB (b.toNat / 16), hexB (b.toNat % 16)]
def Yjk (free l : List UInt8) : List UInt8 := l.flatMap (Ykf free)
theorem Yfl (free : List UInt8) (b : UInt8) : (Ykf free b).length ≤ 3 := by unfold Ykf; split <;> simp
theorem markL_le (free l : List UInt8) : (Yjk free l).length ≤ 3 * l.length := by
 induction l with
 | nil => simp [Yjk]
 | cons b l ih =>
  have := Yfl free b
  simp only [Yjk, List.flatMap_cons, List.length_append, List.length_cons] at ih ⊢
  omega
theorem Ywo (s : Y) (i : Nat) (h : i < s.size) : s.data.toList.take (i + 1) = s.data.toList.take i ++ [s.get! i] := by
 rw [List.take_add_one, get!_data s i h]; rfl
theorem Ycj (l : List UInt8) (b : UInt8) : decide (Lib.indexByte l b ≥ 0) = l.contains b := (Lib.contains_iff_indexByte l b).symm
theorem Ypk (free l : List UInt8) (b : UInt8) : Yjk free (l ++ [b]) = Yjk free l ++ Ykf free b := by simp [Yjk]
theorem Ypi {B b : Nat} {l : List UInt8} {w : World} (h : Yxi B b l w) (n : Nat) : Yxi B b l (w.drewN n) := h.below (Yb (Below.refl _ _) n)
def Yke.f (a0 a1 : Y) : Option Y := if a0.size ≤ 4294967281 then some (ofL (Yjk a1.data.toList a0.data.toList)) else none
theorem Yke.calls (a0 a1 r : Y) (w : World) (hE : EnvOk w) (h : Yke.f a0 a1 = some r) :
  Calls Tryz.prog 111 #[.string a0, .string a1] w fun e w' => e = .returned (.string r) ∧ Below w.heap.size w w' := by
 unfold Yke.f at h
 by_cases hs : a0.size ≤ 4294967281
 ·rw [if_pos hs] at h
  obtain rfl := Kr h
  have HE := Ya.mk hE
  clear hE h
  go_enter Tryz.func111, Tryz.ntmps111
  go_wp2
  go_loopg [6, 7, 10] a0.size (fun g _ _ iS wx => ∃ (i : Nat), i + g ≤ a0.size ∧ a0.size ≤ i + g ∧ iS = .int .i64 (i : Int) ∧ Ya (Yxi w.heap.size w.heap.size (Yjk a1.data.toList (a0.data.toList.take i)) wx) ∧ Ya (Below w.heap.size w wx))
  case atStart => exact ⟨0, Zj, Zj, rfl, ⟨Yjq w⟩, ⟨(Below.refl _ _).alloc (Ks _) _⟩⟩
  case round =>
   obtain ⟨i, hi1, mX, rfl, HI, HB⟩ := hrel
   cases gk with
   | zero =>
    obtain rfl : i = a0.size := by omega
    go_wp2_with fail
    refine (Ywk w.heap.size w.heap.size _ _ HI.out HB.out.size).mono ?_
    rintro e w2 ⟨rfl, cJ⟩
    have fJ := Ya.mk (HB.out.trans cJ)
    clear cJ
    go_wp2
    go_ret
    exact ⟨by rw [List.take_of_length_le (by rw [← Lib.size_eq]; exact Ks _)]; rfl, fJ.out⟩
   | succ g =>
    have hi : i < a0.size := by omega
    have hlt : decide ((i : Int) < (a0.size : Int)) = true := Kn Zj
    have hg := get!_at a0 i hi
    have HT := Ya.mk (Ywo a0 i hi)
    have HL := Ya.mk (markL_le a1.data.toList (a0.data.toList.take i))
    have hle : Ya ((a0.data.toList.take i).length ≤ i) := ⟨List.length_take_le _ _⟩
    obtain ⟨b, hb⟩ : ∃ b, b = a0.get! i := ⟨_, rfl⟩
    rw [← hb] at hg HT
    have hx : (a0[i]'hi).toNat = b.toNat := by rw [hg]
    clear hb hg
    have mN := Ya.mk (HE.out.below HB.out)
    have HP := Ya.mk (plain_f b)
    have hbt := b.toNat_lt
    cases hp : Ytk b with
    | true =>
     rw [hp] at HP
     have HM := Ya.mk (show Ykf a1.data.toList b = [b] by simp [Ykf, hp])
     clear hp
     go_wp2_with fail
     refine (Yte.calls (b.toNat : Int) _ _ mN.out HP.out).mono ?_
     rintro e w2 ⟨rfl, ⟨n, rfl⟩⟩
     go_wp2_with fail
     refine (Yrg w.heap.size w.heap.size _ b _ (Ypi HI.out n) Zob (Yb HB.out n).size).mono ?_
     rintro e w3 ⟨rfl, pJ, gR⟩
     have nY := Ya.mk pJ
     have cZ := Ya.mk ((Yb HB.out n).trans gR)
     clear pJ gR
     go_wp2
     go_roundg g
     case measure => omega
     case rel => exact ⟨i + 1, Zj, Zj, by go_num, ⟨by rw [HT.out, Ypk, HM.out]; exact nY.out⟩, cZ⟩
    | false =>
     rw [hp] at HP
     have HX := Ya.mk (Ycj a1.data.toList b)
     have hback : ((b.toNat : Int)).toNat.toUInt8 = b := by simp
     have HBk := Ya.mk hback
     clear hback
     have tX := Ya.mk (HE.out)
     cases hc : a1.data.toList.contains b with
     | true =>
      rw [hc] at HX
      have HM := Ya.mk (show Ykf a1.data.toList b = [b] by unfold Ykf; rw [hp, hc]; rfl)
      clear hp hc
      go_wp2_with fail
      refine (Yte.calls (b.toNat : Int) _ _ mN.out HP.out).mono ?_
      rintro e w2 ⟨rfl, ⟨n, rfl⟩⟩
      go_wp2_with fail
      refine (Tryz.strings_IndexByte _ _ _).mono ?_
      rintro e w2 ⟨rfl, sL⟩
      rw [sL, HBk.out]
      clear sL
      have uN : decide (0 ≤ Lib.indexByte a1.data.toList b) = true := HX.out
      go_wp2_with fail
      refine (Yrg w.heap.size w.heap.size _ b _ (Ypi HI.out n) Zob (Yb HB.out n).size).mono ?_
      rintro e w3 ⟨rfl, pJ, gR⟩
      have nY := Ya.mk pJ
      have cZ := Ya.mk ((Yb HB.out n).trans gR)
      clear pJ gR
      go_wp2
      go_roundg g
      case measure => omega
      case rel => exact ⟨i + 1, Zj, Zj, by go_num, ⟨by rw [HT.out, Ypk, HM.out]; exact nY.out⟩, cZ⟩
     | false =>
      rw [hc] at HX
      have HM := Ya.mk (show Ykf a1.data.toList b = [37, hexB (b.toNat / 16), hexB (b.toNat % 16)] by unfold Ykf; rw [hp, hc]; rfl)
      clear hp hc
      go_wp2_with fail
      refine (Yte.calls (b.toNat : Int) _ _ mN.out HP.out).mono ?_
      rintro e w2 ⟨rfl, ⟨n, rfl⟩⟩
      go_wp2_with fail
      refine (Tryz.strings_IndexByte _ _ _).mono ?_
      rintro e w2 ⟨rfl, sL⟩
      rw [sL, HBk.out]
      clear sL
      have uN : decide (0 ≤ Lib.indexByte a1.data.toList b) = false := HX.out
      go_wp2_with fail
      refine (Yrg w.heap.size w.heap.size _ 37 _ (Ypi HI.out n) Zob (Yb HB.out n).size).mono ?_
      rintro e w3 ⟨rfl, pJ, gR⟩
      have nY := Ya.mk pJ
      have cZ := Ya.mk ((Yb HB.out n).trans gR)
      clear pJ gR
      have k1 : (0 : Int) ≤ (b.toNat : Int) / 16 := by omega
      have k2 : (b.toNat : Int) / 16 < ((16 : Nat) : Int) := by omega
      have kA := Ypa ⟨#[48, 49, 50, 51, 52, 53, 54, 55, 56, 57, 65, 66, 67, 68, 69, 70]⟩ ((b.toNat : Int) / 16)
      have HH := Ya.mk (hex_hi b)
      go_wp2_with fail
      rw [HH.out]
      refine (Yrg w.heap.size w.heap.size _ (hexB (b.toNat / 16)) _ nY.out (by have := HL.out; have := hle.out; rw [List.length_append]; show _ + 1 + 1 ≤ _; omega) cZ.out.size).mono ?_
      rintro e w4 ⟨rfl, hi4, lY⟩
      have vJ := Ya.mk hi4
      have cU := Ya.mk (cZ.out.trans lY)
      clear hi4 lY k1 k2 kA
      obtain ⟨k3, k4⟩ := and15 b
      go_wp2_with fail
      rw [hexAt_lo b]
      refine (Yrg w.heap.size w.heap.size _ (hexB (b.toNat % 16)) _ vJ.out (by have := HL.out; have := hle.out; rw [List.length_append, List.length_append]; show _ + 1 + 1 + 1 ≤ _; omega) cU.out.size).mono ?_
      rintro e w5 ⟨rfl, hi5, zX⟩
      have nZ := Ya.mk hi5
      have cH := Ya.mk (cU.out.trans zX)
      clear hi5 zX k3 k4
      go_wp2
      go_roundg g
      case measure => omega
      case rel => exact ⟨i + 1, Zj, Zj, by go_num, ⟨by rw [HT.out, Ypk, HM.out]; simpa [Yxi, List.append_assoc] using nZ.out⟩, cH⟩
 ·rw [if_neg hs] at h; cases h
end Go.Proofs.YtihaeeldgimdiaaGreatDoor.X
end
section
namespace Go.Proofs.YtihaeeldgimdiaaGreatDoor.X
open Go.RowKit Go.Lib Go.Shelf Go.Yw.PrintWords Go.Yw.PrintLast Go.Yw.PrintMore
set_option maxHeartbeats 8000000
set_option maxRecDepth 100000
def Yjm (s : Y) (i j : Nat) : UInt8 := if j < i then lowB (s.get! j) else s.get! j
def LowRow (s : Y) (b i : Nat) (w : World) : Prop :=
 ∃ (cs : Array Value) (N : Nat), w.heap[b]? = some (.cells cs 5 (N, N + 1)) ∧ cs.size = N ∧ s.size ≤ N ∧ ∀ j, j < s.size → cs[j]? = some (.int .u8 ((Yjm s i j).toNat : Int))
theorem LowRow.cell {s : Y} {b i : Nat} {w : World} (h : LowRow s b i w) (j : Nat) (hj : j < s.size) : w.cell? ⟨b, j, none⟩ = some (.int .u8 ((Yjm s i j).toNat : Int)) ∧ w.frozen? ⟨b, j, none⟩ = false := by
 obtain ⟨cs, N, hb, hN, hs, hc⟩ := h
 refine ⟨?_, ?_⟩
 ·unfold World.cell?; rw [hb]; simpa using hc j hj
 ·unfold World.frozen?; rw [hb]; simp; omega
theorem LowRow.step {s : Y} {b i : Nat} {w : World} (h : LowRow s b i w) (hi : i < s.size) : LowRow s b (i + 1) (w.setCell ⟨b, i, none⟩ (.int .u8 ((lowB (s.get! i)).toNat : Int))) := by
 obtain ⟨cs, N, hb, hN, hs, hc⟩ := h
 refine ⟨cs.setIfInBounds i (.int .u8 ((lowB (s.get! i)).toNat : Int)), N, ?_, by simp [hN], hs, fun j hj => ?_⟩
 ·have hlt := (Array.getElem?_eq_some_iff.1 hb).1
  have hv := (Array.getElem?_eq_some_iff.1 hb).2
  unfold World.setCell
  simp only [Option.isSome_none]
  rw [Array.getElem?_eq_getElem (by simpa using hlt), Array.getElem_modify_self, hv]
  rfl
 ·by_cases he : j = i
  ·subst he
   rw [Array.getElem?_setIfInBounds_self_of_lt Zj]
   simp [Yjm]
  ·rw [Array.getElem?_setIfInBounds_ne Zj, hc j hj]
   unfold Yjm
   by_cases h1 : j < i
   ·rw [if_pos h1, if_pos Zj]
   ·rw [if_neg h1, if_neg Zj]
theorem LowRow.below {s : Y} {b i : Nat} {w w' : World} (h : LowRow s b i w) (hb : Below w.heap.size w w') : LowRow s b i w' := by
 obtain ⟨cs, N, h1, r⟩ := h
 exact ⟨cs, N, by rw [hb.block _ (Array.getElem?_eq_some_iff.1 h1).1]; exact h1, r⟩
def Ycc.f (a0 : Y) : Option Y := if a0.size ≤ 140737488351232 then some (ofL (lowL a0.data.toList)) else none
theorem Ycc.calls (a0 r : Y) (w : World) (hE : EnvOk w) (h : Ycc.f a0 = some r) :
  Calls Tryz.prog 70 #[.string a0] w fun e w' => e = .returned (.string r) ∧ Below w.heap.size w w' := by
 unfold Ycc.f at h
 by_cases hs : a0.size ≤ 140737488351232
 ·rw [if_pos hs] at h
  obtain rfl := Kr h
  have HE := Ya.mk hE
  clear hE h
  have hcv := Lib.run_convert_string_bytes (P := Tryz.prog) w 9 67 5 a0 Tryz.underlying9 Tryz.underlying67 Tryz.underlying5
  have hrow : LowRow a0 w.heap.size 0 (Lib.bytesWorld w 5 a0) := by
   refine ⟨_, _, Lib.bytesWorld_at_new w 5 a0, rfl, by simp [Lib.bytesCells], fun j hj => ?_⟩
   have := Lib.bytesWorld_cell w 5 a0 j hj
   unfold World.cell? at this
   rw [Lib.bytesWorld_at_new] at this
   have h2 : (Lib.bytesCells w 5 a0)[j]? = some (.int .u8 ((a0.data.toList.getD j 0).toNat : Int)) := by simpa using this
   rw [h2, List.getD_eq_getElem?_getD, get!_data a0 j hj]
   simp [Yjm]
  have hbel : Below w.heap.size w (Lib.bytesWorld w 5 a0) := ⟨rfl, rfl, rfl, by rw [Lib.bytesWorld_size]; omega, fun i hi => Lib.bytesWorld_at_old w _ a0 i hi⟩
  obtain ⟨C, hC⟩ : ∃ C, C = grownCap w a0.size 0 5 := ⟨_, rfl⟩
  obtain ⟨W0, hW0⟩ : ∃ W0, W0 = Lib.bytesWorld w 5 a0 := ⟨_, rfl⟩
  rw [← hC, ← hW0] at hcv
  rw [← hW0] at hrow hbel
  have HR := Ya.mk hrow
  have jT := Ya.mk hbel
  clear hC hW0 hrow hbel
  go_enter Tryz.func70, Tryz.ntmps70
  go_wp2
  go_loopg [4, 5, 10] a0.size (fun g _ _ iS wx => ∃ (i : Nat), i + g ≤ a0.size ∧ a0.size ≤ i + g ∧ iS = .int .i64 (i : Int) ∧ Ya (LowRow a0 w.heap.size i wx) ∧ Ya (Below w.heap.size w wx))
  case atStart => exact ⟨0, Zj, Zj, rfl, HR, jT⟩
  case round =>
   clear hcv
   obtain ⟨i, hi1, mX, rfl, HI, HB⟩ := hrel
   cases gk with
   | zero =>
    obtain rfl : i = a0.size := by omega
    have hlt : decide ((a0.size : Int) < (a0.size : Int)) = false := Ko Zj
    have hsl : (lowL a0.data.toList).length = a0.size := by unfold lowL; rw [List.length_map, ← Lib.size_eq]
    have cJ := run_convert_bytes_back (P := Tryz.prog) wr 67 9 5 ⟨w.heap.size, 0, none⟩ C (lowL a0.data.toList) Tryz.underlying67 Tryz.underlying5 Tryz.underlying9
     (fun j hj => by
      rw [hsl] at hj
      have : (Addr.add ⟨w.heap.size, 0, none⟩ j) = ⟨w.heap.size, j, none⟩ := by unfold Addr.add; split <;> simp_all
      rw [this, (HI.out.cell j hj).1]
      have hg := get!_data a0 j hj
      rw [List.getElem?_eq_getElem (by rw [← Lib.size_eq]; exact hj)] at hg
      simp [Yjm, hj, lowL, Option.some.inj hg])
    rw [hsl] at cJ
    have HX := Ya.mk hsl
    clear hsl
    go_wp2
    go_ret
    exact ⟨rfl, HB.out⟩
   | succ g =>
    have hi : i < a0.size := by omega
    have hlt : decide ((i : Int) < (a0.size : Int)) = true := Kn Zj
    obtain ⟨hc, hfz⟩ := HI.out.cell i hi
    rw [show Yjm a0 i i = a0.get! i by simp [Yjm]] at hc
    obtain ⟨b, hb⟩ : ∃ b, b = a0.get! i := ⟨_, rfl⟩
    have HS := Ya.mk (HI.out.step hi)
    rw [← hb] at hc HS
    have HF := Ya.mk (low_f b)
    have mN := Ya.mk (HE.out.below HB.out)
    clear hb
    go_wp2_with (go_at_call 95; refine (Ycg.calls (b.toNat : Int) _ _ mN.out HF.out).mono ?_; rintro e w2 ⟨rfl, ⟨n, rfl⟩⟩)
    go_roundg g
    case measure => omega
    case rel => exact ⟨i + 1, Zj, Zj, by go_num, ⟨LowRow.below HS.out (Yb (Below.refl _ _) n)⟩, ⟨Yg (Yb HB.out n) (Ks _)⟩⟩
 ·rw [if_neg hs] at h; cases h
end Go.Proofs.YtihaeeldgimdiaaGreatDoor.X
end
