/- Texts of this seat's proof that belong together. -/
import Derived.Test.YtfmjnmglagdcdaaGreatDoorCHWords
import Derived.Test.YtfmjnmglagdcdaaGreatDoorCHH1a
section
namespace Go.Proofs.YtfmjnmglagdcdaaGreatDoor.X
open Go.RowKit Go.Lib Go.Shelf Go.Yw.PrintWords Go.Yw.PrintLast Go.Yw.PrintMore
set_option linter.unusedVariables false
set_option linter.unusedSimpArgs false
def hexV (b : UInt8) : Nat := if Yic b then b.toNat - 48 else if decide (97 ≤ (lowB b).toNat) && decide ((lowB b).toNat ≤ 102) then (lowB b).toNat - 87 else 16
def Yna : List UInt8 → List UInt8
 | [] => []
 | [c] => [c]
 | [c, d] => [c, d]
 | c :: a :: b :: t => if c = 37 ∧ hexV a < 16 ∧ hexV b < 16 then UInt8.ofNat (hexV a * 16 + hexV b) :: Yna t else c :: Yna (a :: b :: t)
theorem Yhk (b : UInt8) : Yvc.f (b.toNat : Int) = if hexV b < 16 then some ((hexV b : Int), true) else some (0, false) := by
 revert b; exact Yub Zca
theorem or16 (x y : Fin 16) : Go.bits .or .u32 ((((x.val : Nat) : Int) * 16) % 4294967296) ((y.val : Nat) : Int) = (((x.val * 16 + y.val : Nat)) : Int) := by
 revert x y; decide +kernel
theorem or0 (y : Fin 16) : Go.bits .or .u32 ((0 * 16) % 4294967296) ((y.val : Nat) : Int) = ((y.val : Nat) : Int) := by
 revert y; decide +kernel
theorem Yam (a b : UInt8) : bt ⟨#[a, b]⟩ 0 = (a.toNat : Int) := rfl
theorem bt_two1 (a b : UInt8) : bt ⟨#[a, b]⟩ 1 = (b.toNat : Int) := rfl
theorem hex_two (a b : UInt8) : Ywa.f 3 ⟨#[a, b]⟩ = if hexV a < 16 ∧ hexV b < 16 then some (((hexV a * 16 + hexV b : Nat) : Int), 0) else some (0, 3) := by
 have hsz : ((⟨#[a, b]⟩ : ByteArray).size : Int) = 2 := rfl
 have w0 : wrap64 (0 + 1) = 1 := by unfold wrap64; omega
 have w1 : wrap64 (1 + 1) = 2 := by unfold wrap64; omega
 have t0 : ((0 : Int) < 2) = True := by simp
 have t1 : ((1 : Int) < 2) = True := by simp
 have t2 : ((2 : Int) < 2) = False := by simp
 have z0 : ((0 : Int) ≤ 0) = True := by simp
 have z1 : ((0 : Int) ≤ 1) = True := by simp
 have tt : (true = true) = True := by simp
 have ff : (false = true) = False := by simp
 have m0 : ((0 : Int) / 268435456 != 0) = false := by decide
 unfold Ywa.f
 rw [if_neg (by rw [Lib.toList_data]; simp), hsz]
 by_cases ha : hexV a < 16
 ·have o0 := or0 ⟨hexV a, ha⟩
  simp only at o0
  by_cases hb : hexV b < 16
  ·have o1 := or16 ⟨hexV a, ha⟩ ⟨hexV b, hb⟩
   simp only at o1
   have hm2 : ((hexV a : Int) / 268435456 != 0) = false := by
    have : (hexV a : Int) / 268435456 = 0 := by omega
    rw [this]; rfl
   simp only [Ywa.l0, hsz, t0, t1, t2, z0, z1, tt, ff, if_true, if_false, Yam, bt_two1, Yhk, ha, hb, Option.bind_some, w0, w1, o0, o1, m0, hm2, and_self]
  ·simp only [Ywa.l0, hsz, t0, t1, z0, z1, tt, ff, if_true, if_false, Yam, bt_two1, Yhk, ha, hb, Option.bind_some, w0, o0, m0, and_false]
 ·simp only [Ywa.l0, hsz, t0, z0, ff, if_true, if_false, Yam, Yhk, ha, Option.bind_some, false_and]
theorem Ywh (c : UInt8) (t : List UInt8) (h : c ≠ 37 ∨ t.length < 2) : Yna (c :: t) = c :: Yna t := by
 match t, h with
 | [], _ => rfl
 | [d], _ => rfl
 | a :: b :: t2, h =>
  rw [Yna, if_neg]
  rintro ⟨h1, _⟩
  rcases h with h | h
  ·exact h h1
  ·simp only [List.length_cons] at h; omega
theorem Ypo (a b : UInt8) (t : List UInt8) (h : hexV a < 16 ∧ hexV b < 16) : Yna (37 :: a :: b :: t) = UInt8.ofNat (hexV a * 16 + hexV b) :: Yna t := by
 rw [Yna, if_pos ⟨rfl, h⟩]
theorem Ydm (a b : UInt8) (t : List UInt8) (h : ¬ (hexV a < 16 ∧ hexV b < 16)) : Yna (37 :: a :: b :: t) = 37 :: Yna (a :: b :: t) := by
 rw [Yna, if_neg (fun h2 => h h2.2)]
theorem data_cons (s : ByteArray) (h : 0 < s.size) : s.data.toList = s.get! 0 :: (s.extract 1 s.size).data.toList := by
 rw [Lib.extract_to_end]
 have hg := get!_data s 0 h
 cases hl : s.data.toList with
 | nil => rw [hl] at hg; simp at hg
 | cons c t => rw [hl] at hg; simp at hg; rw [hg]; rfl
theorem toList_ne (s : ByteArray) (h : 0 < s.size) : s.toList ≠ [] := by
 intro e
 have h2 := congrArg List.length e
 rw [Lib.toList_data, ← Lib.size_eq] at h2
 exact absurd h2 (by simp only [List.length_nil]; omega)
theorem Yup (s : ByteArray) (h : s.size = 0) : s.toList = [] := by
 apply List.eq_nil_of_length_eq_zero
 rw [Lib.toList_data, ← Lib.size_eq]; exact h
theorem Ygn (s : ByteArray) (h : 2 < s.size) : s.extract 1 3 = ⟨#[s.get! 1, s.get! 2]⟩ := by
 apply ByteArray.ext
 apply Array.ext'
 rw [Lib.extract_data]
 have h1 := get!_data s 1 Zk
 have h2 := get!_data s 2 h
 rw [List.drop_eq_getElem_cons Zha, List.drop_eq_getElem_cons Zha]
 rw [List.getElem?_eq_getElem Zha] at h1 h2
 simp only [Option.some.injEq] at h1 h2
 rw [h1, h2]; rfl
def Yib.f (a0 : ByteArray) : Option ByteArray := if a0.size ≤ 140737488351232 then some (ofL (Yna a0.data.toList)) else none
set_option maxHeartbeats 8000000 in
set_option maxRecDepth 100000 in
theorem Yib.calls (a0 : ByteArray) (r : ByteArray) (w : World) (hE : EnvOk w) (h : Yib.f a0 = some r) :
  Calls Tryz.prog 102 #[.string a0] w fun e w' => e = .returned (.string r) ∧ Below w.heap.size w w' := by
 unfold Yib.f at h
 by_cases hs : a0.size ≤ 140737488351232
 ·rw [if_pos hs] at h
  obtain rfl := Option.some.inj h
  have HE := Ya.mk hE
  clear hE h
  go_enter Tryz.func102, Tryz.ntmps102
  go_wp2
  go_loopg [0, 4, 5] a0.size (fun g v0 _ _ wx => ∃ (x : ByteArray) (acc : List UInt8), v0 = .string x ∧ x.size ≤ g ∧ acc.length + x.size ≤ a0.size ∧ Ya (Ygg w.heap.size w.heap.size acc wx) ∧ Ya (acc ++ Yna x.data.toList = Yna a0.data.toList) ∧ Ya (Below w.heap.size w wx))
  case atStart => exact ⟨a0, [], rfl, Nat.le_refl _, Zy, ⟨Yzl w⟩, ⟨rfl⟩, ⟨(Below.refl _ _).alloc (Nat.le_refl _) _⟩⟩
  case round =>
   obtain ⟨x, acc, rfl, hxg, hacc, HI, HX, HB⟩ := hrel
   by_cases hx0 : x.size = 0
   ·have hn := Yup x hx0
    have he1 : (x.toList == []) = true := beq_iff_eq.2 hn
    have he2 : x.toList.isEmpty = true := by rw [hn]; rfl
    have HN := Ya.mk (show x.data.toList = [] by rw [← Lib.toList_data]; exact hn)
    clear hn
    go_wp2_with fail
    refine (Ysh w.heap.size w.heap.size _ _ HI.out HB.out.size).mono ?_
    rintro e w2 ⟨rfl, hb2⟩
    have HB2 := Ya.mk (HB.out.trans hb2)
    clear hb2
    go_wp2
    go_ret
    have hx := HX.out
    rw [HN.out, Yna, List.append_nil] at hx
    exact ⟨by rw [hx]; rfl, HB2.out⟩
   ·have h0 : 0 < x.size := by omega
    obtain ⟨g, rfl⟩ : ∃ g, gk = g + 1 := ⟨gk - 1, Zk⟩
    have hne := toList_ne x h0
    have he1 : (x.toList == []) = false := beq_eq_false_iff_ne.2 hne
    have he2 : x.toList.isEmpty = false := by cases h' : x.toList with | nil => exact absurd h' hne | cons _ _ => rfl
    have HD := Ya.mk (data_cons x h0)
    have hg := get!_at x 0 h0
    obtain ⟨c, hc⟩ : ∃ c, c = x.get! 0 := ⟨_, rfl⟩
    rw [← hc] at hg HD
    have hxc : (x[0]'h0).toNat = c.toNat := by rw [hg]
    have k1 : 1 ≤ x.size := h0
    have hex1 : Ya ((x.extract 1 x.size).size = x.size - 1) := ⟨Zla⟩
    clear hc hg hne
    by_cases hm : c.toNat = 37 ∧ 2 < x.size
    ·have hq : ((c.toNat : Int) == 37) = true := by rw [hm.1]; rfl
     have hl : decide ((2 : Int) < (x.size : Int)) = true := decide_eq_true Zk
     have hc37 : Ya (c = 37) := ⟨UInt8.toNat_inj.1 hm.1⟩
     have HX2 := Ya.mk (Ygn x hm.2)
     have HX3 : Ya (x.data.toList = 37 :: x.get! 1 :: x.get! 2 :: (x.extract 3 x.size).data.toList) := ⟨by
      rw [HD.out, hc37.out, Lib.extract_to_end, Lib.extract_to_end]
      have h1 := get!_data x 1 Zk
      have h2 := get!_data x 2 hm.2
      rw [List.drop_eq_getElem_cons Zha, List.drop_eq_getElem_cons Zha]
      rw [List.getElem?_eq_getElem Zha] at h1 h2
      simp only [Option.some.injEq] at h1 h2
      rw [h1, h2]⟩
     obtain ⟨a, ha⟩ : ∃ a, a = x.get! 1 := ⟨_, rfl⟩
     obtain ⟨b, hb⟩ : ∃ b, b = x.get! 2 := ⟨_, rfl⟩
     rw [← ha, ← hb] at HX2 HX3
     have h3 : Ya ((x.extract 3 x.size).size = x.size - 3) := ⟨Zla⟩
     have k3 : 3 ≤ x.size := hm.2
     have HE1 := Ya.mk (HE.out.below HB.out)
     have HF := Ya.mk (hex_two a b)
     clear hm ha hb
     by_cases hh : hexV a < 16 ∧ hexV b < 16
     ·have HF2 := Ya.mk (HF.out.trans (if_pos hh))
      have HU := Ya.mk (Ypo a b (x.extract 3 x.size).data.toList hh)
      have hv : Ya (((hexV a * 16 + hexV b : Nat) : Int) % 256 = ((UInt8.ofNat (hexV a * 16 + hexV b)).toNat : Int)) := ⟨by rw [UInt8.toNat_ofNat']; omega⟩
      obtain ⟨v, hve⟩ : ∃ v : Nat, v = hexV a * 16 + hexV b := ⟨_, rfl⟩
      rw [← hve] at HF2 HU hv
      clear hve hh HF
      go_wp2_with fail
      rw [HX2.out]
      refine (Ywa.calls 3 ⟨#[a, b]⟩ (v : Int) 0 _ HE1.out HF2.out).mono ?_
      rintro e w2 ⟨rfl, ⟨n, rfl⟩⟩
      go_wp2_with fail
      rw [hv.out]
      refine (Yzd w.heap.size w.heap.size _ (UInt8.ofNat v) _ (Yrf HI.out n) Zk (Yb HB.out n).size).mono ?_
      rintro e w3 ⟨rfl, hi3, hb3⟩
      have HI3 := Ya.mk hi3
      have HB3 := Ya.mk ((Yb HB.out n).trans hb3)
      clear hi3 hb3
      go_wp2
      go_roundg g
      case measure => omega
      case rel => exact ⟨x.extract 3 x.size, acc ++ [UInt8.ofNat v], rfl, by have := h3.out; omega, by have := h3.out; simp; omega, HI3, ⟨by rw [← HX.out, HX3.out, HU.out]; simp⟩, HB3⟩
     ·have HF2 := Ya.mk (HF.out.trans (if_neg hh))
      have HU := Ya.mk (Ydm a b (x.extract 3 x.size).data.toList hh)
      clear hh HF
      go_wp2_with fail
      rw [HX2.out]
      refine (Ywa.calls 3 ⟨#[a, b]⟩ 0 3 _ HE1.out HF2.out).mono ?_
      rintro e w2 ⟨rfl, ⟨n, rfl⟩⟩
      go_wp2_with fail
      refine (Yzd w.heap.size w.heap.size _ c _ (Yrf HI.out n) Zk (Yb HB.out n).size).mono ?_
      rintro e w3 ⟨rfl, hi3, hb3⟩
      have HI3 := Ya.mk hi3
      have HB3 := Ya.mk ((Yb HB.out n).trans hb3)
      clear hi3 hb3
      go_wp2
      go_roundg g
      case measure => omega
      case rel =>
       refine ⟨x.extract 1 x.size, acc ++ [c], rfl, by have := hex1.out; omega, by have := hex1.out; simp; omega, HI3, ⟨?_⟩, HB3⟩
       rw [← HX.out]
       have h4 := HD.out
       rw [HX3.out, hc37.out] at h4
       rw [HX3.out, HU.out, hc37.out, List.append_assoc, ← (List.cons.inj h4).2]
       rfl
    ·have HU := Ya.mk (Ywh c (x.extract 1 x.size).data.toList (by
      by_cases hq : c.toNat = 37
      ·right; rw [← Lib.size_eq, hex1.out]; omega
      ·left; intro e; rw [e] at hq; exact hq rfl))
     have hcase : ((c.toNat : Int) == 37) = false ∨ (((c.toNat : Int) == 37) = true ∧ decide ((2 : Int) < (x.size : Int)) = false) := by
      by_cases hq : c.toNat = 37
      ·right; exact ⟨by rw [hq]; rfl, decide_eq_false Zk⟩
      ·left; exact beq_eq_false_iff_ne.2 Zk
     clear hm
     rcases hcase with hq | ⟨hq, hl⟩
     all_goals
      go_wp2_with fail
      refine (Yzd w.heap.size w.heap.size _ c _ HI.out Zk HB.out.size).mono ?_
      rintro e w3 ⟨rfl, hi3, hb3⟩
      have HI3 := Ya.mk hi3
      have HB3 := Ya.mk (HB.out.trans hb3)
      clear hi3 hb3
      go_wp2
      go_roundg g
      case measure => omega
      case rel => exact ⟨x.extract 1 x.size, acc ++ [c], rfl, by have := hex1.out; omega, by have := hex1.out; simp; omega, HI3, ⟨by rw [← HX.out, HD.out, HU.out]; simp⟩, HB3⟩
 ·rw [if_neg hs] at h; cases h
end Go.Proofs.YtfmjnmglagdcdaaGreatDoor.X
end
section

end
