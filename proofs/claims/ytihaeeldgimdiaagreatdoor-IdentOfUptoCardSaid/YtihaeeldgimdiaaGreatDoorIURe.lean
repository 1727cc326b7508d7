import Derived.Test.YtihaeeldgimdiaaGreatDoorIUIg
set_option linter.all false
namespace Go.Proofs.YtihaeeldgimdiaaGreatDoor.X
open Go.RowKit Go.Lib Go.Yw.PrintWords Go.Yw.PrintLast Go.Yw.PrintMore
def Yml (l : List UInt8) : Int × Int :=
 match l with
 | a :: 58 :: _ :: _ => if a = 117 ∨ a = 108 ∨ a = 104 then ((a.toNat : Int), 0) else (0, 6)
 | _ => (0, 6)
theorem ulh_f (a : UInt8) : ∃ r, strings_IndexByte.f (⟨#[117, 108, 104]⟩ : Y) (a.toNat : Int) = some r ∧ (r < 0 ↔ ¬ (a = 117 ∨ a = 108 ∨ a = 104)) := by
 unfold strings_IndexByte.f
 refine ⟨_, rfl, ?_⟩
 have e : ((a.toNat : Int)).toNat.toUInt8 = a := by rw [Int.toNat_natCast]; simp
 have e2 : (⟨#[117, 108, 104]⟩ : Y).data.toList = [117, 108, 104] := rfl
 rw [e, e2]
 by_cases h1 : a = 117
 ·subst h1; decide
 ·by_cases h2 : a = 108
  ·subst h2; decide
  ·by_cases h3 : a = 104
   ·subst h3; decide
   ·have hb : ∀ x y : UInt8, ¬ y = x → (x == y) = false := fun x y h => beq_eq_false_iff_ne.2 (fun e => h e.symm)
    simp [Lib.indexByte, hb _ _ h1, hb _ _ h2, hb _ _ h3, h1, h2, h3]
theorem bt0 (a : UInt8) (l : List UInt8) : bt (ofL (a :: l)) 0 = (a.toNat : Int) := by
 unfold bt
 rw [dif_pos (by rw [Yfa]; simp)]
 rfl
theorem bt1 (a b : UInt8) (l : List UInt8) : bt (ofL (a :: b :: l)) 1 = (b.toNat : Int) := by
 unfold bt
 rw [dif_pos (by rw [Yfa]; simp)]
 rfl
theorem u8_eq (a : UInt8) (n : Nat) (hn : n < 256) : ((a.toNat : Int) = (n : Int)) ↔ a = UInt8.ofNat n := by
 constructor
 ·intro h
  apply UInt8.toNat_inj.1
  rw [UInt8.toNat_ofNat']
  omega
 ·rintro rfl
  rw [UInt8.toNat_ofNat']
  omega
theorem rkind_f (l : List UInt8) : Yae.f (ofL l) = some (Yml l) := by
 unfold Yae.f
 rw [Yfa]
 match l with
 | [] => rfl
 | [a] => rw [if_pos Zq]; rfl
 | [a, b] =>
  rw [if_pos Zq]
  unfold Yml
  split
  ·next h => simp at h
  ·rfl
 | a :: b :: c :: r =>
  rw [if_neg Zfb, if_pos Zfb, bt1, bt0]
  by_cases hb : b = 58
  ·subst hb
   rw [if_pos (show ((UInt8.toNat 58 : Nat) : Int) = 58 from rfl), if_pos Zfb]
   have e1 : ((a.toNat : Int) = 117) ↔ a = 117 := u8_eq a 117 Zw
   have e2 : ((a.toNat : Int) = 108) ↔ a = 108 := u8_eq a 108 Zw
   have e3 : ((a.toNat : Int) = 104) ↔ a = 104 := u8_eq a 104 Zw
   simp only [Yml]
   by_cases h1 : a = 117
   ·rw [if_pos (e1.2 h1), if_pos (.inl h1)]
   ·rw [if_neg (fun h => h1 (e1.1 h))]
    by_cases h2 : a = 108
    ·rw [if_pos (e2.2 h2), if_pos (.inr (.inl h2))]
    ·rw [if_neg (fun h => h2 (e2.1 h))]
     by_cases h3 : a = 104
     ·rw [if_pos (e3.2 h3), if_pos (.inr (.inr h3))]
     ·rw [if_neg (fun h => h3 (e3.1 h)), if_neg (by simp [h1, h2, h3])]
  ·have e1 : ((b.toNat : Int) = 58) ↔ b = 58 := u8_eq b 58 Zw
   rw [if_neg (fun h => hb (e1.1 h))]
   unfold Yml
   split
   ·next h => simp at h; exact absurd h.2.1 hb
   ·rfl
theorem pkind_f (l : List UInt8) (hz : l.length < 4294967281) : Yih.f (ofL l) = some (Yml l) := by
 unfold Yih.f strings_Cut.f
 rw [if_pos (by rw [Yfa]; exact hz)]
 have e58 : (⟨#[58]⟩ : Y).data.toList = [58] := rfl
 rw [e58, Ytb]
 simp only [Kba, Yfa]
 have hcut := Ymq 58 l
 match l with
 | [] => rfl
 | a :: r =>
  rw [hcut]
  by_cases ha : a = 58
  ·subst ha
   have h1 : (58 :: r : List UInt8).takeWhile (· != 58) = [] := by simp
   simp only [h1]
   rw [if_neg Zq]
   unfold Yml
   split
   ·next h =>
    simp only [List.cons.injEq] at h
    obtain ⟨rfl, _⟩ := h
    rw [if_neg Zw]
   ·rfl
  ·have hne : (a != 58) = true := bne_iff_ne.2 ha
   have h1 : (a :: r : List UInt8).takeWhile (· != 58) = a :: r.takeWhile (· != 58) := by rw [List.takeWhile_cons, if_pos hne]
   have h2 : (a :: r : List UInt8).dropWhile (· != 58) = r.dropWhile (· != 58) := by rw [List.dropWhile_cons, if_pos hne]
   simp only [h1, h2]
   match r with
   | [] =>
    simp only [List.takeWhile_nil, List.dropWhile_nil, List.drop_nil]
    rw [if_pos Zda, if_pos (by rw [Lib.toList_data, Ytb])]
    rfl
   | b :: r =>
    by_cases hb : b = 58
    ·subst hb
     have h3 : (58 :: r : List UInt8).takeWhile (· != 58) = [] := by simp
     have h4 : (58 :: r : List UInt8).dropWhile (· != 58) = 58 :: r := by simp
     simp only [h3, h4, List.drop_succ_cons, List.drop_zero]
     rw [if_pos Zda]
     match r with
     | [] =>
      rw [if_pos (by rw [Lib.toList_data, Ytb])]
      rfl
     | c :: r =>
      rw [if_neg (by rw [Lib.toList_data, Ytb]; simp), if_pos Zq, bt0]
      obtain ⟨q, hq, cP⟩ := ulh_f a
      rw [hq]
      simp only [Kba, Yml]
      by_cases hu : a = 117 ∨ a = 108 ∨ a = 104
      ·rw [if_neg (fun h => cP.1 h hu), if_pos hu]
      ·rw [if_pos (cP.2 hu), if_neg hu]
    ·have hnb : (b != 58) = true := bne_iff_ne.2 hb
     have h3 : (b :: r : List UInt8).takeWhile (· != 58) = b :: r.takeWhile (· != 58) := by rw [List.takeWhile_cons, if_pos hnb]
     simp only [h3]
     rw [if_neg Zfb]
     unfold Yml
     split
     ·next h =>
      simp only [List.cons.injEq] at h
      exact absurd h.2.1 hb
     ·rfl
end Go.Proofs.YtihaeeldgimdiaaGreatDoor.X
