/- Texts of this seat's proof that belong together. -/
import Derived.Test.YtnmglnglbdpjjaaGreatDoorUkWords
import Derived.Test.YtnmglnglbdpjjaaGreatDoorUkZw
import Derived.Test.YtnmglnglbdpjjaaGreatDoorUkZz
import Derived.Test.YtnmglnglbdpjjaaGreatDoorUkCn
import Derived.Test.YtnmglnglbdpjjaaGreatDoorUkX21
import Derived.Test.YtnmglnglbdpjjaaGreatDoorUkX20
import Derived.Test.YtnmglnglbdpjjaaGreatDoorUkX12
import Derived.Test.YtnmglnglbdpjjaaGreatDoorUkH5
section
namespace Go.Proofs.YtnmglnglbdpjjaaGreatDoor.X
open Go.RowKit Go.Lib Go.Shelf Go.Yw.PrintWords Go.Yw.PrintLast Go.Yw.PrintMore
set_option linter.unusedVariables false
set_option linter.unusedSimpArgs false
def Yyp (u1 u2 : ByteArray) (u3 : Int) (u4 u5 u6 : ByteArray) (u7 u8 : Bool) (v1 v2 : ByteArray) (v3 : Int) (v4 v5 v6 : ByteArray) (v7 v8 : Bool) : Bool :=
 u1.toList == v1.toList && (u2.toList == v2.toList && (u3 == v3 && (u4.toList == v4.toList && (u5.toList == v5.toList && (u6.toList == v6.toList && (u7 == v7 && (u8 == v8)))))))
theorem Yai {α : Type} [BEq α] [LawfulBEq α] (a b : α) : (a == b) = (b == a) := by
 by_cases h : a = b
 ·rw [h]
 ·rw [beq_eq_false_iff_ne.2 h, beq_eq_false_iff_ne.2 (Ne.symm h)]
theorem Yzt (u1 u2 : ByteArray) (u3 : Int) (u4 u5 u6 : ByteArray) (u7 u8 : Bool) (v1 v2 : ByteArray) (v3 : Int) (v4 v5 v6 : ByteArray) (v7 v8 : Bool) : Yyp u1 u2 u3 u4 u5 u6 u7 u8 v1 v2 v3 v4 v5 v6 v7 v8 = Yyp v1 v2 v3 v4 v5 v6 v7 v8 u1 u2 u3 u4 u5 u6 u7 u8 := by
 unfold Yyp
 rw [Yai u1.toList, Yai u2.toList, Yai u3, Yai u4.toList, Yai u5.toList, Yai u6.toList, Yai u7, Yai u8]
theorem Ytg {a b : ByteArray} (h : a.toList = b.toList) : a = b := by
 rw [Lib.toList_data, Lib.toList_data] at h
 rw [← Yzi a, ← Yzi b, h]
theorem sameU_iff (u1 u2 : ByteArray) (u3 : Int) (u4 u5 u6 : ByteArray) (u7 u8 : Bool) (v1 v2 : ByteArray) (v3 : Int) (v4 v5 v6 : ByteArray) (v7 v8 : Bool) : Yyp u1 u2 u3 u4 u5 u6 u7 u8 v1 v2 v3 v4 v5 v6 v7 v8 = true ↔ (u1, u2, u3, u4, u5, u6, u7, u8) = (v1, v2, v3, v4, v5, v6, v7, v8) := by
 unfold Yyp
 simp only [Bool.and_eq_true, beq_iff_eq, Prod.mk.injEq]
 constructor
 ·rintro ⟨h1, h2, h3, h4, h5, h6, h7, h8⟩
  exact ⟨Ytg h1, Ytg h2, h3, Ytg h4, Ytg h5, Ytg h6, h7, h8⟩
 ·rintro ⟨rfl, rfl, rfl, rfl, rfl, rfl, rfl, rfl⟩
  exact ⟨rfl, rfl, rfl, rfl, rfl, rfl, rfl, rfl⟩
def mayE (u1 u2 : ByteArray) (u3 : Int) (u4 u5 u6 : ByteArray) (u7 u8 : Bool) (v : UrlE) : Bool :=
 if v.2.2.2.2.2.2.2.2 = 0 then Yyp u1 u2 u3 u4 u5 u6 u7 u8 v.1 v.2.1 v.2.2.1 v.2.2.2.1 v.2.2.2.2.1 v.2.2.2.2.2.1 v.2.2.2.2.2.2.1 v.2.2.2.2.2.2.2.1 else false
def mayB (u1 u2 : ByteArray) (u3 : Int) (u4 u5 u6 : ByteArray) (u7 u8 : Bool) : Bool := mayE u1 u2 u3 u4 u5 u6 u7 u8 (Ypg (Ykc u1 u2 u3 u4 u5 u6 u7 u8).data.toList)
theorem Yos (u1 u2 : ByteArray) (u3 : Int) (u4 u5 u6 : ByteArray) (u7 u8 : Bool) : mayB u1 u2 u3 u4 u5 u6 u7 u8 = true ↔ Ypg (Ykc u1 u2 u3 u4 u5 u6 u7 u8).data.toList = (u1, u2, u3, u4, u5, u6, u7, u8, 0) := by
 unfold mayB
 generalize Ypg (Ykc u1 u2 u3 u4 u5 u6 u7 u8).data.toList = v
 obtain ⟨v1, v2, v3, v4, v5, v6, v7, v8, v9⟩ := v
 unfold mayE
 simp only
 by_cases h9 : v9 = 0
 ·rw [if_pos h9, sameU_iff]
  simp only [Prod.mk.injEq]
  constructor
  ·rintro ⟨rfl, rfl, rfl, rfl, rfl, rfl, rfl, rfl⟩; exact ⟨rfl, rfl, rfl, rfl, rfl, rfl, rfl, rfl, h9⟩
  ·rintro ⟨rfl, rfl, rfl, rfl, rfl, rfl, rfl, rfl, _⟩; exact ⟨rfl, rfl, rfl, rfl, rfl, rfl, rfl, rfl⟩
 ·rw [if_neg h9]
  simp only [Prod.mk.injEq]
  constructor
  ·intro h; cases h
  ·rintro ⟨_, _, _, _, _, _, _, _, h⟩; exact absurd h h9
structure Room (u1 u2 : ByteArray) (u3 : Int) (u4 u5 u6 : ByteArray) : Prop where
 s1 : u1.size ≤ 1000000000000000
 s2 : u2.size ≤ 1000000000000000
 s4 : u4.size ≤ 1000000000000000
 s5 : u5.size ≤ 1000000000000000
 s6 : u6.size ≤ 1000000000000000
 p0 : -9223372036854775808 ≤ u3
 p1 : u3 ≤ 9223372036854775807
theorem room_of {u1 u2 : ByteArray} {u3 : Int} {u4 u5 u6 : ByteArray} (hw : (Lit.int .i64 u3).wf = true) (h : u1.size ≤ 140737488351232 ∧ u2.size ≤ 140737488351232 ∧ u4.size ≤ 140737488351232 ∧ u5.size ≤ 140737488351232 ∧ u6.size ≤ 140737488351232) : Room u1 u2 u3 u4 u5 u6 := by
 have e1 : IntKind.i64.min = -9223372036854775808 := by decide
 have e2 : IntKind.i64.max = 9223372036854775807 := by decide
 simp only [Lit.wf, Bool.and_eq_true, decide_eq_true_eq] at hw
 exact ⟨Zl, Zl, Zl, Zl, Zl, Zl, Zl⟩
theorem Yep {u1 u2 : ByteArray} {u3 : Int} {u4 u5 u6 : ByteArray} {u7 u8 : Bool} (h : Room u1 u2 u3 u4 u5 u6) (hz : (Ykc u1 u2 u3 u4 u5 u6 u7 u8).size ≤ 1000000) :
  EvR (fun k => Ynd.f k u1 u2 u3 u4 u5 u6 u7 u8) (mayB u1 u2 u3 u4 u5 u6 u7 u8) := by
 have h3 := Ypm u1 u2 u3 u4 u5 u6 u7 u8 h.s1 h.s2 h.s4 h.s5 h.s6 h.p0 h.p1
 have h5 := Yin (Ykc u1 u2 u3 u4 u5 u6 u7 u8) Zl
 unfold Ynd.f
 refine EvR.bind h3 (EvR.bind h5 (EvR.of fun k => ?_))
 unfold mayB mayE
 rw [Yzt]
 by_cases h0 : (Ypg (Ykc u1 u2 u3 u4 u5 u6 u7 u8).data.toList).2.2.2.2.2.2.2.2 = 0
 ·rw [if_pos h0, if_pos h0]; rfl
 ·rw [if_neg h0, if_neg h0]
theorem Ycm {u1 u2 : ByteArray} {u3 : Int} {u4 u5 u6 : ByteArray} {u7 u8 : Bool} (h : Room u1 u2 u3 u4 u5 u6) (hz : (Ykc u1 u2 u3 u4 u5 u6 u7 u8).size ≤ 1000000) :
  EvR (fun k => Yga.f k u1 u2 u3 u4 u5 u6 u7 u8) (mayB u1 u2 u3 u4 u5 u6 u7 u8) := by
 have h3 := Yth u1 u2 u3 u4 u5 u6 u7 u8 h.s1 h.s2 h.s4 h.s5 h.s6 h.p0 h.p1
 unfold Yga.f
 refine EvR.bind h3 (EvR.of fun k => ?_)
 unfold Yld.f
 rw [if_pos Zl, Option.bind_some]
 unfold mayB mayE
 by_cases h0 : (Ypg (Ykc u1 u2 u3 u4 u5 u6 u7 u8).data.toList).2.2.2.2.2.2.2.2 = 0
 ·rw [if_pos h0, if_pos h0]; rfl
 ·rw [if_neg h0, if_neg h0]
theorem Yji {u1 u2 : ByteArray} {u3 : Int} {u4 u5 u6 : ByteArray} {u7 u8 : Bool} (h : mayB u1 u2 u3 u4 u5 u6 u7 u8 = true) :
  ∃ sch host path query frag, u1 = ofL sch ∧ u2 = ofL host ∧ u4 = ofL path ∧ u5 = ofL query ∧ u6 = ofL frag ∧ Canon sch host u3 path query frag u7 u8 := by
 obtain ⟨host, r, hp⟩ := parsed_of ((Yos _ _ _ _ _ _ _ _).1 h)
 obtain ⟨sch, path, query, frag, h1, h2, h4, h5, h6, hc⟩ := canon_of hp
 exact ⟨sch, host, path, query, frag, h1, h2, h4, h5, h6, hc⟩
theorem Yom {sch host : List UInt8} {p : Int} {path query frag : List UInt8} {hq hf : Bool} (h : Canon sch host p path query frag hq hf) : mayB (ofL sch) (ofL host) p (ofL path) (ofL query) (ofL frag) hq hf = true := by
 rw [Yos, Ygl _ _ _ _ _ _ _ _ h.p0]
 exact round h
theorem Yzm {sch host : List UInt8} {p : Int} {path query frag : List UInt8} {hq hf : Bool} (h : Canon sch host p path query frag hq hf) :
  sch.length ≤ 2048 ∧ host.length ≤ 2048 ∧ path.length ≤ 2048 ∧ query.length ≤ 2048 ∧ frag.length ≤ 2048 := by
 have hz := h.size
 rw [Lib.size_eq, Ybg] at hz
 simp only [List.length_append, List.length_cons] at hz
 have hqi := h.queryIs
 have hfi := h.fragIs
 have e1 : query.length ≤ (Ywd query hq).length := by
  rcases hqi with ⟨rfl, _⟩ | ⟨rfl, rfl⟩
  ·simp [Ywd]
  ·simp
 have e2 : frag.length ≤ (Yyd frag hf).length := by
  rcases hfi with ⟨rfl, _⟩ | ⟨rfl, rfl⟩
  ·simp [Yyd]
  ·simp
 omega
def Ybp (b0 b1 : ByteArray) (b2 : Int) (b3 b4 : ByteArray) (b6 : Bool) : Nat → List UInt8 → UrlE
 | 0, _ => Yec 3
 | n + 1, s =>
  if (s.length : Int) > 2048 then Yec 5
  else if (Yse s).2.2 = true then
   (if lowL (Yse s).1 = lowL b0.data.toList ∧ Yeg (Yse s).2.1 = 0 then Ybp b0 b1 b2 b3 b4 b6 n (Yre (Yse s).2.1) else Ypg s)
  else if Yeg s = 2 then Ypg (b0.data.toList ++ 58 :: s)
  else Yvl (Yti b0 b1 b2 b3 b4 b6 s)
theorem cut_drop (l : List UInt8) (h : (Lib.cut l [58]).2.2 = true) : (Lib.cut l [58]).2.1.length < l.length := by
 unfold Lib.cut at h ⊢
 split at h
 ·next hi =>
  rw [if_pos hi]
  simp only [List.length_drop, List.length_cons, List.length_nil]
  have hlt : l ≠ [] := by
   rintro rfl
   revert hi; decide
  have := List.length_pos_iff.2 hlt
  omega
 ·cases h
theorem Yst (s : List UInt8) (h : (Yse s).2.2 = true) : (Yse s).2.1.length < s.length := by
 unfold Yse at h ⊢
 split
 ·next hc => exact cut_drop s hc.1
 ·next hc => rw [if_neg hc] at h; cases h
theorem Yku (s : List UInt8) : (Yse s).1.length ≤ s.length ∧ (Yse s).2.1.length ≤ s.length := by
 have := Ynl s [58]
 unfold Yse
 split
 ·exact this
 ·simp
theorem joinL0_f (b0 b1 : ByteArray) (b2 : Int) (b3 b4 b5 : ByteArray) (b6 b7 : Bool) (p0 : 0 ≤ b2) (p1 : b2 ≤ 65535) (s0 : b0.size ≤ 1000000) (s1 : b1.size ≤ 1000000) (s3 : b3.size ≤ 1000000) (s4 : b4.size ≤ 1000000) : ∀ (n : Nat) (s : ByteArray), s.size < n → s.size ≤ 1000000 →
  EvR (fun k => Ywa.l0 k s b0 b1 b2 b3 b4 b5 b6 b7) (Ybp b0 b1 b2 b3 b4 b6 n s.data.toList) := by
 intro n
 induction n with
 | zero => intro s h _; omega
 | succ n ih =>
  intro s hn hs
  have hlen : s.data.toList.length = s.size := (Lib.size_eq s).symm
  refine EvR.succ ?_
  unfold Ybp
  rw [hlen]
  by_cases hbig : (s.size : Int) > 2048
  ·rw [if_pos hbig]
   exact EvR.of fun k => by rw [Ywa.l0, if_pos hbig]; rfl
  ·rw [if_neg hbig]
   have hsch := schemeJ_f s Zl
   have hle := Yku s.data.toList
   rw [hlen] at hle
   obtain ⟨nm, hnm⟩ : ∃ x, x = (Yse s.data.toList).1 := ⟨_, rfl⟩
   obtain ⟨re, hre⟩ : ∃ x, x = (Yse s.data.toList).2.1 := ⟨_, rfl⟩
   have hlt := Yst s.data.toList
   cases hb : (Yse s.data.toList).2.2 with
   | true =>
    rw [hb] at hsch hlt
    rw [← hnm, ← hre] at hsch hle ⊢
    rw [← hre, hlen] at hlt
    have hlt := hlt rfl
    rw [if_pos rfl]
    refine EvR.congr (f := fun k => (Yja.f k s).bind fun dX => (if dX.2.2 = true then (Ywa.j1 k s dX.1 dX.2.1 dX.2.2 false b0 b1 b2 b3 b4 b5 b6 b7) else ((Yob.f k s).bind fun uX => (Ywa.j1 k s dX.1 dX.2.1 dX.2.2 (uX == 2) b0 b1 b2 b3 b4 b5 b6 b7)))) ?_ (fun k => by rw [Ywa.l0, if_neg hbig])
    refine EvR.bind hsch ?_
    simp only [if_true]
    refine EvR.succ ?_
    simp only [Ywa.j1, if_neg (show ¬ (false = true) by decide), if_true]
    have hsame := same_f (ofL nm) b0 Zha Zl
    rw [Ygb] at hsame
    rw [hsame]
    simp only [Option.bind_some]
    by_cases hc : lowL nm = lowL b0.data.toList
    ·simp only [decide_eq_true hc, if_true, hc, true_and]
     refine EvR.bind (Yln (ofL re) Zha) ?_
     rw [Ygb]
     refine EvR.succ ?_
     by_cases hz : Yeg re = 0
     ·rw [if_pos hz]
      have hcl : Yxd.f (ofL re) = some (ofL (Yre re)) := by unfold Yxd.f; rw [if_pos Zha, Ygb]
      have hcle := Yfl re
      have := ih (ofL (Yre re)) Zha Zha
      rw [Ygb] at this
      refine EvR.congr this (fun k => ?_)
      rw [Ywa.j2, if_neg (by rw [hz]; decide), hcl, Option.bind_some]
     ·rw [if_neg hz]
      refine EvR.congr (Yin s Zl) (fun k => ?_)
      rw [Ywa.j2, if_pos (decide_eq_true Zl)]
      cases Ysd.f k s <;> rfl
    ·rw [if_neg (fun h => hc h.1)]
     simp only [decide_eq_false hc, if_neg (show ¬ (false = true) by decide)]
     refine EvR.succ (EvR.congr (Yin s Zl) (fun k => ?_))
     rw [Ywa.j2, if_pos rfl]
     cases Ysd.f k s <;> rfl
   | false =>
    rw [hb] at hsch
    rw [if_neg (show ¬ (false = true) by decide)]
    refine EvR.congr (f := fun k => (Yja.f k s).bind fun dX => (if dX.2.2 = true then (Ywa.j1 k s dX.1 dX.2.1 dX.2.2 false b0 b1 b2 b3 b4 b5 b6 b7) else ((Yob.f k s).bind fun uX => (Ywa.j1 k s dX.1 dX.2.1 dX.2.2 (uX == 2) b0 b1 b2 b3 b4 b5 b6 b7)))) ?_ (fun k => by rw [Ywa.l0, if_neg hbig])
    refine EvR.bind hsch ?_
    simp only [if_neg (show ¬ (false = true) by decide)]
    refine EvR.bind (Yln s Zl) ?_
    refine EvR.succ ?_
    by_cases hz : Yeg s.data.toList = 2
    ·rw [if_pos hz]
     have h58 : (⟨#[58]⟩ : ByteArray).size = 1 := rfl
     have hx : (b0 ++ (⟨#[58]⟩ : ByteArray) ++ s).data.toList = b0.data.toList ++ 58 :: s.data.toList := by
      rw [Ymi, Ymi]; simp
     have hxs : (b0 ++ (⟨#[58]⟩ : ByteArray) ++ s).size ≤ 1000000000 := by simp only [ByteArray.size_append, h58]; omega
     have := Yin (b0 ++ (⟨#[58]⟩ : ByteArray) ++ s) hxs
     rw [hx] at this
     refine EvR.congr this (fun k => ?_)
     rw [Ywa.j1, if_pos (by rw [hz]; rfl), if_pos Zl, if_pos (by simp only [ByteArray.size_append, h58]; omega)]
     cases Ysd.f k (b0 ++ (⟨#[58]⟩ : ByteArray) ++ s) <;> rfl
    ·rw [if_neg hz]
     have hw : Yvf.f b0 b1 b2 b3 b4 b5 b6 b7 s = some (Yvl (Yti b0 b1 b2 b3 b4 b6 s.data.toList)) := by
      unfold Yvf.f; rw [if_pos ⟨⟨p0, p1⟩, ⟨s0, s1⟩, ⟨s3, s4⟩, hs⟩]
     refine EvR.of fun k => ?_
     rw [Ywa.j1, if_neg (by rw [beq_iff_eq]; omega), if_neg Zea, hw]
     rfl
def Ybm (b0 b1 : ByteArray) (b2 : Int) (b3 b4 b5 : ByteArray) (b6 b7 : Bool) (l : List UInt8) : UrlE :=
 if mayB b0 b1 b2 b3 b4 b5 b6 b7 = true then Ybp b0 b1 b2 b3 b4 b6 (l.length + 1) (Yre l) else Yec 1
theorem join_f {b0 b1 : ByteArray} {b2 : Int} {b3 b4 b5 : ByteArray} {b6 b7 : Bool} (h : Room b0 b1 b2 b3 b4 b5) (hz : (Ykc b0 b1 b2 b3 b4 b5 b6 b7).size ≤ 1000000) (s : ByteArray) (hs : s.size ≤ 1000000) :
  EvR (fun k => Ywa.f k b0 b1 b2 b3 b4 b5 b6 b7 s) (Ybm b0 b1 b2 b3 b4 b5 b6 b7 s.data.toList) := by
 unfold Ywa.f Ybm
 refine EvR.bind (Yep h hz) ?_
 cases hm : mayB b0 b1 b2 b3 b4 b5 b6 b7 with
 | true =>
  simp only [if_true]
  have hcl : Yxd.f s = some (ofL (Yre s.data.toList)) := by unfold Yxd.f; rw [if_pos Zl]
  have hcle := Yfl s.data.toList
  have hlen : s.data.toList.length = s.size := (Lib.size_eq s).symm
  obtain ⟨sch, host, path, query, frag, rfl, rfl, rfl, rfl, rfl, hc⟩ := Yji hm
  obtain ⟨z1, z2, z3, z4, z5⟩ := Yzm hc
  have := joinL0_f (ofL sch) (ofL host) b2 (ofL path) (ofL query) (ofL frag) b6 b7 hc.p0 hc.p1 Zha Zha Zha Zha (s.data.toList.length + 1) (ofL (Yre s.data.toList)) Zha Zha
  rw [Ygb] at this
  refine EvR.congr this (fun k => ?_)
  rw [hcl, Option.bind_some]
 | false =>
  simp only [if_neg (show ¬ (false = true) by decide)]
  exact EvR.of fun k => rfl
theorem far_f {u1 u2 : ByteArray} {u3 : Int} {u4 u5 u6 : ByteArray} {u7 u8 : Bool} (h : Room u1 u2 u3 u4 u5 u6) :
  EvR (fun k => Yra.f k u1 u2 u3 u4 u5 u6 u7 u8) (decide ((u1.size : Int) > 2200) || decide (((Ykc u1 u2 u3 u4 u5 u6 u7 u8).size : Int) > 2200)) := by
 have h3 := Yth u1 u2 u3 u4 u5 u6 u7 u8 h.s1 h.s2 h.s4 h.s5 h.s6 h.p0 h.p1
 have hl : ∀ s : ByteArray, Ylc.f s = some (decide ((s.size : Int) > 2200)) := fun s => rfl
 unfold Yra.f
 simp only [hl, Option.bind_some]
 cases hb : decide ((u1.size : Int) > 2200) with
 | true => exact EvR.of fun k => rfl
 | false =>
  simp only [if_neg (show ¬ (false = true) by decide), Bool.false_or]
  exact EvR.bind h3 (EvR.of fun k => rfl)
theorem key_f {u1 u2 : ByteArray} {u3 : Int} {u4 u5 u6 : ByteArray} {u7 u8 : Bool} (h : Room u1 u2 u3 u4 u5 u6) :
  EvR (fun k => Ynf.f k u1 u2 u3 u4 u5 u6 u7 u8) (Ykc u1 u2 u3 u4 u5 ⟨#[]⟩ u7 false) := by
 have hz : (⟨#[]⟩ : ByteArray).size = 0 := rfl
 have h3 := Ypm u1 u2 u3 u4 u5 ⟨#[]⟩ u7 false h.s1 h.s2 h.s4 h.s5 Zl h.p0 h.p1
 unfold Ynf.f Yoi.f
 simp only [Option.bind_some]
 exact EvR.bind h3 (EvR.of fun k => rfl)
end Go.Proofs.YtnmglnglbdpjjaaGreatDoor.X
end
section
section
namespace Go.Proofs.YtnmglnglbdpjjaaGreatDoor.X
open Go.RowKit Go.Lib Go.Shelf Go.Yw.PrintWords Go.Yw.PrintLast Go.Yw.PrintMore
set_option linter.unusedVariables false
set_option linter.unusedSimpArgs false
theorem eqSame (d : Nat) (w : World) (u1 u2 : ByteArray) (u3 : Int) (u4 u5 u6 : ByteArray) (u7 u8 : Bool) : (Op.equalIn (d + 2) 25 (.agg #[.string u1, .string u2, .int .i64 u3, .string u4, .string u5, .string u6, .bool u7, .bool u8]) (.agg #[.string u1, .string u2, .int .i64 u3, .string u4, .string u5, .string u6, .bool u7, .bool u8])).run Tryz.prog w = .ok true w := by
 rw [eqH25]
 simp only [beq_self_eq_true, Bool.and_self]
attribute [local go_sem high] eqSame
def Yts (k : Nat) : Prop :=
 Ywa.f k ⟨#[104, 116, 116, 112]⟩ ⟨#[97, 46, 98]⟩ 0 ⟨#[47, 99, 47, 100]⟩ ⟨#[101]⟩ ⟨#[]⟩ true false ⟨#[46, 46, 47, 102, 35, 103]⟩ = some (⟨#[104, 116, 116, 112]⟩, ⟨#[97, 46, 98]⟩, 0, ⟨#[47, 102]⟩, ⟨#[]⟩, ⟨#[103]⟩, false, true, 0) ∧
 Ynf.f k ⟨#[104, 116, 116, 112]⟩ ⟨#[97, 46, 98]⟩ 0 ⟨#[47, 102]⟩ ⟨#[]⟩ ⟨#[103]⟩ false true = some ⟨#[104, 116, 116, 112, 58, 47, 47, 97, 46, 98, 47, 102]⟩
set_option maxHeartbeats 8000000 in
set_option maxRecDepth 100000 in
theorem Ypr (k : Nat) (w : World) (hE : EnvOk w) (h : Yts k) :
  Calls Tryz.prog 32 #[] w fun e w' => e = .returned (.bool true) ∧ Below w.heap.size w w' := by
 have HE := Ya.mk hE
 have HP := Ya.mk h.1
 have HS := Ya.mk h.2
 clear hE h
 go_enter Tryz.func32, Tryz.ntmps32
 go_wp2_with fail
 refine (Yrh.calls _ _ _ _ _ _ _ _ _ HE.out rfl).mono ?_
 rintro e w1 ⟨rfl, lW⟩
 have iE := Ya.mk lW
 clear lW
 go_wp2_with fail
 refine (Ywa.calls k _ _ _ _ _ _ _ _ _ _ _ _ _ _ _ _ _ _ _ (HE.out.below iE.out) HP.out).mono ?_
 rintro e w2 ⟨rfl, cC⟩
 have eM := Ya.mk (iE.out.trans (cC.mono iE.out.size))
 clear cC iE
 have hbk := heap_alloc_new w2 (.cells (uc ⟨#[104, 116, 116, 112]⟩ ⟨#[97, 46, 98]⟩ 0 ⟨#[47, 102]⟩ ⟨#[]⟩ ⟨#[103]⟩ false true) 25)
 have eG := Ya.mk (eM.out.alloc eM.out.size (.cells (uc ⟨#[104, 116, 116, 112]⟩ ⟨#[97, 46, 98]⟩ 0 ⟨#[47, 102]⟩ ⟨#[]⟩ ⟨#[103]⟩ false true) 25))
 have bN := (Yf hbk 0).trans rfl
 have bM := (Yf hbk 1).trans rfl
 have bO := (Yf hbk 2).trans rfl
 have bS := (Yf hbk 3).trans rfl
 have bR := (Yf hbk 4).trans rfl
 have bQ := (Yf hbk 5).trans rfl
 have bT := (Yf hbk 6).trans rfl
 have bP := (Yf hbk 7).trans rfl
 clear hbk
 go_wp2_with fail
 refine (Ynf.calls k _ _ _ _ _ _ _ _ _ _ (HE.out.below eG.out) HS.out).mono ?_
 rintro e w3 ⟨rfl, gP⟩
 have dO := Ya.mk (eG.out.trans (gP.mono eG.out.size))
 clear gP
 go_wp2_with fail
 go_ret
 exact ⟨rfl, dO.out⟩
theorem alive5_60 : Yts 60 := ⟨Zi, Zi⟩
theorem Ydk (w : World) (hE : EnvOk w) : Calls Tryz.prog 32 #[] w fun e w' => e = .returned (.bool true) ∧ Below w.heap.size w w' := Ypr 60 w hE alive5_60
end Go.Proofs.YtnmglnglbdpjjaaGreatDoor.X
end
section
namespace Go.Proofs.YtnmglnglbdpjjaaGreatDoor.X
open Go.RowKit Go.Lib Go.Shelf Go.Yw.PrintWords Go.Yw.PrintLast Go.Yw.PrintMore
set_option linter.unusedVariables false
set_option linter.unusedSimpArgs false
theorem Yoq {sch host : List UInt8} {p : Int} {path query frag : List UInt8} {hq hf : Bool} (h : Canon sch host p path query frag hq hf) :
  Yse (Ype (ofL sch) (ofL host) p (ofL path) (ofL query) (ofL frag) hq hf).data.toList = (sch, 47 :: 47 :: (host ++ (Yme p ++ (path ++ (Ywd query hq ++ Yyd frag hf)))), true) := by
 rw [Ybg]
 unfold Yse
 rw [Ycr 58 sch _ (by rcases h.schIs with e | e <;> rw [e] <;> decide)]
 simp only []
 rcases h.schIs with e | e <;> subst e
 ·rw [if_pos Zia]
 ·rw [if_pos Zia]
theorem Yjo (l : List UInt8) : Yeg (47 :: 47 :: l) = 2 := by
 unfold Yeg
 rw [List.take_succ_cons, List.take_succ_cons]
 simp [Yrb]
theorem join_self {b1 b2 : ByteArray} {b3 : Int} {b4 b5 b6 : ByteArray} {b7 b8 : Bool} (hb : mayB b1 b2 b3 b4 b5 b6 b7 b8 = true) {sch host : List UInt8} {p : Int} {path query frag : List UInt8} {hq hf : Bool} (h : Canon sch host p path query frag hq hf) :
  Ybm b1 b2 b3 b4 b5 b6 b7 b8 (Ype (ofL sch) (ofL host) p (ofL path) (ofL query) (ofL frag) hq hf).data.toList = (ofL sch, ofL host, p, ofL path, ofL query, ofL frag, hq, hf, 0) := by
 have hcl := Ykj _ h.safe
 have hsz := h.size
 have hs := Yoq h
 unfold Ybm
 rw [if_pos hb, hcl]
 unfold Ybp
 rw [if_neg Zdb, hs, if_pos rfl, if_neg (fun hx => by have := hx.2; simp only [Yjo] at this; omega)]
 exact round h
theorem Yyn {sch host : List UInt8} {p : Int} {path query frag : List UInt8} {hq hf : Bool} : Ymg (Ype (ofL sch) (ofL host) p (ofL path) (ofL query) (ofL frag) hq hf) ↔ (∀ b ∈ sch ++ 58 :: 47 :: 47 :: (host ++ (Yme p ++ (path ++ (Ywd query hq ++ Yyd frag hf)))), Ydh b) := by
 unfold Ymg; rw [Ybg]
end Go.Proofs.YtnmglnglbdpjjaaGreatDoor.X
end
end
