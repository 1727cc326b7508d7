/- Texts of this seat's proof that belong together. -/
import Derived.Test.YtnmglnglbdpjjaaGreatDoorUlWords
import Derived.Test.YtnmglnglbdpjjaaGreatDoorUlZw
import Derived.Test.YtnmglnglbdpjjaaGreatDoorUlZz
import Derived.Test.YtnmglnglbdpjjaaGreatDoorUlCn
import Derived.Test.YtnmglnglbdpjjaaGreatDoorUlX21
import Derived.Test.YtnmglnglbdpjjaaGreatDoorUlX20
import Derived.Test.YtnmglnglbdpjjaaGreatDoorUlX12
import Derived.Test.YtnmglnglbdpjjaaGreatDoorUlH5
import Derived.Test.YtnmglnglbdpjjaaGreatDoorUlZt
section
namespace Go.Proofs.YtnmglnglbdpjjaaGreatDoor.X
open Go.RowKit Go.Lib Go.Shelf Go.Yw.PrintWords Go.Yw.PrintLast Go.Yw.PrintMore
set_option linter.unusedVariables false
set_option linter.unusedSimpArgs false
def Ydq (u1 u2 : ByteArray) (u3 : Int) (u4 u5 u6 : ByteArray) (u7 u8 : Bool) (v1 v2 : ByteArray) (v3 : Int) (v4 v5 v6 : ByteArray) (v7 v8 : Bool) : Bool :=
 u1.toList == v1.toList && (u2.toList == v2.toList && (u3 == v3 && (u4.toList == v4.toList && (u5.toList == v5.toList && (u6.toList == v6.toList && (u7 == v7 && (u8 == v8)))))))
theorem Yai {α : Type} [BEq α] [LawfulBEq α] (a b : α) : (a == b) = (b == a) := by
 by_cases h : a = b
 ·rw [h]
 ·rw [beq_eq_false_iff_ne.2 h, beq_eq_false_iff_ne.2 (Ne.symm h)]
theorem Yit (u1 u2 : ByteArray) (u3 : Int) (u4 u5 u6 : ByteArray) (u7 u8 : Bool) (v1 v2 : ByteArray) (v3 : Int) (v4 v5 v6 : ByteArray) (v7 v8 : Bool) : Ydq u1 u2 u3 u4 u5 u6 u7 u8 v1 v2 v3 v4 v5 v6 v7 v8 = Ydq v1 v2 v3 v4 v5 v6 v7 v8 u1 u2 u3 u4 u5 u6 u7 u8 := by
 unfold Ydq
 rw [Yai u1.toList, Yai u2.toList, Yai u3, Yai u4.toList, Yai u5.toList, Yai u6.toList, Yai u7, Yai u8]
theorem Yki {a b : ByteArray} (h : a.toList = b.toList) : a = b := by
 rw [Lib.toList_data, Lib.toList_data] at h
 rw [← Yci a, ← Yci b, h]
theorem sameU_iff (u1 u2 : ByteArray) (u3 : Int) (u4 u5 u6 : ByteArray) (u7 u8 : Bool) (v1 v2 : ByteArray) (v3 : Int) (v4 v5 v6 : ByteArray) (v7 v8 : Bool) : Ydq u1 u2 u3 u4 u5 u6 u7 u8 v1 v2 v3 v4 v5 v6 v7 v8 = true ↔ (u1, u2, u3, u4, u5, u6, u7, u8) = (v1, v2, v3, v4, v5, v6, v7, v8) := by
 unfold Ydq
 simp only [Bool.and_eq_true, beq_iff_eq, Prod.mk.injEq]
 constructor
 ·rintro ⟨h1, h2, h3, h4, h5, h6, h7, h8⟩
  exact ⟨Yki h1, Yki h2, h3, Yki h4, Yki h5, Yki h6, h7, h8⟩
 ·rintro ⟨rfl, rfl, rfl, rfl, rfl, rfl, rfl, rfl⟩
  exact ⟨rfl, rfl, rfl, rfl, rfl, rfl, rfl, rfl⟩
def mayE (u1 u2 : ByteArray) (u3 : Int) (u4 u5 u6 : ByteArray) (u7 u8 : Bool) (v : UrlE) : Bool :=
 if v.2.2.2.2.2.2.2.2 = 0 then Ydq u1 u2 u3 u4 u5 u6 u7 u8 v.1 v.2.1 v.2.2.1 v.2.2.2.1 v.2.2.2.2.1 v.2.2.2.2.2.1 v.2.2.2.2.2.2.1 v.2.2.2.2.2.2.2.1 else false
def mayB (u1 u2 : ByteArray) (u3 : Int) (u4 u5 u6 : ByteArray) (u7 u8 : Bool) : Bool := mayE u1 u2 u3 u4 u5 u6 u7 u8 (Yjg (Yre u1 u2 u3 u4 u5 u6 u7 u8).data.toList)
theorem Ytr (u1 u2 : ByteArray) (u3 : Int) (u4 u5 u6 : ByteArray) (u7 u8 : Bool) : mayB u1 u2 u3 u4 u5 u6 u7 u8 = true ↔ Yjg (Yre u1 u2 u3 u4 u5 u6 u7 u8).data.toList = (u1, u2, u3, u4, u5, u6, u7, u8, 0) := by
 unfold mayB
 generalize Yjg (Yre u1 u2 u3 u4 u5 u6 u7 u8).data.toList = v
 obtain ⟨v1, v2, v3, v4, v5, v6, v7, v8, v9⟩ := v
 unfold mayE
 simp only
 by_cases h9 : v9 = 0
 ·rw [if_pos h9, sameU_iff]
  simp only [Prod.mk.injEq]
  constructor
  ·rintro ⟨rfl, rfl, rfl, rfl, rfl, rfl, rfl, rfl⟩; exact ⟨rfl, rfl, rfl, rfl, rfl, rfl, rfl, rfl, h9⟩
  ·rintro ⟨rfl, rfl, rfl, rfl, rfl, rfl, rfl, rfl, _⟩; exact ⟨rfl, rfl, rfl, rfl, rfl, rfl, rfl, rfl⟩
 ·rw [if_neg h9]
  simp only [Prod.mk.injEq]
  constructor
  ·intro h; cases h
  ·rintro ⟨_, _, _, _, _, _, _, _, h⟩; exact absurd h h9
structure Room (u1 u2 : ByteArray) (u3 : Int) (u4 u5 u6 : ByteArray) : Prop where
 s1 : u1.size ≤ 1000000000000000
 s2 : u2.size ≤ 1000000000000000
 s4 : u4.size ≤ 1000000000000000
 s5 : u5.size ≤ 1000000000000000
 s6 : u6.size ≤ 1000000000000000
 p0 : -9223372036854775808 ≤ u3
 p1 : u3 ≤ 9223372036854775807
theorem room_of {u1 u2 : ByteArray} {u3 : Int} {u4 u5 u6 : ByteArray} (hw : (Lit.int .i64 u3).wf = true) (h : u1.size ≤ 140737488351232 ∧ u2.size ≤ 140737488351232 ∧ u4.size ≤ 140737488351232 ∧ u5.size ≤ 140737488351232 ∧ u6.size ≤ 140737488351232) : Room u1 u2 u3 u4 u5 u6 := by
 have e1 : IntKind.i64.min = -9223372036854775808 := by decide
 have e2 : IntKind.i64.max = 9223372036854775807 := by decide
 simp only [Lit.wf, Bool.and_eq_true, decide_eq_true_eq] at hw
 exact ⟨Zk, Zk, Zk, Zk, Zk, Zk, Zk⟩
theorem urlMay_f {u1 u2 : ByteArray} {u3 : Int} {u4 u5 u6 : ByteArray} {u7 u8 : Bool} (h : Room u1 u2 u3 u4 u5 u6) (hz : (Yre u1 u2 u3 u4 u5 u6 u7 u8).size ≤ 1000000) :
  EvR (fun k => Yxi.f k u1 u2 u3 u4 u5 u6 u7 u8) (mayB u1 u2 u3 u4 u5 u6 u7 u8) := by
 have h3 := stringZ_f u1 u2 u3 u4 u5 u6 u7 u8 h.s1 h.s2 h.s4 h.s5 h.s6 h.p0 h.p1
 have h5 := Yhn (Yre u1 u2 u3 u4 u5 u6 u7 u8) Zk
 unfold Yxi.f
 refine EvR.bind h3 (EvR.bind h5 (EvR.of fun k => ?_))
 unfold mayB mayE
 rw [Yit]
 by_cases h0 : (Yjg (Yre u1 u2 u3 u4 u5 u6 u7 u8).data.toList).2.2.2.2.2.2.2.2 = 0
 ·rw [if_pos h0, if_pos h0]; rfl
 ·rw [if_neg h0, if_neg h0]
theorem Yws {u1 u2 : ByteArray} {u3 : Int} {u4 u5 u6 : ByteArray} {u7 u8 : Bool} (h : Room u1 u2 u3 u4 u5 u6) (hz : (Yre u1 u2 u3 u4 u5 u6 u7 u8).size ≤ 1000000) :
  EvR (fun k => Ymd.f k u1 u2 u3 u4 u5 u6 u7 u8) (mayB u1 u2 u3 u4 u5 u6 u7 u8) := by
 have h3 := Yil u1 u2 u3 u4 u5 u6 u7 u8 h.s1 h.s2 h.s4 h.s5 h.s6 h.p0 h.p1
 unfold Ymd.f
 refine EvR.bind h3 (EvR.of fun k => ?_)
 unfold Ysb.f
 rw [if_pos Zk, Option.bind_some]
 unfold mayB mayE
 by_cases h0 : (Yjg (Yre u1 u2 u3 u4 u5 u6 u7 u8).data.toList).2.2.2.2.2.2.2.2 = 0
 ·rw [if_pos h0, if_pos h0]; rfl
 ·rw [if_neg h0, if_neg h0]
theorem Yaq {u1 u2 : ByteArray} {u3 : Int} {u4 u5 u6 : ByteArray} {u7 u8 : Bool} (h : mayB u1 u2 u3 u4 u5 u6 u7 u8 = true) :
  ∃ sch host path query frag, u1 = ofL sch ∧ u2 = ofL host ∧ u4 = ofL path ∧ u5 = ofL query ∧ u6 = ofL frag ∧ Canon sch host u3 path query frag u7 u8 := by
 obtain ⟨host, r, hp⟩ := parsed_of ((Ytr _ _ _ _ _ _ _ _).1 h)
 obtain ⟨sch, path, query, frag, h1, h2, h4, h5, h6, hc⟩ := canon_of hp
 exact ⟨sch, host, path, query, frag, h1, h2, h4, h5, h6, hc⟩
theorem may_canon {sch host : List UInt8} {p : Int} {path query frag : List UInt8} {hq hf : Bool} (h : Canon sch host p path query frag hq hf) : mayB (ofL sch) (ofL host) p (ofL path) (ofL query) (ofL frag) hq hf = true := by
 rw [Ytr, Ypl _ _ _ _ _ _ _ _ h.p0]
 exact round h
theorem Yrj {sch host : List UInt8} {p : Int} {path query frag : List UInt8} {hq hf : Bool} (h : Canon sch host p path query frag hq hf) :
  sch.length ≤ 2048 ∧ host.length ≤ 2048 ∧ path.length ≤ 2048 ∧ query.length ≤ 2048 ∧ frag.length ≤ 2048 := by
 have hz := h.size
 rw [Lib.size_eq, Yxh] at hz
 simp only [List.length_append, List.length_cons] at hz
 have hqi := h.queryIs
 have hfi := h.fragIs
 have e1 : query.length ≤ (Yvf query hq).length := by
  rcases hqi with ⟨rfl, _⟩ | ⟨rfl, rfl⟩
  ·simp [Yvf]
  ·simp
 have e2 : frag.length ≤ (Yff frag hf).length := by
  rcases hfi with ⟨rfl, _⟩ | ⟨rfl, rfl⟩
  ·simp [Yff]
  ·simp
 omega
theorem Ytt {sch host : List UInt8} {p : Int} {path query frag : List UInt8} {hq hf : Bool} (h : Canon sch host p path query frag hq hf) : Room (ofL sch) (ofL host) p (ofL path) (ofL query) (ofL frag) := by
 obtain ⟨h1, h2, h3, h4, h5⟩ := Yrj h
 have := h.p0
 have := h.p1
 exact ⟨Zba, Zba, Zba, Zba, Zba, Zk, Zk⟩
def Ybn (b0 b1 : ByteArray) (b2 : Int) (b3 b4 : ByteArray) (b6 : Bool) : Nat → List UInt8 → UrlE
 | 0, _ => Yac 3
 | n + 1, s =>
  if (s.length : Int) > 2048 then Yac 5
  else if (Yne s).2.2 = true then
   (if lowL (Yne s).1 = lowL b0.data.toList ∧ Yih (Yne s).2.1 = 0 then Ybn b0 b1 b2 b3 b4 b6 n (Ypd (Yne s).2.1) else Yjg s)
  else if Yih s = 2 then Yjg (b0.data.toList ++ 58 :: s)
  else Ygi (Ygh b0 b1 b2 b3 b4 b6 s)
theorem cut_drop (l : List UInt8) (h : (Lib.cut l [58]).2.2 = true) : (Lib.cut l [58]).2.1.length < l.length := by
 unfold Lib.cut at h ⊢
 split at h
 ·next hi =>
  rw [if_pos hi]
  simp only [List.length_drop, List.length_cons, List.length_nil]
  have hlt : l ≠ [] := by
   rintro rfl
   revert hi; decide
  have := List.length_pos_iff.2 hlt
  omega
 ·cases h
theorem Yon (s : List UInt8) (h : (Yne s).2.2 = true) : (Yne s).2.1.length < s.length := by
 unfold Yne at h ⊢
 split
 ·next hc => exact cut_drop s hc.1
 ·next hc => rw [if_neg hc] at h; cases h
theorem Ylo (s : List UInt8) : (Yne s).1.length ≤ s.length ∧ (Yne s).2.1.length ≤ s.length := by
 have := Yql s [58]
 unfold Yne
 split
 ·exact this
 ·simp
theorem joinL0_f (b0 b1 : ByteArray) (b2 : Int) (b3 b4 b5 : ByteArray) (b6 b7 : Bool) (p0 : 0 ≤ b2) (p1 : b2 ≤ 65535) (s0 : b0.size ≤ 1000000) (s1 : b1.size ≤ 1000000) (s3 : b3.size ≤ 1000000) (s4 : b4.size ≤ 1000000) : ∀ (n : Nat) (s : ByteArray), s.size < n → s.size ≤ 1000000 →
  EvR (fun k => Yxa.l0 k s b0 b1 b2 b3 b4 b5 b6 b7) (Ybn b0 b1 b2 b3 b4 b6 n s.data.toList) := by
 intro n
 induction n with
 | zero => intro s h _; omega
 | succ n ih =>
  intro s hn hs
  have hlen : s.data.toList.length = s.size := (Lib.size_eq s).symm
  refine EvR.succ ?_
  unfold Ybn
  rw [hlen]
  by_cases hbig : (s.size : Int) > 2048
  ·rw [if_pos hbig]
   exact EvR.of fun k => by rw [Yxa.l0, if_pos hbig]; rfl
  ·rw [if_neg hbig]
   have hsch := schemeJ_f s Zk
   have hle := Ylo s.data.toList
   rw [hlen] at hle
   obtain ⟨nm, hnm⟩ : ∃ x, x = (Yne s.data.toList).1 := ⟨_, rfl⟩
   obtain ⟨re, hre⟩ : ∃ x, x = (Yne s.data.toList).2.1 := ⟨_, rfl⟩
   have hlt := Yon s.data.toList
   cases hb : (Yne s.data.toList).2.2 with
   | true =>
    rw [hb] at hsch hlt
    rw [← hnm, ← hre] at hsch hle ⊢
    rw [← hre, hlen] at hlt
    have hlt := hlt rfl
    rw [if_pos rfl]
    refine EvR.congr (f := fun k => (Yla.f k s).bind fun dU => (if dU.2.2 = true then (Yxa.j1 k s dU.1 dU.2.1 dU.2.2 false b0 b1 b2 b3 b4 b5 b6 b7) else ((Yvb.f k s).bind fun uH => (Yxa.j1 k s dU.1 dU.2.1 dU.2.2 (uH == 2) b0 b1 b2 b3 b4 b5 b6 b7)))) ?_ (fun k => by rw [Yxa.l0, if_neg hbig])
    refine EvR.bind hsch ?_
    simp only [if_true]
    refine EvR.succ ?_
    simp only [Yxa.j1, if_neg (show ¬ (false = true) by decide), if_true]
    have hsame := same_f (ofL nm) b0 Zba Zk
    rw [Yfb] at hsame
    rw [hsame]
    simp only [Option.bind_some]
    by_cases hc : lowL nm = lowL b0.data.toList
    ·simp only [decide_eq_true hc, if_true, hc, true_and]
     refine EvR.bind (Ywq (ofL re) Zba) ?_
     rw [Yfb]
     refine EvR.succ ?_
     by_cases hz : Yih re = 0
     ·rw [if_pos hz]
      have hcl : Yvd.f (ofL re) = some (ofL (Ypd re)) := by unfold Yvd.f; rw [if_pos Zba, Yfb]
      have hcle := Yri re
      have := ih (ofL (Ypd re)) Zba Zba
      rw [Yfb] at this
      refine EvR.congr this (fun k => ?_)
      rw [Yxa.j2, if_neg (by rw [hz]; decide), hcl, Option.bind_some]
     ·rw [if_neg hz]
      refine EvR.congr (Yhn s Zk) (fun k => ?_)
      rw [Yxa.j2, if_pos (decide_eq_true Zk)]
      cases Yqd.f k s <;> rfl
    ·rw [if_neg (fun h => hc h.1)]
     simp only [decide_eq_false hc, if_neg (show ¬ (false = true) by decide)]
     refine EvR.succ (EvR.congr (Yhn s Zk) (fun k => ?_))
     rw [Yxa.j2, if_pos rfl]
     cases Yqd.f k s <;> rfl
   | false =>
    rw [hb] at hsch
    rw [if_neg (show ¬ (false = true) by decide)]
    refine EvR.congr (f := fun k => (Yla.f k s).bind fun dU => (if dU.2.2 = true then (Yxa.j1 k s dU.1 dU.2.1 dU.2.2 false b0 b1 b2 b3 b4 b5 b6 b7) else ((Yvb.f k s).bind fun uH => (Yxa.j1 k s dU.1 dU.2.1 dU.2.2 (uH == 2) b0 b1 b2 b3 b4 b5 b6 b7)))) ?_ (fun k => by rw [Yxa.l0, if_neg hbig])
    refine EvR.bind hsch ?_
    simp only [if_neg (show ¬ (false = true) by decide)]
    refine EvR.bind (Ywq s Zk) ?_
    refine EvR.succ ?_
    by_cases hz : Yih s.data.toList = 2
    ·rw [if_pos hz]
     have oY : (⟨#[58]⟩ : ByteArray).size = 1 := rfl
     have hx : (b0 ++ (⟨#[58]⟩ : ByteArray) ++ s).data.toList = b0.data.toList ++ 58 :: s.data.toList := by
      rw [Ypi, Ypi]; simp
     have hxs : (b0 ++ (⟨#[58]⟩ : ByteArray) ++ s).size ≤ 1000000000 := by simp only [ByteArray.size_append, oY]; omega
     have := Yhn (b0 ++ (⟨#[58]⟩ : ByteArray) ++ s) hxs
     rw [hx] at this
     refine EvR.congr this (fun k => ?_)
     rw [Yxa.j1, if_pos (by rw [hz]; rfl), if_pos Zk, if_pos (by simp only [ByteArray.size_append, oY]; omega)]
     cases Yqd.f k (b0 ++ (⟨#[58]⟩ : ByteArray) ++ s) <;> rfl
    ·rw [if_neg hz]
     have hw : Ysf.f b0 b1 b2 b3 b4 b5 b6 b7 s = some (Ygi (Ygh b0 b1 b2 b3 b4 b6 s.data.toList)) := by
      unfold Ysf.f; rw [if_pos ⟨⟨p0, p1⟩, ⟨s0, s1⟩, ⟨s3, s4⟩, hs⟩]
     refine EvR.of fun k => ?_
     rw [Yxa.j1, if_neg (by rw [beq_iff_eq]; omega), if_neg Zda, hw]
     rfl
def Ywp (b0 b1 : ByteArray) (b2 : Int) (b3 b4 b5 : ByteArray) (b6 b7 : Bool) (l : List UInt8) : UrlE :=
 if mayB b0 b1 b2 b3 b4 b5 b6 b7 = true then Ybn b0 b1 b2 b3 b4 b6 (l.length + 1) (Ypd l) else Yac 1
theorem join_f {b0 b1 : ByteArray} {b2 : Int} {b3 b4 b5 : ByteArray} {b6 b7 : Bool} (h : Room b0 b1 b2 b3 b4 b5) (hz : (Yre b0 b1 b2 b3 b4 b5 b6 b7).size ≤ 1000000) (s : ByteArray) (hs : s.size ≤ 1000000) :
  EvR (fun k => Yxa.f k b0 b1 b2 b3 b4 b5 b6 b7 s) (Ywp b0 b1 b2 b3 b4 b5 b6 b7 s.data.toList) := by
 unfold Yxa.f Ywp
 refine EvR.bind (urlMay_f h hz) ?_
 cases hm : mayB b0 b1 b2 b3 b4 b5 b6 b7 with
 | true =>
  simp only [if_true]
  have hcl : Yvd.f s = some (ofL (Ypd s.data.toList)) := by unfold Yvd.f; rw [if_pos Zk]
  have hcle := Yri s.data.toList
  have hlen : s.data.toList.length = s.size := (Lib.size_eq s).symm
  obtain ⟨sch, host, path, query, frag, rfl, rfl, rfl, rfl, rfl, hc⟩ := Yaq hm
  obtain ⟨z1, z2, z3, z4, z5⟩ := Yrj hc
  have := joinL0_f (ofL sch) (ofL host) b2 (ofL path) (ofL query) (ofL frag) b6 b7 hc.p0 hc.p1 Zba Zba Zba Zba (s.data.toList.length + 1) (ofL (Ypd s.data.toList)) Zba Zba
  rw [Yfb] at this
  refine EvR.congr this (fun k => ?_)
  rw [hcl, Option.bind_some]
 | false =>
  simp only [if_neg (show ¬ (false = true) by decide)]
  exact EvR.of fun k => rfl
theorem far_f {u1 u2 : ByteArray} {u3 : Int} {u4 u5 u6 : ByteArray} {u7 u8 : Bool} (h : Room u1 u2 u3 u4 u5 u6) :
  EvR (fun k => Ykd.f k u1 u2 u3 u4 u5 u6 u7 u8) (decide ((u1.size : Int) > 2200) || decide (((Yre u1 u2 u3 u4 u5 u6 u7 u8).size : Int) > 2200)) := by
 have h3 := Yil u1 u2 u3 u4 u5 u6 u7 u8 h.s1 h.s2 h.s4 h.s5 h.s6 h.p0 h.p1
 have hl : ∀ s : ByteArray, Ytb.f s = some (decide ((s.size : Int) > 2200)) := fun s => rfl
 unfold Ykd.f
 simp only [hl, Option.bind_some]
 cases hb : decide ((u1.size : Int) > 2200) with
 | true => exact EvR.of fun k => rfl
 | false =>
  simp only [if_neg (show ¬ (false = true) by decide), Bool.false_or]
  exact EvR.bind h3 (EvR.of fun k => rfl)
end Go.Proofs.YtnmglnglbdpjjaaGreatDoor.X
end
section
section
namespace Go.Proofs.YtnmglnglbdpjjaaGreatDoor.X
open Go.RowKit Go.Lib Go.Shelf Go.Yw.PrintWords Go.Yw.PrintLast Go.Yw.PrintMore
set_option linter.unusedVariables false
set_option linter.unusedSimpArgs false
theorem eqSame (d : Nat) (w : World) (u1 u2 : ByteArray) (u3 : Int) (u4 u5 u6 : ByteArray) (u7 u8 : Bool) : (Op.equalIn (d + 2) 25 (.agg #[.string u1, .string u2, .int .i64 u3, .string u4, .string u5, .string u6, .bool u7, .bool u8]) (.agg #[.string u1, .string u2, .int .i64 u3, .string u4, .string u5, .string u6, .bool u7, .bool u8])).run Tryz.prog w = .ok true w := by
 rw [eqH25]
 simp only [beq_self_eq_true, Bool.and_self]
attribute [local go_sem high] eqSame
def Yvr (k : Nat) : Prop :=
 Yxa.f k ⟨#[104, 116, 116, 112]⟩ ⟨#[97, 46, 98]⟩ 0 ⟨#[47, 99, 47, 100]⟩ ⟨#[101]⟩ ⟨#[]⟩ true false ⟨#[46, 46, 47, 102, 35, 103]⟩ = some (⟨#[104, 116, 116, 112]⟩, ⟨#[97, 46, 98]⟩, 0, ⟨#[47, 102]⟩, ⟨#[]⟩, ⟨#[103]⟩, false, true, 0) ∧
 Ybm.f k ⟨#[104, 116, 116, 112]⟩ ⟨#[97, 46, 98]⟩ 0 ⟨#[47, 102]⟩ ⟨#[]⟩ ⟨#[103]⟩ false true = some ⟨#[104, 116, 116, 112, 58, 47, 47, 97, 46, 98, 47, 102]⟩
set_option maxHeartbeats 8000000 in
set_option maxRecDepth 100000 in
theorem Yar (k : Nat) (w : World) (hE : EnvOk w) (h : Yvr k) :
  Calls Tryz.prog 32 #[] w fun e w' => e = .returned (.bool true) ∧ Below w.heap.size w w' := by
 have HE := Ya.mk hE
 have HP := Ya.mk h.1
 have HS := Ya.mk h.2
 clear hE h
 go_enter Tryz.func32, Tryz.ntmps32
 go_wp2_with fail
 refine (Ykh.calls _ _ _ _ _ _ _ _ _ HE.out rfl).mono ?_
 rintro e w1 ⟨rfl, lM⟩
 have hZ := Ya.mk lM
 clear lM
 go_wp2_with fail
 refine (Yxa.calls k _ _ _ _ _ _ _ _ _ _ _ _ _ _ _ _ _ _ _ (HE.out.below hZ.out) HP.out).mono ?_
 rintro e w2 ⟨rfl, bU⟩
 have eK := Ya.mk (hZ.out.trans (bU.mono hZ.out.size))
 clear bU hZ
 have hbk := heap_alloc_new w2 (.cells (uc ⟨#[104, 116, 116, 112]⟩ ⟨#[97, 46, 98]⟩ 0 ⟨#[47, 102]⟩ ⟨#[]⟩ ⟨#[103]⟩ false true) 25)
 have eE := Ya.mk (eK.out.alloc eK.out.size (.cells (uc ⟨#[104, 116, 116, 112]⟩ ⟨#[97, 46, 98]⟩ 0 ⟨#[47, 102]⟩ ⟨#[]⟩ ⟨#[103]⟩ false true) 25))
 have cW := (Yf hbk 0).trans rfl
 have cR := (Yf hbk 1).trans rfl
 have cV := (Yf hbk 2).trans rfl
 have dA := (Yf hbk 3).trans rfl
 have cZ := (Yf hbk 4).trans rfl
 have cY := (Yf hbk 5).trans rfl
 have dB := (Yf hbk 6).trans rfl
 have cX := (Yf hbk 7).trans rfl
 clear hbk
 go_wp2_with fail
 refine (Ybm.calls k _ _ _ _ _ _ _ _ _ _ (HE.out.below eE.out) HS.out).mono ?_
 rintro e w3 ⟨rfl, gL⟩
 have dL := Ya.mk (eE.out.trans (gL.mono eE.out.size))
 clear gL
 go_wp2_with fail
 go_ret
 exact ⟨rfl, dL.out⟩
theorem alive5_60 : Yvr 60 := ⟨Zi, Zi⟩
theorem alive5 (w : World) (hE : EnvOk w) : Calls Tryz.prog 32 #[] w fun e w' => e = .returned (.bool true) ∧ Below w.heap.size w w' := Yar 60 w hE alive5_60
end Go.Proofs.YtnmglnglbdpjjaaGreatDoor.X
end
section
namespace Go.Proofs.YtnmglnglbdpjjaaGreatDoor.X
open Go.RowKit Go.Lib Go.Shelf Go.Yw.PrintWords Go.Yw.PrintLast Go.Yw.PrintMore
set_option linter.unusedVariables false
set_option linter.unusedSimpArgs false
end Go.Proofs.YtnmglnglbdpjjaaGreatDoor.X
end
end
