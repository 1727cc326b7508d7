import Derived.Test.YtnmglnglbdpjjaaGreatDoorUfCn
import Derived.Test.YtnmglnglbdpjjaaGreatDoorUfX21
import Derived.Test.YtnmglnglbdpjjaaGreatDoorUfX20
set_option linter.all false
section
namespace Go.Proofs.YtnmglnglbdpjjaaGreatDoor.X
open Go.RowKit Go.Lib Go.Shelf Go.Yw.PrintWords Go.Yw.PrintLast Go.Yw.PrintMore
def Ylq (u1 u2 : Y) (u3 : Int) (u4 u5 u6 : Y) (u7 u8 : Bool) (v1 v2 : Y) (v3 : Int) (v4 v5 v6 : Y) (v7 v8 : Bool) : Bool :=
 u1.toList == v1.toList && (u2.toList == v2.toList && (u3 == v3 && (u4.toList == v4.toList && (u5.toList == v5.toList && (u6.toList == v6.toList && (u7 == v7 && (u8 == v8)))))))
theorem Ydi {α : Type} [BEq α] [LawfulBEq α] (a b : α) : (a == b) = (b == a) := by
 by_cases h : a = b
 ·rw [h]
 ·rw [beq_eq_false_iff_ne.2 h, beq_eq_false_iff_ne.2 (Ne.symm h)]
theorem Yiu (u1 u2 : Y) (u3 : Int) (u4 u5 u6 : Y) (u7 u8 : Bool) (v1 v2 : Y) (v3 : Int) (v4 v5 v6 : Y) (v7 v8 : Bool) : Ylq u1 u2 u3 u4 u5 u6 u7 u8 v1 v2 v3 v4 v5 v6 v7 v8 = Ylq v1 v2 v3 v4 v5 v6 v7 v8 u1 u2 u3 u4 u5 u6 u7 u8 := by
 unfold Ylq
 rw [Ydi u1.toList, Ydi u2.toList, Ydi u3, Ydi u4.toList, Ydi u5.toList, Ydi u6.toList, Ydi u7, Ydi u8]
theorem Yui {a b : Y} (h : a.toList = b.toList) : a = b := by
 rw [Lib.toList_data, Lib.toList_data] at h
 rw [← Yhi a, ← Yhi b, h]
theorem sameU_iff (u1 u2 : Y) (u3 : Int) (u4 u5 u6 : Y) (u7 u8 : Bool) (v1 v2 : Y) (v3 : Int) (v4 v5 v6 : Y) (v7 v8 : Bool) : Ylq u1 u2 u3 u4 u5 u6 u7 u8 v1 v2 v3 v4 v5 v6 v7 v8 = true ↔ (u1, u2, u3, u4, u5, u6, u7, u8) = (v1, v2, v3, v4, v5, v6, v7, v8) := by
 unfold Ylq
 simp only [Bool.and_eq_true, beq_iff_eq, Kea]
 constructor
 ·rintro ⟨h1, h2, h3, h4, h5, h6, h7, h8⟩
  exact ⟨Yui h1, Yui h2, h3, Yui h4, Yui h5, Yui h6, h7, h8⟩
 ·rintro ⟨rfl, rfl, rfl, rfl, rfl, rfl, rfl, rfl⟩
  exact ⟨rfl, rfl, rfl, rfl, rfl, rfl, rfl, rfl⟩
def mayE (u1 u2 : Y) (u3 : Int) (u4 u5 u6 : Y) (u7 u8 : Bool) (v : UrlE) : Bool :=
 if v.2.2.2.2.2.2.2.2 = 0 then Ylq u1 u2 u3 u4 u5 u6 u7 u8 v.1 v.2.1 v.2.2.1 v.2.2.2.1 v.2.2.2.2.1 v.2.2.2.2.2.1 v.2.2.2.2.2.2.1 v.2.2.2.2.2.2.2.1 else false
def mayB (u1 u2 : Y) (u3 : Int) (u4 u5 u6 : Y) (u7 u8 : Bool) : Bool := mayE u1 u2 u3 u4 u5 u6 u7 u8 (Yqf (Ysd u1 u2 u3 u4 u5 u6 u7 u8).data.toList)
theorem Yyt (u1 u2 : Y) (u3 : Int) (u4 u5 u6 : Y) (u7 u8 : Bool) : mayB u1 u2 u3 u4 u5 u6 u7 u8 = true ↔ Yqf (Ysd u1 u2 u3 u4 u5 u6 u7 u8).data.toList = (u1, u2, u3, u4, u5, u6, u7, u8, 0) := by
 unfold mayB
 generalize Yqf (Ysd u1 u2 u3 u4 u5 u6 u7 u8).data.toList = v
 obtain ⟨v1, v2, v3, v4, v5, v6, v7, v8, v9⟩ := v
 unfold mayE
 simp only
 by_cases h9 : v9 = 0
 ·rw [if_pos h9, sameU_iff]
  simp only [Kea]
  constructor
  ·rintro ⟨rfl, rfl, rfl, rfl, rfl, rfl, rfl, rfl⟩; exact ⟨rfl, rfl, rfl, rfl, rfl, rfl, rfl, rfl, h9⟩
  ·rintro ⟨rfl, rfl, rfl, rfl, rfl, rfl, rfl, rfl, _⟩; exact ⟨rfl, rfl, rfl, rfl, rfl, rfl, rfl, rfl⟩
 ·rw [if_neg h9]
  simp only [Kea]
  constructor
  ·intro h; cases h
  ·rintro ⟨_, _, _, _, _, _, _, _, h⟩; exact absurd h h9
structure Room (u1 u2 : Y) (u3 : Int) (u4 u5 u6 : Y) : Prop where
 s1 : u1.size ≤ 1000000000000000
 s2 : u2.size ≤ 1000000000000000
 s4 : u4.size ≤ 1000000000000000
 s5 : u5.size ≤ 1000000000000000
 s6 : u6.size ≤ 1000000000000000
 p0 : -9223372036854775808 ≤ u3
 p1 : u3 ≤ 9223372036854775807
theorem room_of {u1 u2 : Y} {u3 : Int} {u4 u5 u6 : Y} (hw : (Lit.int .i64 u3).wf = true) (h : u1.size ≤ 140737488351232 ∧ u2.size ≤ 140737488351232 ∧ u4.size ≤ 140737488351232 ∧ u5.size ≤ 140737488351232 ∧ u6.size ≤ 140737488351232) : Room u1 u2 u3 u4 u5 u6 := by
 have e1 : IntKind.i64.min = -9223372036854775808 := by decide
 have e2 : IntKind.i64.max = 9223372036854775807 := by decide
 simp only [Lit.wf, Bool.and_eq_true, decide_eq_true_eq] at hw
 exact ⟨Zk, Zk, Zk, Zk, Zk, Zk, Zk⟩
theorem urlMay_f {u1 u2 : Y} {u3 : Int} {u4 u5 u6 : Y} {u7 u8 : Bool} (h : Room u1 u2 u3 u4 u5 u6) (hz : (Ysd u1 u2 u3 u4 u5 u6 u7 u8).size ≤ 1000000) :
  EvR (fun k => Ybj.f k u1 u2 u3 u4 u5 u6 u7 u8) (mayB u1 u2 u3 u4 u5 u6 u7 u8) := by
 have h3 := stringZ_f u1 u2 u3 u4 u5 u6 u7 u8 h.s1 h.s2 h.s4 h.s5 h.s6 h.p0 h.p1
 have h5 := Yxn (Ysd u1 u2 u3 u4 u5 u6 u7 u8) Zk
 unfold Ybj.f
 refine EvR.bind h3 (EvR.bind h5 (EvR.of fun k => ?_))
 unfold mayB mayE
 rw [Yiu]
 by_cases h0 : (Yqf (Ysd u1 u2 u3 u4 u5 u6 u7 u8).data.toList).2.2.2.2.2.2.2.2 = 0
 ·rw [if_pos h0, if_pos h0]; rfl
 ·rw [if_neg h0, if_neg h0]
theorem Yet {u1 u2 : Y} {u3 : Int} {u4 u5 u6 : Y} {u7 u8 : Bool} (h : Room u1 u2 u3 u4 u5 u6) (hz : (Ysd u1 u2 u3 u4 u5 u6 u7 u8).size ≤ 1000000) :
  EvR (fun k => Ymd.f k u1 u2 u3 u4 u5 u6 u7 u8) (mayB u1 u2 u3 u4 u5 u6 u7 u8) := by
 have h3 := Yam u1 u2 u3 u4 u5 u6 u7 u8 h.s1 h.s2 h.s4 h.s5 h.s6 h.p0 h.p1
 unfold Ymd.f
 refine EvR.bind h3 (EvR.of fun k => ?_)
 unfold Ysb.f
 rw [if_pos Zk, Kfa]
 unfold mayB mayE
 by_cases h0 : (Yqf (Ysd u1 u2 u3 u4 u5 u6 u7 u8).data.toList).2.2.2.2.2.2.2.2 = 0
 ·rw [if_pos h0, if_pos h0]; rfl
 ·rw [if_neg h0, if_neg h0]
theorem Ynk {u1 u2 : Y} {u3 : Int} {u4 u5 u6 : Y} {u7 u8 : Bool} (h : mayB u1 u2 u3 u4 u5 u6 u7 u8 = true) :
  ∃ sch host path query frag, u1 = ofL sch ∧ u2 = ofL host ∧ u4 = ofL path ∧ u5 = ofL query ∧ u6 = ofL frag ∧ Canon sch host u3 path query frag u7 u8 := by
 obtain ⟨host, r, hp⟩ := Ybr ((Yyt _ _ _ _ _ _ _ _).1 h)
 obtain ⟨sch, path, query, frag, h1, h2, h4, h5, h6, hc⟩ := Yeu hp
 exact ⟨sch, host, path, query, frag, h1, h2, h4, h5, h6, hc⟩
theorem Ydn {sch host : List UInt8} {p : Int} {path query frag : List UInt8} {hq hf : Bool} (h : Canon sch host p path query frag hq hf) : mayB (ofL sch) (ofL host) p (ofL path) (ofL query) (ofL frag) hq hf = true := by
 rw [Yyt, Ykj _ _ _ _ _ _ _ _ h.p0]
 exact round h
theorem Ywj {sch host : List UInt8} {p : Int} {path query frag : List UInt8} {hq hf : Bool} (h : Canon sch host p path query frag hq hf) :
  sch.length ≤ 2048 ∧ host.length ≤ 2048 ∧ path.length ≤ 2048 ∧ query.length ≤ 2048 ∧ frag.length ≤ 2048 := by
 have hz := h.size
 rw [Lib.size_eq, Ykh] at hz
 simp only [List.length_append, List.length_cons] at hz
 have hqi := h.queryIs
 have hfi := h.fragIs
 have e1 : query.length ≤ (Ydf query hq).length := by
  rcases hqi with ⟨rfl, _⟩ | ⟨rfl, rfl⟩
  ·simp [Ydf]
  ·simp
 have e2 : frag.length ≤ (Ype frag hf).length := by
  rcases hfi with ⟨rfl, _⟩ | ⟨rfl, rfl⟩
  ·simp [Ype]
  ·simp
 omega
theorem Yyo {sch host : List UInt8} {p : Int} {path query frag : List UInt8} {hq hf : Bool} (h : Canon sch host p path query frag hq hf) : Room (ofL sch) (ofL host) p (ofL path) (ofL query) (ofL frag) := by
 obtain ⟨h1, h2, h3, h4, h5⟩ := Ywj h
 have := h.p0
 have := h.p1
 exact ⟨Zda, Zda, Zda, Zda, Zda, Zk, Zk⟩
def Yhl (b0 b1 : Y) (b2 : Int) (b3 b4 : Y) (b6 : Bool) : Nat → List UInt8 → UrlE
 | 0, _ => Ytb 3
 | n + 1, s =>
  if (s.length : Int) > 2048 then Ytb 5
  else if (Yoe s).2.2 = true then
   (if lowL (Yoe s).1 = lowL b0.data.toList ∧ Yjh (Yoe s).2.1 = 0 then Yhl b0 b1 b2 b3 b4 b6 n (Yqd (Yoe s).2.1) else Yqf s)
  else if Yjh s = 2 then Yqf (b0.data.toList ++ 58 :: s)
  else Yzg (Yfh b0 b1 b2 b3 b4 b6 s)
theorem cut_drop (l : List UInt8) (h : (Lib.cut l [58]).2.2 = true) : (Lib.cut l [58]).2.1.length < l.length := by
 unfold Lib.cut at h ⊢
 split at h
 ·next hi =>
  rw [if_pos hi]
  simp only [List.length_drop, List.length_cons, List.length_nil]
  have hlt : l ≠ [] := by
   rintro rfl
   revert hi; decide
  have := List.length_pos_iff.2 hlt
  omega
 ·cases h
theorem Ylo (s : List UInt8) (h : (Yoe s).2.2 = true) : (Yoe s).2.1.length < s.length := by
 unfold Yoe at h ⊢
 split
 ·next hc => exact cut_drop s hc.1
 ·next hc => rw [if_neg hc] at h; cases h
theorem Ybo (s : List UInt8) : (Yoe s).1.length ≤ s.length ∧ (Yoe s).2.1.length ≤ s.length := by
 have := Ywl s [58]
 unfold Yoe
 split
 ·exact this
 ·simp
theorem joinL0_f (b0 b1 : Y) (b2 : Int) (b3 b4 b5 : Y) (b6 b7 : Bool) (p0 : 0 ≤ b2) (p1 : b2 ≤ 65535) (s0 : b0.size ≤ 1000000) (s1 : b1.size ≤ 1000000) (s3 : b3.size ≤ 1000000) (s4 : b4.size ≤ 1000000) : ∀ (n : Nat) (s : Y), s.size < n → s.size ≤ 1000000 →
  EvR (fun k => Yza.l0 k s b0 b1 b2 b3 b4 b5 b6 b7) (Yhl b0 b1 b2 b3 b4 b6 n s.data.toList) := by
 intro n
 induction n with
 | zero => intro s h _; omega
 | succ n ih =>
  intro s hn hs
  have hlen : s.data.toList.length = s.size := (Lib.size_eq s).symm
  refine EvR.succ ?_
  unfold Yhl
  rw [hlen]
  by_cases hbig : (s.size : Int) > 2048
  ·rw [if_pos hbig]
   exact EvR.of fun k => by rw [Yza.l0, if_pos hbig]; rfl
  ·rw [if_neg hbig]
   have hsch := schemeJ_f s Zk
   have hle := Ybo s.data.toList
   rw [hlen] at hle
   obtain ⟨nm, hnm⟩ : ∃ x, x = (Yoe s.data.toList).1 := ⟨_, rfl⟩
   obtain ⟨re, hre⟩ : ∃ x, x = (Yoe s.data.toList).2.1 := ⟨_, rfl⟩
   have hlt := Ylo s.data.toList
   cases hb : (Yoe s.data.toList).2.2 with
   | true =>
    rw [hb] at hsch hlt
    rw [← hnm, ← hre] at hsch hle ⊢
    rw [← hre, hlen] at hlt
    have hlt := hlt rfl
    rw [if_pos rfl]
    refine EvR.congr (f := fun k => (Yma.f k s).bind fun dU => (if dU.2.2 = true then (Yza.j1 k s dU.1 dU.2.1 dU.2.2 false b0 b1 b2 b3 b4 b5 b6 b7) else ((Yub.f k s).bind fun uM => (Yza.j1 k s dU.1 dU.2.1 dU.2.2 (uM == 2) b0 b1 b2 b3 b4 b5 b6 b7)))) ?_ (fun k => by rw [Yza.l0, if_neg hbig])
    refine EvR.bind hsch ?_
    simp only [if_true]
    refine EvR.succ ?_
    simp only [Yza.j1, if_neg (show ¬ (false = true) by decide), if_true]
    have hsame := same_f (ofL nm) b0 Zda Zk
    rw [Ygb] at hsame
    rw [hsame]
    simp only [Kfa]
    by_cases hc : lowL nm = lowL b0.data.toList
    ·simp only [decide_eq_true hc, if_true, hc, true_and]
     refine EvR.bind (Yhs (ofL re) Zda) ?_
     rw [Ygb]
     refine EvR.succ ?_
     by_cases hz : Yjh re = 0
     ·rw [if_pos hz]
      have hcl : Yxd.f (ofL re) = some (ofL (Yqd re)) := by unfold Yxd.f; rw [if_pos Zda, Ygb]
      have hcle := Yti re
      have := ih (ofL (Yqd re)) Zda Zda
      rw [Ygb] at this
      refine EvR.congr this (fun k => ?_)
      rw [Yza.j2, if_neg (by rw [hz]; decide), hcl, Kfa]
     ·rw [if_neg hz]
      refine EvR.congr (Yxn s Zk) (fun k => ?_)
      rw [Yza.j2, if_pos (decide_eq_true Zk)]
      cases Yrd.f k s <;> rfl
    ·rw [if_neg (fun h => hc h.1)]
     simp only [decide_eq_false hc, if_neg (show ¬ (false = true) by decide)]
     refine EvR.succ (EvR.congr (Yxn s Zk) (fun k => ?_))
     rw [Yza.j2, if_pos rfl]
     cases Yrd.f k s <;> rfl
   | false =>
    rw [hb] at hsch
    rw [if_neg (show ¬ (false = true) by decide)]
    refine EvR.congr (f := fun k => (Yma.f k s).bind fun dU => (if dU.2.2 = true then (Yza.j1 k s dU.1 dU.2.1 dU.2.2 false b0 b1 b2 b3 b4 b5 b6 b7) else ((Yub.f k s).bind fun uM => (Yza.j1 k s dU.1 dU.2.1 dU.2.2 (uM == 2) b0 b1 b2 b3 b4 b5 b6 b7)))) ?_ (fun k => by rw [Yza.l0, if_neg hbig])
    refine EvR.bind hsch ?_
    simp only [if_neg (show ¬ (false = true) by decide)]
    refine EvR.bind (Yhs s Zk) ?_
    refine EvR.succ ?_
    by_cases hz : Yjh s.data.toList = 2
    ·rw [if_pos hz]
     have pC : (⟨#[58]⟩ : Y).size = 1 := rfl
     have hx : (b0 ++ (⟨#[58]⟩ : Y) ++ s).data.toList = b0.data.toList ++ 58 :: s.data.toList := by
      rw [Yqi, Yqi]; simp
     have hxs : (b0 ++ (⟨#[58]⟩ : Y) ++ s).size ≤ 1000000000 := by simp only [ByteArray.size_append, pC]; omega
     have := Yxn (b0 ++ (⟨#[58]⟩ : Y) ++ s) hxs
     rw [hx] at this
     refine EvR.congr this (fun k => ?_)
     rw [Yza.j1, if_pos (by rw [hz]; rfl), if_pos Zk, if_pos (by simp only [ByteArray.size_append, pC]; omega)]
     cases Yrd.f k (b0 ++ (⟨#[58]⟩ : Y) ++ s) <;> rfl
    ·rw [if_neg hz]
     have hw : Yvf.f b0 b1 b2 b3 b4 b5 b6 b7 s = some (Yzg (Yfh b0 b1 b2 b3 b4 b6 s.data.toList)) := by
      unfold Yvf.f; rw [if_pos ⟨⟨p0, p1⟩, ⟨s0, s1⟩, ⟨s3, s4⟩, hs⟩]
     refine EvR.of fun k => ?_
     rw [Yza.j1, if_neg (by rw [beq_iff_eq]; omega), if_neg Zca, hw]
     rfl
def Ylk (b0 b1 : Y) (b2 : Int) (b3 b4 b5 : Y) (b6 b7 : Bool) (l : List UInt8) : UrlE :=
 if mayB b0 b1 b2 b3 b4 b5 b6 b7 = true then Yhl b0 b1 b2 b3 b4 b6 (l.length + 1) (Yqd l) else Ytb 1
theorem join_f {b0 b1 : Y} {b2 : Int} {b3 b4 b5 : Y} {b6 b7 : Bool} (h : Room b0 b1 b2 b3 b4 b5) (hz : (Ysd b0 b1 b2 b3 b4 b5 b6 b7).size ≤ 1000000) (s : Y) (hs : s.size ≤ 1000000) :
  EvR (fun k => Yza.f k b0 b1 b2 b3 b4 b5 b6 b7 s) (Ylk b0 b1 b2 b3 b4 b5 b6 b7 s.data.toList) := by
 unfold Yza.f Ylk
 refine EvR.bind (urlMay_f h hz) ?_
 cases hm : mayB b0 b1 b2 b3 b4 b5 b6 b7 with
 | true =>
  simp only [if_true]
  have hcl : Yxd.f s = some (ofL (Yqd s.data.toList)) := by unfold Yxd.f; rw [if_pos Zk]
  have hcle := Yti s.data.toList
  have hlen : s.data.toList.length = s.size := (Lib.size_eq s).symm
  obtain ⟨sch, host, path, query, frag, rfl, rfl, rfl, rfl, rfl, hc⟩ := Ynk hm
  obtain ⟨z1, z2, z3, z4, z5⟩ := Ywj hc
  have := joinL0_f (ofL sch) (ofL host) b2 (ofL path) (ofL query) (ofL frag) b6 b7 hc.p0 hc.p1 Zda Zda Zda Zda (s.data.toList.length + 1) (ofL (Yqd s.data.toList)) Zda Zda
  rw [Ygb] at this
  refine EvR.congr this (fun k => ?_)
  rw [hcl, Kfa]
 | false =>
  simp only [if_neg (show ¬ (false = true) by decide)]
  exact EvR.of fun k => rfl
theorem far_f {u1 u2 : Y} {u3 : Int} {u4 u5 u6 : Y} {u7 u8 : Bool} (h : Room u1 u2 u3 u4 u5 u6) :
  EvR (fun k => Ynd.f k u1 u2 u3 u4 u5 u6 u7 u8) (decide ((u1.size : Int) > 2200) || decide (((Ysd u1 u2 u3 u4 u5 u6 u7 u8).size : Int) > 2200)) := by
 have h3 := Yam u1 u2 u3 u4 u5 u6 u7 u8 h.s1 h.s2 h.s4 h.s5 h.s6 h.p0 h.p1
 have hl : ∀ s : Y, Yzb.f s = some (decide ((s.size : Int) > 2200)) := fun s => rfl
 unfold Ynd.f
 simp only [hl, Kfa]
 cases hb : decide ((u1.size : Int) > 2200) with
 | true => exact EvR.of fun k => rfl
 | false =>
  simp only [if_neg (show ¬ (false = true) by decide), Bool.false_or]
  exact EvR.bind h3 (EvR.of fun k => rfl)
end Go.Proofs.YtnmglnglbdpjjaaGreatDoor.X
end
section
namespace Go.Proofs.YtnmglnglbdpjjaaGreatDoor.X
open Go.RowKit Go.Lib Go.Shelf Go.Yw.PrintWords Go.Yw.PrintLast Go.Yw.PrintMore
theorem Yjp {sch host : List UInt8} {p : Int} {path query frag : List UInt8} {hq hf : Bool} : Ymg (Ytd (ofL sch) (ofL host) p (ofL path) (ofL query) (ofL frag) hq hf) ↔ (∀ b ∈ sch ++ 58 :: 47 :: 47 :: (host ++ (Ytg p ++ (path ++ (Ydf query hq ++ Ype frag hf)))), Yag b) := by
 unfold Ymg; rw [Ykh]
theorem Yav {sch host : List UInt8} {p : Int} {path query frag : List UInt8} {hq hf : Bool} (h : Canon sch host p path query frag hq hf) {iX fW frag2 : List UInt8} {cH iZ : Bool}
  (h1 : ∃ l, iX = Yxe l) (h2 : (cH = true ∧ ∃ q, fW = Yic Ykf q) ∨ (cH = false ∧ fW = [])) (h3 : (iZ = true ∧ ∃ q, frag2 = Yic Yyf q) ∨ (iZ = false ∧ frag2 = []))
  (hz : (Ytd (ofL sch) (ofL host) p (ofL iX) (ofL fW) (ofL frag2) cH iZ).size ≤ 2048) : Canon sch host p iX fW frag2 cH iZ := by
 have hs := Yjp.1 h.safe
 have zJ : Yag 63 := by unfold Yag; decide
 have h35 : Yag 35 := by unfold Yag; decide
 refine ⟨h.schIs, h.hostNe, h.hostIs, h.hostB, h.p0, h.p1, h.pOwn, h1, h2, h3, Yjp.2 ?_, hz⟩
 intro b hb
 have hpath : ∀ b ∈ iX, Yag b := by obtain ⟨l, rfl⟩ := h1; exact Ywq l
 have hquery : ∀ b ∈ Ydf fW cH, Yag b := by
  unfold Ydf
  rcases h2 with ⟨rfl, q, rfl⟩ | ⟨rfl, rfl⟩
  ·intro b hb
   rw [if_pos rfl] at hb
   rcases List.mem_cons.1 hb with rfl | hb
   ·exact zJ
   ·exact Yfj _ _ b hb
  ·intro b hb; simp at hb
 have hfrag : ∀ b ∈ Ype frag2 iZ, Yag b := by
  unfold Ype
  rcases h3 with ⟨rfl, q, rfl⟩ | ⟨rfl, rfl⟩
  ·intro b hb
   rw [if_pos rfl] at hb
   rcases List.mem_cons.1 hb with rfl | hb
   ·exact h35
   ·exact Yfj _ _ b hb
  ·intro b hb; simp at hb
 have hfront : ∀ b ∈ sch ++ 58 :: 47 :: 47 :: (host ++ Ytg p), Yag b := fun b hb => hs b (by
  simp only [List.mem_append, List.mem_cons] at hb ⊢
  rcases hb with x | x | x | x | x | x <;> simp [x])
 have e : sch ++ 58 :: 47 :: 47 :: (host ++ (Ytg p ++ (iX ++ (Ydf fW cH ++ Ype frag2 iZ)))) = (sch ++ 58 :: 47 :: 47 :: (host ++ Ytg p)) ++ (iX ++ (Ydf fW cH ++ Ype frag2 iZ)) := by simp
 rw [e] at hb
 rcases List.mem_append.1 hb with hb | hb
 ·exact hfront b hb
 ·rcases List.mem_append.1 hb with hb | hb
  ·exact hpath b hb
  ·rcases List.mem_append.1 hb with hb | hb
   ·exact hquery b hb
   ·exact hfrag b hb
theorem Yio (r : List UInt8) : (∃ l, Ycd r = ofL (Yxe l)) ∧
  (∃ query, Yyb r = ofL query ∧ ((Yqc r = true ∧ ∃ q, query = Yic Ykf q) ∨ (Yqc r = false ∧ query = []))) ∧
  (∃ frag, Ycc r = ofL frag ∧ ((Ydc r = true ∧ ∃ q, frag = Yic Yyf q) ∨ (Ydc r = false ∧ frag = []))) := by
 refine ⟨⟨_, rfl⟩, ?_, ?_⟩
 ·unfold Yyb Yqc
  cases Yve (Yjd r) with
  | none => exact ⟨[], rfl, .inr ⟨rfl, rfl⟩⟩
  | some q => exact ⟨_, rfl, .inl ⟨rfl, q, rfl⟩⟩
 ·unfold Ycc Ydc
  cases Ycf (Yeb (Yjd r)) with
  | none => exact ⟨[], rfl, .inr ⟨rfl, rfl⟩⟩
  | some q => exact ⟨_, rfl, .inl ⟨rfl, q, rfl⟩⟩
def Yko (u : UrlE) : Prop := (u.2.2.2.2.2.2.2.2 ≠ 0 ∧ u = Ytb u.2.2.2.2.2.2.2.2) ∨ (u.2.2.2.2.2.2.2.2 = 0 ∧ mayB u.1 u.2.1 u.2.2.1 u.2.2.2.1 u.2.2.2.2.1 u.2.2.2.2.2.1 u.2.2.2.2.2.2.1 u.2.2.2.2.2.2.2.1 = true)
theorem Yzm (e : Int) (h : e ≠ 0) : Yko (Ytb e) := .inl ⟨h, rfl⟩
theorem Ydp (l : List UInt8) : Yko (Yqf l) := by
 cases hr : Yqf l with
 | mk u1 x1 =>
 obtain ⟨u2, u3, u4, u5, u6, u7, u8, u9⟩ := x1
 by_cases h9 : u9 = 0
 ·subst h9
  obtain ⟨host, r, hp⟩ := Ybr hr
  obtain ⟨sch, path, query, frag, rfl, rfl, rfl, rfl, rfl, hc⟩ := Yeu hp
  exact .inr ⟨rfl, Ydn hc⟩
 ·exact .inl ⟨h9, You hr h9⟩
theorem Yms {sch host : List UInt8} {p : Int} {path query frag : List UInt8} {hq hf : Bool} (h : Canon sch host p path query frag hq hf) (l : List UInt8) :
  Yko (Yzg (Yfh (ofL sch) (ofL host) p (ofL path) (ofL query) hq l)) := by
 have fin : ∀ {iX fW frag2 : List UInt8} {cH iZ : Bool}, (∃ l, iX = Yxe l) → ((cH = true ∧ ∃ q, fW = Yic Ykf q) ∨ (cH = false ∧ fW = [])) → ((iZ = true ∧ ∃ q, frag2 = Yic Yyf q) ∨ (iZ = false ∧ frag2 = [])) →
   Yko (Yzg (ofL sch, ofL host, p, ofL iX, ofL fW, ofL frag2, cH, iZ)) := by
  intro iX fW frag2 cH iZ h1 h2 h3
  unfold Yzg
  simp only
  by_cases hz : ((Ytd (ofL sch) (ofL host) p (ofL iX) (ofL fW) (ofL frag2) cH iZ).size : Int) > 2048
  ·rw [if_pos hz]; exact Yzm 5 Zca
  ·rw [if_neg hz]
   have lL : (Ytd (ofL sch) (ofL host) p (ofL iX) (ofL fW) (ofL frag2) cH iZ).size ≤ 2048 := by omega
   have hcn := Ydn (Yav h h1 h2 h3 lL)
   exact .inr ⟨rfl, hcn⟩
 have tl : ∀ r, Yko (Yzg (Yii (ofL sch) (ofL host) p r)) := by
  intro r
  obtain ⟨⟨l1, e1⟩, ⟨q1, e2, e3⟩, ⟨f1, e4, e5⟩⟩ := Yio r
  unfold Yii
  rw [e1, e2, e4]
  exact fin ⟨_, rfl⟩ e3 e5
 cases l with
 | nil => exact fin (frag2 := []) h.pathIs h.queryIs (.inr ⟨rfl, rfl⟩)
 | cons c t =>
  obtain ⟨⟨l1, e1⟩, ⟨q1, e2, e3⟩, ⟨f1, e4, e5⟩⟩ := Yio (c :: t)
  rw [Yki]
  by_cases c1 : c = 35
  ·rw [if_pos c1, e4]
   subst c1
   have uT : Ydc (35 :: t) = true := by
    have e : Yjd (35 :: t) = 35 :: t := by unfold Yjd; rw [List.dropWhile_cons_of_neg Zca]
    unfold Ydc
    rw [e]; simp [Yeb, Ycf]
   rcases e5 with ⟨_, q, rfl⟩ | ⟨h2, _⟩
   ·exact fin h.pathIs h.queryIs (.inl ⟨rfl, q, rfl⟩)
   ·rw [uT] at h2; cases h2
  ·rw [if_neg c1]
   by_cases c2 : c = 63
   ·rw [if_pos c2, e2, e4]
    exact fin h.pathIs e3 e5
   ·rw [if_neg c2]
    by_cases c3 : Yrb c = true
    ·rw [if_pos c3]; exact tl _
    ·rw [if_neg c3]; exact tl _
theorem good_join {sch host : List UInt8} {p : Int} {path query frag : List UInt8} {hq hf : Bool} (h : Canon sch host p path query frag hq hf) : ∀ (n : Nat) (l : List UInt8), Yko (Yhl (ofL sch) (ofL host) p (ofL path) (ofL query) hq n l) := by
 intro n
 induction n with
 | zero => intro l; exact Yzm 3 Zca
 | succ n ih =>
  intro l
  unfold Yhl
  by_cases c1 : (l.length : Int) > 2048
  ·rw [if_pos c1]; exact Yzm 5 Zca
  ·rw [if_neg c1]
   by_cases c2 : (Yoe l).2.2 = true
   ·rw [if_pos c2]
    split
    ·exact ih _
    ·exact Ydp _
   ·rw [if_neg c2]
    by_cases c3 : Yjh l = 2
    ·rw [if_pos c3]; exact Ydp _
    ·rw [if_neg c3]; exact Yms h l
theorem join_good {b1 b2 : Y} {b3 : Int} {b4 b5 b6 : Y} {b7 b8 : Bool} (hb : mayB b1 b2 b3 b4 b5 b6 b7 b8 = true) (l : List UInt8) : Yko (Ylk b1 b2 b3 b4 b5 b6 b7 b8 l) := by
 obtain ⟨sch, host, path, query, frag, rfl, rfl, rfl, rfl, rfl, hc⟩ := Ynk hb
 unfold Ylk
 rw [if_pos hb]
 exact good_join hc _ _
end Go.Proofs.YtnmglnglbdpjjaaGreatDoor.X
end
