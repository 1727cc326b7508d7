/- What is joined may be; a URL's own text, and its link, is joined to it. -/
import Derived.Test.YtnmglnglbdpjjaaGreatDoorUjWords
import Derived.Test.YtnmglnglbdpjjaaGreatDoorUjJq
namespace Go.Proofs.YtnmglnglbdpjjaaGreatDoor.X
open Go.RowKit Go.Lib Go.Shelf Go.Yw.PrintWords Go.Yw.PrintLast Go.Yw.PrintMore
set_option linter.unusedVariables false
set_option linter.unusedSimpArgs false
theorem Ynq {sch host : List UInt8} {p : Int} {path query frag : List UInt8} {hq hf : Bool} (h : Canon sch host p path query frag hq hf) :
  Yue (Yjd (ofL sch) (ofL host) p (ofL path) (ofL query) (ofL frag) hq hf).data.toList = (sch, 47 :: 47 :: (host ++ (Ylg p ++ (path ++ (Yqe query hq ++ Yge frag hf)))), true) := by
 rw [Yng]
 unfold Yue
 rw [Yer 58 sch _ (by rcases h.schIs with e | e <;> rw [e] <;> decide)]
 simp only []
 rcases h.schIs with e | e <;> subst e
 ·rw [if_pos Zia]
 ·rw [if_pos Zia]
theorem Ycu (l : List UInt8) : Yfi (47 :: 47 :: l) = 2 := by
 unfold Yfi
 rw [List.take_succ_cons, List.take_succ_cons]
 simp [Yxb]
theorem join_self {b1 b2 : ByteArray} {b3 : Int} {b4 b5 b6 : ByteArray} {b7 b8 : Bool} (hb : mayB b1 b2 b3 b4 b5 b6 b7 b8 = true) {sch host : List UInt8} {p : Int} {path query frag : List UInt8} {hq hf : Bool} (h : Canon sch host p path query frag hq hf) :
  Ywk b1 b2 b3 b4 b5 b6 b7 b8 (Yjd (ofL sch) (ofL host) p (ofL path) (ofL query) (ofL frag) hq hf).data.toList = (ofL sch, ofL host, p, ofL path, ofL query, ofL frag, hq, hf, 0) := by
 have hcl := Ypn _ h.safe
 have hsz := h.size
 have hs := Ynq h
 unfold Ywk
 rw [if_pos hb, hcl]
 unfold Yjo
 rw [if_neg Zeb, hs, if_pos rfl, if_neg (fun hx => by have := hx.2; simp only [Ycu] at this; omega)]
 exact round h
theorem Yto {sch host : List UInt8} {p : Int} {path query frag : List UInt8} {hq hf : Bool} : Yig (Yjd (ofL sch) (ofL host) p (ofL path) (ofL query) (ofL frag) hq hf) ↔ (∀ b ∈ sch ++ 58 :: 47 :: 47 :: (host ++ (Ylg p ++ (path ++ (Yqe query hq ++ Yge frag hf)))), Yvf b) := by
 unfold Yig; rw [Yng]
theorem Yrt {sch host : List UInt8} {p : Int} {path query frag : List UInt8} {hq hf : Bool} (h : Canon sch host p path query frag hq hf) {path2 query2 frag2 : List UInt8} {hq2 hf2 : Bool}
  (h1 : ∃ l, path2 = Yre l) (h2 : (hq2 = true ∧ ∃ q, query2 = Ydc Ygf q) ∨ (hq2 = false ∧ query2 = [])) (h3 : (hf2 = true ∧ ∃ q, frag2 = Ydc Ytf q) ∨ (hf2 = false ∧ frag2 = []))
  (hz : (Yjd (ofL sch) (ofL host) p (ofL path2) (ofL query2) (ofL frag2) hq2 hf2).size ≤ 2048) : Canon sch host p path2 query2 frag2 hq2 hf2 := by
 have hs := Yto.1 h.safe
 have h63 : Yvf 63 := by unfold Yvf; decide
 have h35 : Yvf 35 := by unfold Yvf; decide
 refine ⟨h.schIs, h.hostNe, h.hostIs, h.hostB, h.p0, h.p1, h.pOwn, h1, h2, h3, Yto.2 ?_, hz⟩
 intro b hb
 have hpath : ∀ b ∈ path2, Yvf b := by obtain ⟨l, rfl⟩ := h1; exact Ywp l
 have hquery : ∀ b ∈ Yqe query2 hq2, Yvf b := by
  unfold Yqe
  rcases h2 with ⟨rfl, q, rfl⟩ | ⟨rfl, rfl⟩
  ·intro b hb
   rw [if_pos rfl] at hb
   rcases List.mem_cons.1 hb with rfl | hb
   ·exact h63
   ·exact Yej _ _ b hb
  ·intro b hb; simp at hb
 have hfrag : ∀ b ∈ Yge frag2 hf2, Yvf b := by
  unfold Yge
  rcases h3 with ⟨rfl, q, rfl⟩ | ⟨rfl, rfl⟩
  ·intro b hb
   rw [if_pos rfl] at hb
   rcases List.mem_cons.1 hb with rfl | hb
   ·exact h35
   ·exact Yej _ _ b hb
  ·intro b hb; simp at hb
 have hfront : ∀ b ∈ sch ++ 58 :: 47 :: 47 :: (host ++ Ylg p), Yvf b := fun b hb => hs b (by
  simp only [List.mem_append, List.mem_cons] at hb ⊢
  rcases hb with x | x | x | x | x | x <;> simp [x])
 have e : sch ++ 58 :: 47 :: 47 :: (host ++ (Ylg p ++ (path2 ++ (Yqe query2 hq2 ++ Yge frag2 hf2)))) = (sch ++ 58 :: 47 :: 47 :: (host ++ Ylg p)) ++ (path2 ++ (Yqe query2 hq2 ++ Yge frag2 hf2)) := by simp
 rw [e] at hb
 rcases List.mem_append.1 hb with hb | hb
 ·exact hfront b hb
 ·rcases List.mem_append.1 hb with hb | hb
  ·exact hpath b hb
  ·rcases List.mem_append.1 hb with hb | hb
   ·exact hquery b hb
   ·exact hfrag b hb
theorem Yio (r : List UInt8) : (∃ l, Ydd r = ofL (Yre l)) ∧
  (∃ query, Yac r = ofL query ∧ ((Yvc r = true ∧ ∃ q, query = Ydc Ygf q) ∨ (Yvc r = false ∧ query = []))) ∧
  (∃ frag, Ylc r = ofL frag ∧ ((Yqc r = true ∧ ∃ q, frag = Ydc Ytf q) ∨ (Yqc r = false ∧ frag = []))) := by
 refine ⟨⟨_, rfl⟩, ?_, ?_⟩
 ·unfold Yac Yvc
  cases Yoe (Yod r) with
  | none => exact ⟨[], rfl, .inr ⟨rfl, rfl⟩⟩
  | some q => exact ⟨_, rfl, .inl ⟨rfl, q, rfl⟩⟩
 ·unfold Ylc Yqc
  cases Ycf (Ycb (Yod r)) with
  | none => exact ⟨[], rfl, .inr ⟨rfl, rfl⟩⟩
  | some q => exact ⟨_, rfl, .inl ⟨rfl, q, rfl⟩⟩
def Yoo (u : UrlE) : Prop := (u.2.2.2.2.2.2.2.2 ≠ 0 ∧ u = Ytb u.2.2.2.2.2.2.2.2) ∨ (u.2.2.2.2.2.2.2.2 = 0 ∧ mayB u.1 u.2.1 u.2.2.1 u.2.2.2.1 u.2.2.2.2.1 u.2.2.2.2.2.1 u.2.2.2.2.2.2.1 u.2.2.2.2.2.2.2.1 = true)
theorem Ykm (e : Int) (h : e ≠ 0) : Yoo (Ytb e) := .inl ⟨h, rfl⟩
theorem Yun (l : List UInt8) : Yoo (Yrf l) := by
 cases hr : Yrf l with
 | mk u1 x1 =>
 obtain ⟨u2, u3, u4, u5, u6, u7, u8, u9⟩ := x1
 by_cases h9 : u9 = 0
 ·subst h9
  obtain ⟨host, r, hp⟩ := Ydq hr
  obtain ⟨sch, path, query, frag, rfl, rfl, rfl, rfl, rfl, hc⟩ := Yat hp
  exact .inr ⟨rfl, Ysm hc⟩
 ·exact .inl ⟨h9, Yxt hr h9⟩
theorem Yzr {sch host : List UInt8} {p : Int} {path query frag : List UInt8} {hq hf : Bool} (h : Canon sch host p path query frag hq hf) (l : List UInt8) :
  Yoo (Ywi (Ybi (ofL sch) (ofL host) p (ofL path) (ofL query) hq l)) := by
 have fin : ∀ {path2 query2 frag2 : List UInt8} {hq2 hf2 : Bool}, (∃ l, path2 = Yre l) → ((hq2 = true ∧ ∃ q, query2 = Ydc Ygf q) ∨ (hq2 = false ∧ query2 = [])) → ((hf2 = true ∧ ∃ q, frag2 = Ydc Ytf q) ∨ (hf2 = false ∧ frag2 = [])) →
   Yoo (Ywi (ofL sch, ofL host, p, ofL path2, ofL query2, ofL frag2, hq2, hf2)) := by
  intro path2 query2 frag2 hq2 hf2 h1 h2 h3
  unfold Ywi
  simp only
  by_cases hz : ((Yjd (ofL sch) (ofL host) p (ofL path2) (ofL query2) (ofL frag2) hq2 hf2).size : Int) > 2048
  ·rw [if_pos hz]; exact Ykm 5 Zda
  ·rw [if_neg hz]
   have hz2 : (Yjd (ofL sch) (ofL host) p (ofL path2) (ofL query2) (ofL frag2) hq2 hf2).size ≤ 2048 := by omega
   have hcn := Ysm (Yrt h h1 h2 h3 hz2)
   exact .inr ⟨rfl, hcn⟩
 have tl : ∀ r, Yoo (Ywi (Yvi (ofL sch) (ofL host) p r)) := by
  intro r
  obtain ⟨⟨l1, e1⟩, ⟨q1, e2, e3⟩, ⟨f1, e4, e5⟩⟩ := Yio r
  unfold Yvi
  rw [e1, e2, e4]
  exact fin ⟨_, rfl⟩ e3 e5
 cases l with
 | nil => exact fin (frag2 := []) h.pathIs h.queryIs (.inr ⟨rfl, rfl⟩)
 | cons c t =>
  obtain ⟨⟨l1, e1⟩, ⟨q1, e2, e3⟩, ⟨f1, e4, e5⟩⟩ := Yio (c :: t)
  rw [Ygj]
  by_cases c1 : c = 35
  ·rw [if_pos c1, e4]
   subst c1
   have hf1 : Yqc (35 :: t) = true := by
    have e : Yod (35 :: t) = 35 :: t := by unfold Yod; rw [List.dropWhile_cons_of_neg Zda]
    unfold Yqc
    rw [e]; simp [Ycb, Ycf]
   rcases e5 with ⟨_, q, rfl⟩ | ⟨h2, _⟩
   ·exact fin h.pathIs h.queryIs (.inl ⟨rfl, q, rfl⟩)
   ·rw [hf1] at h2; cases h2
  ·rw [if_neg c1]
   by_cases c2 : c = 63
   ·rw [if_pos c2, e2, e4]
    exact fin h.pathIs e3 e5
   ·rw [if_neg c2]
    by_cases c3 : Yxb c = true
    ·rw [if_pos c3]; exact tl _
    ·rw [if_neg c3]; exact tl _
theorem good_join {sch host : List UInt8} {p : Int} {path query frag : List UInt8} {hq hf : Bool} (h : Canon sch host p path query frag hq hf) : ∀ (n : Nat) (l : List UInt8), Yoo (Yjo (ofL sch) (ofL host) p (ofL path) (ofL query) hq n l) := by
 intro n
 induction n with
 | zero => intro l; exact Ykm 3 Zda
 | succ n ih =>
  intro l
  unfold Yjo
  by_cases c1 : (l.length : Int) > 2048
  ·rw [if_pos c1]; exact Ykm 5 Zda
  ·rw [if_neg c1]
   by_cases c2 : (Yue l).2.2 = true
   ·rw [if_pos c2]
    split
    ·exact ih _
    ·exact Yun _
   ·rw [if_neg c2]
    by_cases c3 : Yfi l = 2
    ·rw [if_pos c3]; exact Yun _
    ·rw [if_neg c3]; exact Yzr h l
theorem join_good {b1 b2 : ByteArray} {b3 : Int} {b4 b5 b6 : ByteArray} {b7 b8 : Bool} (hb : mayB b1 b2 b3 b4 b5 b6 b7 b8 = true) (l : List UInt8) : Yoo (Ywk b1 b2 b3 b4 b5 b6 b7 b8 l) := by
 obtain ⟨sch, host, path, query, frag, rfl, rfl, rfl, rfl, rfl, hc⟩ := Yfh hb
 unfold Ywk
 rw [if_pos hb]
 exact good_join hc _ _
theorem join_bare {b1 b2 : ByteArray} {b3 : Int} {b4 b5 b6 : ByteArray} {b7 b8 : Bool} (hb : mayB b1 b2 b3 b4 b5 b6 b7 b8 = true) (l : List UInt8) : mayB b1 b2 b3 b4 b5 ⟨#[]⟩ b7 false = true ∧ Ywk b1 b2 b3 b4 b5 ⟨#[]⟩ b7 false l = Ywk b1 b2 b3 b4 b5 b6 b7 b8 l := by
 obtain ⟨sch, host, path, query, frag, rfl, rfl, rfl, rfl, rfl, hc⟩ := Yfh hb
 have h2 : mayB (ofL sch) (ofL host) b3 (ofL path) (ofL query) ⟨#[]⟩ b7 false = true := Ysm (Ymj hc)
 refine ⟨h2, ?_⟩
 unfold Ywk
 rw [if_pos hb, if_pos h2]
end Go.Proofs.YtnmglnglbdpjjaaGreatDoor.X
