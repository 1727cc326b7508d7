/- Link, the program's and the document's, is one function; it is joined to its URL. -/
import Derived.Test.YtnmglnglbdpjjaaGreatDoorUkWords
import Derived.Test.YtnmglnglbdpjjaaGreatDoorUkJn
namespace Go.Proofs.YtnmglnglbdpjjaaGreatDoor.X
open Go.RowKit Go.Lib Go.Shelf Go.Yw.PrintWords Go.Yw.PrintLast Go.Yw.PrintMore
set_option linter.unusedVariables false
set_option linter.unusedSimpArgs false
theorem Yan (sch host : List UInt8) (p : Int) : (Yie (ofL sch) (ofL host) p).data.toList = sch ++ 58 :: 47 :: 47 :: (host ++ Yme p) := by
 have h1 : (⟨#[58, 47, 47]⟩ : ByteArray).data.toList = [58, 47, 47] := rfl
 have h2 : (⟨#[58]⟩ : ByteArray).data.toList = [58] := rfl
 unfold Yie Yme
 split
 ·simp only [Ymi, Ygb, h1]; simp
 ·simp only [Ymi, Ygb, h1, h2, Yfq]; simp
theorem Yij (a0 a1 : ByteArray) (p : Int) (hp : 0 ≤ p) : Yoe a0 a1 p = Yie a0 a1 p := by
 unfold Yoe Yie Yri; rw [if_neg (show ¬ p < 0 by omega)]
theorem Yfo (a0 a1 : ByteArray) (p : Int) : a0.size + 1 ≤ (Yoe a0 a1 p).size := by
 unfold Yoe
 split
 ·simp only [ByteArray.size_append, Ydi]; omega
 ·simp only [ByteArray.size_append, Ydi, Ykl]; omega
theorem Ygo (a0 a1 : ByteArray) (p : Int) (a3 a4 a5 : ByteArray) (q f : Bool) : (Yoe a0 a1 p).size ≤ (Ykc a0 a1 p a3 a4 a5 q f).size := by
 unfold Ykc Yei Yvi
 cases q <;> cases f <;> simp only [if_true, if_false, Bool.false_eq_true, ByteArray.size_append, Yjj, Ypj] <;> omega
theorem Yun (a0 a1 : ByteArray) (p : Int) : Ykc a0 a1 p ⟨#[]⟩ ⟨#[]⟩ ⟨#[]⟩ false false = Yoe a0 a1 p := by
 unfold Ykc Yei Yvi
 simp only [Bool.false_eq_true, if_false]
 exact Ytg (by rw [Lib.toList_data, Lib.toList_data, ByteArray.data_append, Array.toList_append]; simp)
def Ykm (b1 b2 : ByteArray) (b3 : Int) (b4 b5 b6 : ByteArray) (b7 b8 : Bool) (u1 u2 : ByteArray) (u3 : Int) (u4 u5 u6 : ByteArray) (u7 u8 : Bool) : ByteArray :=
 if (mayB b1 b2 b3 b4 b5 b6 b7 b8 = true ∧ mayB u1 u2 u3 u4 u5 u6 u7 u8 = true) ∧ b1.toList = u1.toList then
  (if (Yoe b1 b2 b3).toList = (Yoe u1 u2 u3).toList ∧ Yeg u4.data.toList = 1 then (Ykc u1 u2 u3 u4 u5 u6 u7 u8).extract (Yoe u1 u2 u3).size (Ykc u1 u2 u3 u4 u5 u6 u7 u8).size
  else (Ykc u1 u2 u3 u4 u5 u6 u7 u8).extract (u1.size + 1) (Ykc u1 u2 u3 u4 u5 u6 u7 u8).size)
 else Ykc u1 u2 u3 u4 u5 u6 u7 u8
theorem Yen {b1 b2 : ByteArray} {b3 : Int} {b4 b5 b6 : ByteArray} {b7 b8 : Bool} {u1 u2 : ByteArray} {u3 : Int} {u4 u5 u6 : ByteArray} {u7 u8 : Bool} (rb : Room b1 b2 b3 b4 b5 b6) (ru : Room u1 u2 u3 u4 u5 u6) (zb : (Ykc b1 b2 b3 b4 b5 b6 b7 b8).size ≤ 1000000) (zu : (Ykc u1 u2 u3 u4 u5 u6 u7 u8).size ≤ 1000000)
  (l : ByteArray) (hl : Ykm b1 b2 b3 b4 b5 b6 b7 b8 u1 u2 u3 u4 u5 u6 u7 u8 = l) (w : World) (hE : EnvOk w) :
  Calls Tryz.prog 40 #[.agg (uc b1 b2 b3 b4 b5 b6 b7 b8), .agg (uc u1 u2 u3 u4 u5 u6 u7 u8)] w fun e w' => e = .returned (.string l) ∧ Below w.heap.size w w' := by
 subst hl
 obtain ⟨k0, h0⟩ := Ypm u1 u2 u3 u4 u5 u6 u7 u8 ru.s1 ru.s2 ru.s4 ru.s5 ru.s6 ru.p0 ru.p1
 obtain ⟨k1, h1⟩ := Yep (u7 := b7) (u8 := b8) rb zb
 obtain ⟨k2, h2⟩ := Yep (u7 := u7) (u8 := u8) ru zu
 obtain ⟨k3, h3⟩ := Yvm u1 u2 u3 u4 u5 u6 u7 u8 ru.s1 ru.s2 ru.p0 ru.p1
 obtain ⟨k4, h4⟩ := Yvm b1 b2 b3 b4 b5 b6 b7 b8 rb.s1 rb.s2 rb.p0 rb.p1
 have g0 := h0 k0 (Nat.le_refl _)
 have g1 := h1 k1 (Nat.le_refl _)
 have g2 := h2 k2 (Nat.le_refl _)
 have g3 := h3 k3 (Nat.le_refl _)
 have g4 := h4 k4 (Nat.le_refl _)
 have hge := Ygo u1 u2 u3 u4 u5 u6 u7 u8
 have hgo := Yfo u1 u2 u3
 unfold Ykm
 cases hb : mayB b1 b2 b3 b4 b5 b6 b7 b8 with
 | false =>
  rw [hb] at g1
  rw [if_neg (by rintro ⟨⟨h, _⟩, _⟩; cases h)]
  exact pLink_no0 k0 k1 0 0 0 0 b1 b2 b3 b4 b5 b6 b7 b8 u1 u2 u3 u4 u5 u6 u7 u8 _ ⟨#[]⟩ w hE g0 g1
 | true =>
  rw [hb] at g1
  cases hu : mayB u1 u2 u3 u4 u5 u6 u7 u8 with
  | false =>
   rw [hu] at g2
   rw [if_neg (by rintro ⟨⟨_, h⟩, _⟩; cases h)]
   exact pLink_no1 k0 k1 k2 0 0 0 b1 b2 b3 b4 b5 b6 b7 b8 u1 u2 u3 u4 u5 u6 u7 u8 _ ⟨#[]⟩ w hE g0 g1 g2
  | true =>
   rw [hu] at g2
   by_cases hq : b1.toList = u1.toList
   ·rw [if_pos ⟨⟨rfl, rfl⟩, hq⟩]
    obtain ⟨sch, host, path, query, frag, e1, e2, e4, e5, e6, hc⟩ := Yji hu
    obtain ⟨k5, h5⟩ := Yln u4 (by rw [e4, Yea]; have := Yzm hc; omega)
    have g5 := h5 k5 (Nat.le_refl _)
    by_cases ho : (Yoe b1 b2 b3).toList = (Yoe u1 u2 u3).toList
    ·by_cases hs : Yeg u4.data.toList = 1
     ·rw [if_pos ⟨ho, hs⟩]
      simp only [hs] at g5
      exact Ydu k0 k1 k2 k3 k4 k5 b1 b2 b3 b4 b5 b6 b7 b8 u1 u2 u3 u4 u5 u6 u7 u8 _ _ _ w hE g0 g1 g2 hq g3 g4 ho g5 hge
     ·rw [if_neg (fun h => hs h.2)]
      exact pLink_two k0 k1 k2 k3 k4 k5 b1 b2 b3 b4 b5 b6 b7 b8 u1 u2 u3 u4 u5 u6 u7 u8 _ _ _ _ w hE g0 g1 g2 hq g3 g4 ho g5 Zl Zl zu
    ·rw [if_neg (fun h => ho h.1)]
     exact pLink_far k0 k1 k2 k3 k4 0 b1 b2 b3 b4 b5 b6 b7 b8 u1 u2 u3 u4 u5 u6 u7 u8 _ _ _ w hE g0 g1 g2 hq g3 g4 ho Zl zu
   ·rw [if_neg (fun h => hq h.2)]
    exact pLink_no2 k0 k1 k2 0 0 0 b1 b2 b3 b4 b5 b6 b7 b8 u1 u2 u3 u4 u5 u6 u7 u8 _ ⟨#[]⟩ w hE g0 g1 g2 hq
theorem Ywo {sch host path query frag : List UInt8} {p : Int} {hq hf : Bool} {host2 aLy aHl aLz : List UInt8} {p2 : Int} {cV sZ : Bool} (h : Canon sch host p path query frag hq hf) (h2 : Canon sch host2 p2 aLy aHl aLz cV sZ)
  (e : Yie (ofL sch) (ofL host) p = Yie (ofL sch) (ofL host2) p2) : host = host2 ∧ p = p2 := by
 have e1 := congrArg (fun x : ByteArray => x.data.toList) e
 simp only [Yan] at e1
 have e2 : host ++ Yme p = host2 ++ Yme p2 := by simpa using e1
 have hp : ∀ q : Int, Yme q = [] ∨ ∃ t, Yme q = 58 :: t := by
  intro q; unfold Yme; split
  ·exact .inl rfl
  ·exact .inr ⟨_, rfl⟩
 have cut : ∀ (x y : List UInt8) , (∀ b ∈ x, b ≠ 58) → (y = [] ∨ ∃ t, y = 58 :: t) → (x ++ y).takeWhile (· != 58) = x ∧ (x ++ y).dropWhile (· != 58) = y := by
  intro x y hx hy
  have := Yzj (· != 58) x y (fun b hb => by simpa using hx b hb)
  rcases hy with rfl | ⟨t, rfl⟩
  ·simpa using this
  ·rw [List.takeWhile_cons_of_neg Zv, List.dropWhile_cons_of_neg Zv, List.append_nil] at this; exact this
 have c1 := cut host (Yme p) (fun b hb => (h.hostB b hb).2.2.2.2.2.1) (hp p)
 have c2 := cut host2 (Yme p2) (fun b hb => (h2.hostB b hb).2.2.2.2.2.1) (hp p2)
 rw [e2] at c1
 have eh : host = host2 := c1.1.symm.trans c2.1
 have ep : Yme p = Yme p2 := c1.2.symm.trans c2.2
 refine ⟨eh, ?_⟩
 have g0 := h.p0
 have g1 := h.p1
 have k0 := h2.p0
 have k1 := h2.p1
 unfold Yme at ep
 by_cases z : p = 0
 ·rw [if_pos z] at ep
  by_cases z2 : p2 = 0
  ·rw [z, z2]
  ·rw [if_neg z2] at ep; cases ep
 ·rw [if_neg z] at ep
  by_cases z2 : p2 = 0
  ·rw [if_pos z2] at ep; cases ep
  ·rw [if_neg z2] at ep
   have et : Yaj p.toNat = Yaj p2.toNat := by simpa using ep
   have n1 := Yto p.toNat Zl Zl
   have n2 := Yto p2.toNat Zl Zl
   rw [et, n2] at n1
   have := (Prod.mk.inj n1).1
   omega
def Ytj (path query frag : List UInt8) (hq hf : Bool) : List UInt8 := path ++ (Ywd query hq ++ Yyd frag hf)
theorem Ypo (c : UInt8) (t : List UInt8) (h : Ycd c = false) : (Yse (c :: t)).2.2 = false := by
 unfold Yse
 split
 ·next hc =>
  exfalso
  have h3 := hc.2.2.1
  have hne := hc.2.1
  have : (Lib.cut (c :: t) [58]).1.headD 0 = c ∨ (Lib.cut (c :: t) [58]).1 = [] := by
   unfold Lib.cut
   split
   ·cases hx : (Lib.index (c :: t) [58]).toNat with
    | zero => right; rfl
    | succ n => left; rfl
   ·left; rfl
  rcases this with e | e
  ·rw [e, h] at h3; cases h3
  ·exact hne e
 ·rfl
theorem Yhs {path : List UInt8} (hp : ∃ l, path = Ydf l) (h : Yeg path = 1) (rest : List UInt8) (hr : rest = [] ∨ (∃ t, rest = 63 :: t) ∨ (∃ t, rest = 35 :: t)) : Yeg (path ++ rest) ≠ 2 := by
 obtain ⟨l, rfl⟩ := hp
 unfold Ydf at h ⊢
 unfold Yeg at h ⊢
 generalize Lib.join (Ytc (Ygd l) []) [47] = q at h ⊢
 cases q with
 | nil =>
  rcases hr with rfl | ⟨t, rfl⟩ | ⟨t, rfl⟩
  ·simp [Yrb]
  ·simp [Yrb]
  ·simp [Yrb]
 | cons c t =>
  rw [List.cons_append, List.cons_append, List.take_succ_cons, List.take_succ_cons] 
  rw [List.take_succ_cons, List.take_succ_cons] at h
  have h47 : Yrb 47 = true := by decide
  by_cases hc : Yrb c = true
  ·rw [List.takeWhile_cons_of_pos h47, List.takeWhile_cons_of_pos hc] at h
   simp at h
  ·rw [List.takeWhile_cons_of_pos h47, List.takeWhile_cons_of_neg hc]
   simp
theorem join_rest {sch host : List UInt8} {p : Int} {path query frag : List UInt8} {hq hf : Bool} (h : Canon sch host p path query frag hq hf) {jZ iG kA : List UInt8} {hq0 hf0 : Bool} (hb : Canon sch host p jZ iG kA hq0 hf0) (h1 : Yeg path = 1) :
  Ybm (ofL sch) (ofL host) p (ofL jZ) (ofL iG) (ofL kA) hq0 hf0 (Ytj path query frag hq hf) = (ofL sch, ofL host, p, ofL path, ofL query, ofL frag, hq, hf, 0) := by
 have hsafe : ∀ b ∈ Ytj path query frag hq hf, Ydh b := fun b hx => Yyn.1 h.safe b (by
  unfold Ytj at hx
  simp only [List.mem_append, List.mem_cons] at hx ⊢
  rcases hx with x | x | x <;> simp [x])
 have hcl := Ykj _ hsafe
 have hz := h.size
 have hlen : (Ytj path query frag hq hf).length ≤ 2048 := by
  have := h.size
  rw [Lib.size_eq, Ybg] at this
  unfold Ytj
  simp only [List.length_append, List.length_cons] at this ⊢
  omega
 have hpath : ∃ t, path = 47 :: t := by obtain ⟨l, rfl⟩ := h.pathIs; exact ⟨_, rfl⟩
 have hrest : Ywd query hq ++ Yyd frag hf = [] ∨ (∃ t, Ywd query hq ++ Yyd frag hf = 63 :: t) ∨ (∃ t, Ywd query hq ++ Yyd frag hf = 35 :: t) := by
  unfold Ywd Yyd
  cases hq with
  | true => exact .inr (.inl ⟨_, rfl⟩)
  | false => cases hf with
   | true => exact .inr (.inr ⟨_, rfl⟩)
   | false => exact .inl rfl
 have tA := Yhs h.pathIs h1 _ hrest
 have hT := Yxo h.pathIs h.queryIs h.fragIs
 unfold Ybm
 rw [if_pos (Yom hb), hcl]
 unfold Ybp
 rw [if_neg Zl]
 have hform : ∃ t, Ytj path query frag hq hf = 47 :: t := by obtain ⟨t, ht⟩ := hpath; exact ⟨_, by unfold Ytj; rw [ht]; rfl⟩
 have hre : Ytj path query frag hq hf = path ++ (Ywd query hq ++ Yyd frag hf) := rfl
 obtain ⟨t, ht⟩ := hform
 have hns : (Yse (Ytj path query frag hq hf)).2.2 = false := by rw [ht]; exact Ypo 47 t Zea
 rw [if_neg (by rw [hns]; decide), if_neg (by rw [hre]; exact tA), ht, Ymj, if_neg Zea, if_neg Zea, if_pos Zea, ← ht, hre]
 unfold Ycj
 rw [hT.1, hT.2.1, hT.2.2.1, hT.2.2.2.1, hT.2.2.2.2]
 unfold Yvl
 simp only
 rw [if_neg Zl]
theorem Yft {sch host : List UInt8} {p : Int} {path query frag : List UInt8} {hq hf : Bool} (h : Canon sch host p path query frag hq hf) {b2 : ByteArray} {b3 : Int} {b4 b5 b6 : ByteArray} {b7 b8 : Bool} (hb : mayB (ofL sch) b2 b3 b4 b5 b6 b7 b8 = true) :
  Ybm (ofL sch) b2 b3 b4 b5 b6 b7 b8 (47 :: 47 :: (host ++ (Yme p ++ (path ++ (Ywd query hq ++ Yyd frag hf))))) = (ofL sch, ofL host, p, ofL path, ofL query, ofL frag, hq, hf, 0) := by
 have hz := h.size
 rw [Lib.size_eq, Ybg] at hz
 have hsafe : ∀ b ∈ 47 :: 47 :: (host ++ (Yme p ++ (path ++ (Ywd query hq ++ Yyd frag hf)))), Ydh b := fun b hx => Yyn.1 h.safe b (by
  rw [List.mem_append]; right; exact List.mem_cons_of_mem _ hx)
 have hcl := Ykj _ hsafe
 have hr := round h
 rw [Ybg] at hr
 unfold Ybm
 rw [if_pos hb, hcl]
 unfold Ybp
 rw [if_neg (by simp only [List.length_append, List.length_cons] at hz ⊢; omega), if_neg (by rw [Ypo 47 _ Zea]; decide), if_pos (Yjo _), Ygb]
 exact hr
theorem link_back {iO gX : List UInt8} {p0 : Int} {jZ iG kA : List UInt8} {hq0 hf0 : Bool} (hb : Canon iO gX p0 jZ iG kA hq0 hf0) {sch host : List UInt8} {p : Int} {path query frag : List UInt8} {hq hf : Bool} (h : Canon sch host p path query frag hq hf) (l : ByteArray)
  (hl : Ykm (ofL iO) (ofL gX) p0 (ofL jZ) (ofL iG) (ofL kA) hq0 hf0 (ofL sch) (ofL host) p (ofL path) (ofL query) (ofL frag) hq hf = l) :
  l.size ≤ (Ype (ofL sch) (ofL host) p (ofL path) (ofL query) (ofL frag) hq hf).size ∧
   Ybm (ofL iO) (ofL gX) p0 (ofL jZ) (ofL iG) (ofL kA) hq0 hf0 l.data.toList = (ofL sch, ofL host, p, ofL path, ofL query, ofL frag, hq, hf, 0) := by
 subst hl
 have mb := Yom hb
 have mu := Yom h
 unfold Ykm
 rw [Ygl _ _ _ _ _ _ _ _ h.p0, Yij _ _ _ h.p0, Yij _ _ _ hb.p0]
 obtain ⟨s, hs⟩ : ∃ s, s = Ype (ofL sch) (ofL host) p (ofL path) (ofL query) (ofL frag) hq hf := ⟨_, rfl⟩
 have hself := join_self mb h
 rw [← hs] at hself ⊢
 have hsd : s.data.toList = sch ++ 58 :: 47 :: 47 :: (host ++ (Yme p ++ (path ++ (Ywd query hq ++ Yyd frag hf)))) := by rw [hs]; exact Ybg _ _ _ _ _ _ _ _
 have hsl : s.data.toList.length = s.size := (Lib.size_eq s).symm
 by_cases hsch : (ofL iO).toList = (ofL sch).toList
 ·rw [if_pos ⟨⟨mb, mu⟩, hsch⟩]
  have aLA : iO = sch := by simpa [Ysc] using hsch
  subst aLA
  by_cases hor : (Yie (ofL iO) (ofL gX) p0).toList = (Yie (ofL iO) (ofL host) p).toList ∧ Yeg (ofL path).data.toList = 1
  ·rw [if_pos hor]
   obtain ⟨ho1, ho2⟩ := hor
   obtain ⟨e1, e2⟩ := Ywo hb h (Ytg ho1)
   subst e1 e2
   rw [Ygb] at ho2
   obtain ⟨o, ho⟩ : ∃ o, o = Yie (ofL iO) (ofL gX) p0 := ⟨_, rfl⟩
   have hol : o.size = (iO ++ 58 :: 47 :: 47 :: (gX ++ Yme p0)).length := by rw [ho, Lib.size_eq, Yan]
   have hso : s.data.toList = (iO ++ 58 :: 47 :: 47 :: (gX ++ Yme p0)) ++ Ytj path query frag hq hf := by rw [hsd]; unfold Ytj; simp
   rw [← ho]
   have hrest : (s.extract o.size s.size).data.toList = Ytj path query frag hq hf := by
    rw [Yyc, Ygb, hso, hol, List.drop_left]
   exact ⟨Zqa, by rw [hrest]; exact join_rest h hb ho2⟩
  ·rw [if_neg hor, Yea]
   have hplace : (s.extract (iO.length + 1) s.size).data.toList = 47 :: 47 :: (host ++ (Yme p ++ (path ++ (Ywd query hq ++ Yyd frag hf)))) := by
    rw [Yyc, Ygb, hsd, show iO ++ 58 :: 47 :: 47 :: (host ++ (Yme p ++ (path ++ (Ywd query hq ++ Yyd frag hf)))) = (iO ++ [58]) ++ 47 :: 47 :: (host ++ (Yme p ++ (path ++ (Ywd query hq ++ Yyd frag hf)))) by simp]
    exact List.drop_left' Zv
   exact ⟨Zqa, by rw [hplace]; exact Yft h mb⟩
 ·rw [if_neg (fun hx => hsch hx.2)]
  exact ⟨Nat.le_refl _, hself⟩
end Go.Proofs.YtnmglnglbdpjjaaGreatDoor.X
