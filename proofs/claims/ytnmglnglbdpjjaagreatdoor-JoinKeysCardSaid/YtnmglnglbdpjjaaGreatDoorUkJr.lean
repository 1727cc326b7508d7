/- The document's Link and Key: plain. -/
import Derived.Test.YtnmglnglbdpjjaaGreatDoorUkWords
import Derived.Test.YtnmglnglbdpjjaaGreatDoorUkJo
import Derived.Test.YtnmglnglbdpjjaaGreatDoorUkX13
namespace Go.Proofs.YtnmglnglbdpjjaaGreatDoor.X
open Go.RowKit Go.Lib Go.Shelf Go.Yw.PrintWords Go.Yw.PrintLast Go.Yw.PrintMore
set_option linter.unusedVariables false
set_option linter.unusedSimpArgs false
theorem rslashS (q : List UInt8) : Ybd.f (ofL q) = some (match q with | [] => false | c :: _ => Yrb c) := by
 unfold Ybd.f
 cases q with
 | nil => rw [if_pos (Ysc [])]
 | cons c t =>
  have hb : bt (ofL (c :: t)) 0 = (c.toNat : Int) := (Ydd (ofL (c :: t)) 0 c t rfl).2.1
  rw [if_neg (by rw [Ysc]; simp), if_pos (by rw [Yea, List.length_cons]; omega), hb, Yzh]; rfl
theorem slash2_47 (q : List UInt8) : Yeg (47 :: q) = 1 ↔ (match q with | [] => false | c :: _ => Yrb c) = false := by
 have h47 : Yrb 47 = true := by decide
 unfold Yeg
 cases q with
 | nil => simp [Yrb]
 | cons c t =>
  rw [List.take_succ_cons, List.take_succ_cons, List.takeWhile_cons_of_pos h47]
  by_cases hc : Yrb c = true
  ·rw [List.takeWhile_cons_of_pos hc]; simp [hc]
  ·rw [List.takeWhile_cons_of_neg hc]; simp [hc]
theorem keyR_f {u1 u2 : ByteArray} {u3 : Int} {u4 u5 u6 : ByteArray} {u7 u8 : Bool} (h : Room u1 u2 u3 u4 u5 u6) :
  EvR (fun k => Yvd.f k u1 u2 u3 u4 u5 u6 u7 u8) (Ykc u1 u2 u3 u4 u5 ⟨#[]⟩ u7 false) := by
 have hz : (⟨#[]⟩ : ByteArray).size = 0 := rfl
 have h3 := Yth u1 u2 u3 u4 u5 ⟨#[]⟩ u7 false h.s1 h.s2 h.s4 h.s5 Zl h.p0 h.p1
 unfold Yvd.f
 exact EvR.bind h3 (EvR.of fun k => rfl)
theorem Yjs {b1 b2 : ByteArray} {b3 : Int} {b4 b5 b6 : ByteArray} {b7 b8 : Bool} {u1 u2 : ByteArray} {u3 : Int} {u4 u5 u6 : ByteArray} {u7 u8 : Bool} (rb : Room b1 b2 b3 b4 b5 b6) (ru : Room u1 u2 u3 u4 u5 u6) (zb : (Ykc b1 b2 b3 b4 b5 b6 b7 b8).size ≤ 1000000) (zu : (Ykc u1 u2 u3 u4 u5 u6 u7 u8).size ≤ 1000000)
  (l : ByteArray) (hl : Ykm b1 b2 b3 b4 b5 b6 b7 b8 u1 u2 u3 u4 u5 u6 u7 u8 = l) (w : World) (hE : EnvOk w) :
  Calls Tryz.prog 42 #[.agg (uc b1 b2 b3 b4 b5 b6 b7 b8), .agg (uc u1 u2 u3 u4 u5 u6 u7 u8)] w fun e w' => e = .returned (.string l) ∧ Below w.heap.size w w' := by
 subst hl
 have hz : (⟨#[]⟩ : ByteArray).size = 0 := rfl
 obtain ⟨k0, h0⟩ := Yth u1 u2 u3 u4 u5 u6 u7 u8 ru.s1 ru.s2 ru.s4 ru.s5 ru.s6 ru.p0 ru.p1
 obtain ⟨k1, h1⟩ := Ycm (u7 := b7) (u8 := b8) rb zb
 obtain ⟨k2, h2⟩ := Ycm (u7 := u7) (u8 := u8) ru zu
 obtain ⟨k3, h3⟩ := Yth u1 u2 u3 ⟨#[]⟩ ⟨#[]⟩ ⟨#[]⟩ false false ru.s1 ru.s2 Zl Zl Zl ru.p0 ru.p1
 have g0 := h0 k0 (Nat.le_refl _)
 have g1 := h1 k1 (Nat.le_refl _)
 have g2 := h2 k2 (Nat.le_refl _)
 have g3 := h3 k3 (Nat.le_refl _)
 rw [Yun] at g3
 have hge := Ygo u1 u2 u3 u4 u5 u6 u7 u8
 have hgo := Yfo u1 u2 u3
 unfold Ykm
 cases hb : mayB b1 b2 b3 b4 b5 b6 b7 b8 with
 | false =>
  rw [hb] at g1
  rw [if_neg (by rintro ⟨⟨h, _⟩, _⟩; cases h)]
  exact rLink_no0 k0 k1 0 k3 0 0 b1 b2 b3 b4 b5 b6 b7 b8 u1 u2 u3 u4 u5 u6 u7 u8 _ _ w hE g0 g3 g1
 | true =>
  rw [hb] at g1
  cases hu : mayB u1 u2 u3 u4 u5 u6 u7 u8 with
  | false =>
   rw [hu] at g2
   rw [if_neg (by rintro ⟨⟨_, h⟩, _⟩; cases h)]
   exact rLink_no1 k0 k1 k2 k3 0 0 b1 b2 b3 b4 b5 b6 b7 b8 u1 u2 u3 u4 u5 u6 u7 u8 _ _ w hE g0 g3 g1 g2
  | true =>
   rw [hu] at g2
   by_cases hq : b1.toList = u1.toList
   ·rw [if_pos ⟨⟨rfl, rfl⟩, hq⟩]
    obtain ⟨iO, gX, jZ, iG, kA, rfl, rfl, rfl, rfl, rfl, bN⟩ := Yji hb
    obtain ⟨sch, host, path, query, frag, rfl, rfl, rfl, rfl, rfl, hc⟩ := Yji hu
    have hsch : iO = sch := by simpa [Ysc] using hq
    subst hsch
    have inj : (Yoe (ofL iO) (ofL gX) b3).toList = (Yoe (ofL iO) (ofL host) u3).toList → gX = host ∧ b3 = u3 := by
     intro h
     rw [Yij _ _ _ bN.p0, Yij _ _ _ hc.p0] at h
     exact Ywo bN hc (Ytg h)
    by_cases hh : (ofL gX).toList = (ofL host).toList
    ·have hhost : gX = host := by simpa [Ysc] using hh
     by_cases hp : b3 = u3
     ·obtain ⟨lp, hlp⟩ := hc.pathIs
      obtain ⟨q, aHq⟩ : ∃ q, path = 47 :: q := ⟨_, hlp⟩
      have hx : (ofL path).extract 1 (ofL path).size = ofL q := by rw [Yyc, Ygb, aHq]; rfl
      have h1p : 1 ≤ (ofL path).size := by rw [Yea, aHq, List.length_cons]; omega
      have hsl := slash2_47 q
      rw [← aHq] at hsl
      cases hv : (match q with | [] => false | c :: _ => Yrb c) with
      | true =>
       have hs : Ybd.f ((ofL path).extract 1 (ofL path).size) = some true := by rw [hx, rslashS, hv]
       rw [if_neg (fun h => by have := hsl.1 (by rw [← h.2, Ygb]); rw [hv] at this; cases this)]
       exact rLink_two k0 k1 k2 k3 0 0 _ _ b3 _ _ _ b7 b8 _ _ u3 _ _ _ u7 u8 _ _ w hE g0 g3 g1 g2 hq hh hp h1p hs Zl zu
      | false =>
       have hs : Ybd.f ((ofL path).extract 1 (ofL path).size) = some false := by rw [hx, rslashS, hv]
       rw [if_pos ⟨by rw [hhost, hp], by rw [Ygb]; exact hsl.2 hv⟩]
       exact Ylt k0 k1 k2 k3 0 0 _ _ b3 _ _ _ b7 b8 _ _ u3 _ _ _ u7 u8 _ _ w hE g0 g3 g1 g2 hq hh hp h1p hs hge
     ·rw [if_neg (fun h => hp (inj h.1).2)]
      exact Yqt k0 k1 k2 k3 0 0 _ _ b3 _ _ _ b7 b8 _ _ u3 _ _ _ u7 u8 _ _ w hE g0 g3 g1 g2 hq hh hp Zl zu
    ·rw [if_neg (fun h => hh (by rw [(inj h.1).1]))]
     exact Ywt k0 k1 k2 k3 0 0 _ _ b3 _ _ _ b7 b8 _ _ u3 _ _ _ u7 u8 _ _ w hE g0 g3 g1 g2 hq hh Zl zu
   ·rw [if_neg (fun h => hq h.2)]
    exact rLink_no2 k0 k1 k2 k3 0 0 b1 b2 b3 b4 b5 b6 b7 b8 u1 u2 u3 u4 u5 u6 u7 u8 _ _ w hE g0 g3 g1 g2 hq
end Go.Proofs.YtnmglnglbdpjjaaGreatDoor.X
