/- A URL that is parsed: what its parts are. -/
import Derived.Test.YtihaeeldgimdiaaDoorUiPq
namespace Go.Proofs.YtihaeeldgimdiaaDoor.X
open Go.RowKit Go.Lib Go.Proofs.YtihaeeldgimdiaaDoorW.PrintWords Go.Proofs.YtihaeeldgimdiaaDoorW.PrintLast
set_option linter.unusedVariables false
set_option linter.unusedSimpArgs false
structure ParsedAs (u1 u2 : ByteArray) (u3 : Int) (u4 u5 u6 : ByteArray) (u7 u8 : Bool) (host r : List UInt8) : Prop where
 sch : u1 = ofL httpB ∨ u1 = ofL httpsB
 hostEq : u2 = ofL host
 ne : host ≠ []
 name : nameL host = true
 low : ∃ m, host = lowL (unmarkL m)
 p0 : 0 ≤ u3
 p1 : u3 ≤ 65535
 path : u4 = tailPath r
 query : u5 = tailQuery r
 frag : u6 = tailFrag r
 hasQ : u7 = tailHasQ r
 hasF : u8 = tailHasF r
 size : (stringB u1 u2 u3 u4 u5 u6 u7 u8).size ≤ 2048
 rest : r.length ≤ 2048
theorem parsed_of {l : List UInt8} {u1 u2 : ByteArray} {u3 : Int} {u4 u5 u6 : ByteArray} {u7 u8 : Bool} (h : parseR l = (u1, u2, u3, u4, u5, u6, u7, u8, 0)) : ∃ host r, ParsedAs u1 u2 u3 u4 u5 u6 u7 u8 host r := by
 unfold parseR parseC at h
 generalize clean33 l = c at h
 by_cases h1 : (c.length : Int) > 2048
 ·rw [if_pos h1] at h
  simp only [url_none, Prod.mk.injEq] at h
  exact absurd h.2.2.2.2.2.2.2.2 (by decide)
 ·rw [if_neg h1] at h
  unfold parseS at h
  have hrl := (cut_le c [58]).2
  by_cases h2 : (schemeR c ⟨#[]⟩).1 = 0
  ·rw [if_neg (by simpa using h2)] at h
   have hs : (lowL (Lib.cut c [58]).1 = httpB ∨ lowL (Lib.cut c [58]).1 = httpsB) ∧ schemeR c ⟨#[]⟩ = (0, ofL (Lib.cut c [58]).2.1, ofL (lowL (Lib.cut c [58]).1)) := by
    unfold schemeR at h2 ⊢
    split at h2
    ·next hc =>
     rw [if_pos hc]
     by_cases hl : lowL (Lib.cut c [58]).1 = httpB ∨ lowL (Lib.cut c [58]).1 = httpsB
     ·exact ⟨hl, by rw [if_pos hl]⟩
     ·simp only [if_neg hl] at h2
      exact absurd h2 (by decide)
    ·exact absurd (show (3 : Int) = 0 from h2) (by decide)
   rw [hs.2] at h
   simp only [ofL_data] at h
   unfold parseP at h
   have hps := placeR_sizes (Lib.cut c [58]).2.1 (lowL (Lib.cut c [58]).1)
   by_cases h3 : (placeR (Lib.cut c [58]).2.1 (lowL (Lib.cut c [58]).1) ⟨#[]⟩ 0).1 = 0
   ·rw [if_neg (by simpa using h3)] at h
    have hh : ∃ m, (hostL m).2 = 0 ∧ (placeR (Lib.cut c [58]).2.1 (lowL (Lib.cut c [58]).1) ⟨#[]⟩ 0).2.2.1 = ofL (hostL m).1 := by
     refine ⟨(Lib.cut (placeHost (Lib.cut c [58]).2.1) [58]).1, ?_⟩
     revert h3
     unfold placeR
     split
     ·split
      ·intro h3; exact absurd (show (3 : Int) = 0 from h3) (by decide)
      ·split
       ·next h5 =>
        split
        ·intro _; exact ⟨h5, rfl⟩
        ·split
         ·split
          ·intro _; exact ⟨h5, rfl⟩
          ·intro _; exact ⟨h5, rfl⟩
         ·intro h3; exact absurd (show (3 : Int) = 0 from h3) (by decide)
       ·next h5 => intro h3; exact absurd h3 h5
     ·intro h3; exact absurd (show (3 : Int) = 0 from h3) (by decide)
    obtain ⟨m, hm1, hm2⟩ := hh
    have hm3 : (hostL m).1 = lowL (unmarkL m) ∧ lowL (unmarkL m) ≠ [] ∧ nameL (lowL (unmarkL m)) = true := by
     unfold hostL at hm1 ⊢
     by_cases e1 : lowL (unmarkL m) = []
     ·rw [if_pos e1] at hm1; exact absurd hm1 (by decide)
     ·rw [if_neg e1] at hm1 ⊢
      by_cases e2 : nameL (lowL (unmarkL m)) = true
      ·rw [if_pos e2]; exact ⟨rfl, e1, e2⟩
      ·rw [if_neg e2] at hm1; exact absurd hm1 (by decide)
    generalize placeR (Lib.cut c [58]).2.1 (lowL (Lib.cut c [58]).1) ⟨#[]⟩ 0 = y at h hps hm2 h3
    unfold urlOf at h
    split at h
    ·simp only [url_none, Prod.mk.injEq] at h
     exact absurd h.2.2.2.2.2.2.2.2 (by decide)
    ·next hsz =>
     simp only [Prod.mk.injEq] at h
     obtain ⟨rfl, rfl, rfl, rfl, rfl, rfl, rfl, rfl, _⟩ := h
     refine ⟨(hostL m).1, y.2.1.data.toList, ?_⟩
     refine ⟨?_, hm2, by rw [hm3.1]; exact hm3.2.1, by rw [hm3.1]; exact hm3.2.2, ⟨m, hm3.1⟩, hps.2.2.1, hps.2.2.2, rfl, rfl, rfl, rfl, rfl, by omega, ?_⟩
     ·rcases hs.1 with e | e <;> rw [e]
      ·exact .inl rfl
      ·exact .inr rfl
     ·have := hps.1
      rw [Lib.size_eq] at this
      omega
   ·rw [if_pos (by simpa using h3)] at h
    simp only [url_none, Prod.mk.injEq] at h
    exact absurd h.2.2.2.2.2.2.2.2 h3
  ·rw [if_pos (by simpa using h2)] at h
   simp only [url_none, Prod.mk.injEq] at h
   exact absurd h.2.2.2.2.2.2.2.2 h2
end Go.Proofs.YtihaeeldgimdiaaDoor.X
