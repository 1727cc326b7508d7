/- How a URL stands in lists, and whether two texts are the same place, as plain functions. -/
import Derived.Test.YtfmjnmglagdcdaaGreatDoorCHWords
import Derived.Test.YtfmjnmglagdcdaaGreatDoorCHCn
import Derived.Test.YtfmjnmglagdcdaaGreatDoorCHX3
import Derived.Test.YtfmjnmglagdcdaaGreatDoorCHH4
import Derived.Test.YtfmjnmglagdcdaaGreatDoorCHCa
namespace Go.Proofs.YtfmjnmglagdcdaaGreatDoor.X
open Go.RowKit Go.Lib Go.Yw.PrintWords Go.Yw.PrintLast Go.Yw.PrintMore
set_option linter.unusedVariables false
set_option linter.unusedSimpArgs false
def keyE (u : UrlE) : ByteArray := Yvb u.1 u.2.1 u.2.2.1 u.2.2.2.1 u.2.2.2.2.1 ⟨#[]⟩ u.2.2.2.2.2.2.1 false
theorem Yji {u1 u2 : ByteArray} {u3 : Int} {u4 u5 u6 : ByteArray} {u7 u8 : Bool} {host r : List UInt8} (hp : Ycf u1 u2 u3 u4 u5 u6 u7 u8 host r) :
  u1.size ≤ 100000 ∧ u2.size ≤ 100000 ∧ u4.size ≤ 100000 ∧ u5.size ≤ 100000 := by
 have hrl := hp.rest
 have ht := Ytj r
 refine ⟨?_, ?_, ?_, ?_⟩
 ·rcases hp.sch with e | e <;> (rw [e]; decide)
 ·have e1 := hp.hostEq
  have hn := hp.name
  unfold Yuf at hn
  simp only [Bool.and_eq_true, decide_eq_true_eq] at hn
  rw [e1, Yta]; omega
 ·rw [hp.path]; omega
 ·rw [hp.query]; omega
theorem Yrm {u1 u2 : ByteArray} {u3 : Int} {u4 u5 u6 : ByteArray} {u7 u8 : Bool} {host r : List UInt8} (hp : Ycf u1 u2 u3 u4 u5 u6 u7 u8 host r) :
  EvR (fun k => Ygc.f k u1 u2 u3 u4 u5 u6 u7 u8) (Yvb u1 u2 u3 u4 u5 ⟨#[]⟩ u7 false) := by
 obtain ⟨s1, s2, s4, s5⟩ := Yji hp
 have hz : (⟨#[]⟩ : ByteArray).size = 0 := rfl
 have h3 := Yun u1 u2 u3 u4 u5 ⟨#[]⟩ u7 false Zk Zk Zk Zk Zk hp.p0 (by have := hp.p1; omega)
 unfold Ygc.f Yxf.f
 simp only [Option.bind_some]
 exact EvR.bind h3 (EvR.of fun k => rfl)
theorem key_size {u1 u2 : ByteArray} {u3 : Int} {u4 u5 u6 : ByteArray} {u7 u8 : Bool} {host r : List UInt8} (hp : Ycf u1 u2 u3 u4 u5 u6 u7 u8 host r) :
  (Yvb u1 u2 u3 u4 u5 ⟨#[]⟩ u7 false).size ≤ 1000000 := by
 obtain ⟨s1, s2, s4, s5⟩ := Yji hp
 have ho := Ygi u1 u2 u3
 have hz : (⟨#[]⟩ : ByteArray).size = 0 := rfl
 unfold Yvb Ygj Yci
 cases u7 <;> simp [ByteArray.size_append, size63, hz] <;> omega
def errE (u : UrlE) : Int := u.2.2.2.2.2.2.2.2
theorem Ysf {l : List UInt8} (h : errE (Yya l) = 0) : ∃ host r, Ycf (Yya l).1 (Yya l).2.1 (Yya l).2.2.1 (Yya l).2.2.2.1 (Yya l).2.2.2.2.1 (Yya l).2.2.2.2.2.1 (Yya l).2.2.2.2.2.2.1 (Yya l).2.2.2.2.2.2.2.1 host r :=
 parsed_of (l := l) (by
  have hx : ∀ x : UrlE, errE x = 0 → x = (x.1, x.2.1, x.2.2.1, x.2.2.2.1, x.2.2.2.2.1, x.2.2.2.2.2.1, x.2.2.2.2.2.2.1, x.2.2.2.2.2.2.2.1, 0) := fun x hx => by
   obtain ⟨a, b, c, d, e, f, g, i, j⟩ := x
   obtain rfl : j = 0 := hx
   rfl
  exact hx _ h)
def keyP (u : ByteArray) : ByteArray × Int := if errE (Yya u.data.toList) = 0 then (keyE (Yya u.data.toList), 0) else (⟨#[]⟩, 3)
theorem keyP_size (u : ByteArray) : (keyP u).1.size ≤ 1000000 := by
 unfold keyP
 by_cases e : errE (Yya u.data.toList) = 0
 ·rw [if_pos e]
  obtain ⟨host, r, hp⟩ := Ysf e
  exact key_size hp
 ·rw [if_neg e]; decide
def Yef (a b : ByteArray) : Bool := if errE (Yya a.data.toList) = 0 then (if errE (Yya b.data.toList) = 0 then (keyE (Yya a.data.toList)).toList == (keyE (Yya b.data.toList)).toList else a.toList == b.toList) else a.toList == b.toList
set_option maxHeartbeats 4000000 in
set_option maxRecDepth 100000 in
theorem key_ok (k : Nat) (s : ByteArray) (u1 u2 : ByteArray) (u3 : Int) (u4 u5 u6 : ByteArray) (u7 u8 : Bool) (u9 : Int) (r : ByteArray) (w : World) (hE : EnvOk w) (hp : Yxa.f k s = some (u1, u2, u3, u4, u5, u6, u7, u8, u9)) (h9 : u9 = 0) (hk : Ygc.f k u1 u2 u3 u4 u5 u6 u7 u8 = some r) :
  Calls Tryz.prog 21 #[.string s] w fun e w' => e = .returned (.tuple #[.string r, .int .i64 0]) ∧ Below w.heap.size w w' := by
 have d9 : (u9 == 0) = true := by rw [h9]; rfl
 have d9b : (u9 != 0) = false := by rw [h9]; rfl
 have hu81 := Tryz.underlying81
 have HE := Ya.mk hE
 have HP := Ya.mk hp
 have HK := Ya.mk hk
 have HB := Ya.mk (Below.refl w.heap.size w)
 clear hE hp hk h9
 go_enter Tryz.func21, Tryz.ntmps21
 go_wp2_with fail
 refine (Yxa.calls k _ _ _ _ _ _ _ _ _ _ _ (HE.out.below HB.out) HP.out).mono ?_
 rintro e w1 ⟨rfl, hb⟩
 replace HB := Ya.mk (HB.out.trans (hb.mono HB.out.size))
 clear hb
 have BU := Ya.mk (heap_alloc_new w1 (.cells #[.string u1, .string u2, .int .i64 u3, .string u4, .string u5, .string u6, .bool u7, .bool u8] 81))
 replace HB := Ya.mk (HB.out.alloc HB.out.size (.cells #[.string u1, .string u2, .int .i64 u3, .string u4, .string u5, .string u6, .bool u7, .bool u8] 81))
 have hc0 := (Yf BU.out 0).trans rfl
 have hc1 := (Yf BU.out 1).trans rfl
 have hc2 := (Yf BU.out 2).trans rfl
 have hc3 := (Yf BU.out 3).trans rfl
 have hc4 := (Yf BU.out 4).trans rfl
 have hc5 := (Yf BU.out 5).trans rfl
 have hc6 := (Yf BU.out 6).trans rfl
 have hc7 := (Yf BU.out 7).trans rfl
 go_wp2_with fail
 clear hc0 hc1 hc2 hc3 hc4 hc5 hc6 hc7
 refine (Ygc.calls k u1 u2 u3 u4 u5 u6 u7 u8 r _ (HE.out.below HB.out) HK.out).mono ?_
 rintro e w2 ⟨rfl, hb⟩
 replace HB := Ya.mk (HB.out.trans (hb.mono HB.out.size))
 clear hb
 go_wp2_with fail
 go_ret2
 exact ⟨rfl, HB.out⟩
set_option maxHeartbeats 4000000 in
set_option maxRecDepth 100000 in
theorem key_bad (k : Nat) (s : ByteArray) (u1 u2 : ByteArray) (u3 : Int) (u4 u5 u6 : ByteArray) (u7 u8 : Bool) (u9 : Int) (w : World) (hE : EnvOk w) (hp : Yxa.f k s = some (u1, u2, u3, u4, u5, u6, u7, u8, u9)) (h9 : ¬ u9 = 0) :
  Calls Tryz.prog 21 #[.string s] w fun e w' => e = .returned (.tuple #[.string ⟨#[]⟩, .int .i64 3]) ∧ Below w.heap.size w w' := by
 have d9 : (u9 == 0) = false := beq_eq_false_iff_ne.2 h9
 have d9b : (u9 != 0) = true := bne_iff_ne.2 h9
 have hu81 := Tryz.underlying81
 have HE := Ya.mk hE
 have HP := Ya.mk hp
 have HB := Ya.mk (Below.refl w.heap.size w)
 clear hE hp h9
 go_enter Tryz.func21, Tryz.ntmps21
 go_wp2_with fail
 refine (Yxa.calls k _ _ _ _ _ _ _ _ _ _ _ (HE.out.below HB.out) HP.out).mono ?_
 rintro e w1 ⟨rfl, hb⟩
 replace HB := Ya.mk (HB.out.trans (hb.mono HB.out.size))
 clear hb
 replace HB := Ya.mk (HB.out.alloc HB.out.size (.cells #[.string u1, .string u2, .int .i64 u3, .string u4, .string u5, .string u6, .bool u7, .bool u8] 81))
 go_wp2_with fail
 go_ret2
 exact ⟨rfl, HB.out⟩
set_option maxHeartbeats 4000000 in
set_option maxRecDepth 100000 in
theorem place_ok (k : Nat) (s t : ByteArray) (u1 u2 : ByteArray) (u3 : Int) (u4 u5 u6 : ByteArray) (u7 u8 : Bool) (u9 : Int) (v1 v2 : ByteArray) (v3 : Int) (v4 v5 v6 : ByteArray) (v7 v8 : Bool) (v9 : Int) (w : World) (hE : EnvOk w) (hp : Yxa.f k s = some (u1, u2, u3, u4, u5, u6, u7, u8, u9)) (hq : Yxa.f k t = some (v1, v2, v3, v4, v5, v6, v7, v8, v9)) (h9 : u9 = 0) (i9 : v9 = 0) (r : Bool) (hk : Yaf.f k u1 u2 u3 u4 u5 u6 u7 u8 v1 v2 v3 v4 v5 v6 v7 v8 = some r) :
  Calls Tryz.prog 25 #[.string s, .string t] w fun e w' => e = .returned (.bool r) ∧ Below w.heap.size w w' := by
 have d9 : (u9 == 0) = true := by rw [h9]; rfl
 have d9b : (u9 != 0) = false := by rw [h9]; rfl
 have e9 : (v9 == 0) = true := by rw [i9]; rfl
 have e9b : (v9 != 0) = false := by rw [i9]; rfl
 have HK := Ya.mk hk
 clear h9 i9 hk
 have hu81 := Tryz.underlying81
 have HE := Ya.mk hE
 have HP := Ya.mk hp
 have HQ := Ya.mk hq
 have HB := Ya.mk (Below.refl w.heap.size w)
 clear hE hp hq
 go_enter Tryz.func25, Tryz.ntmps25
 go_wp2_with fail
 refine (Yxa.calls k _ _ _ _ _ _ _ _ _ _ _ (HE.out.below HB.out) HP.out).mono ?_
 rintro e w1 ⟨rfl, hb⟩
 replace HB := Ya.mk (HB.out.trans (hb.mono HB.out.size))
 clear hb
 have BU := Ya.mk (heap_alloc_new w1 (.cells #[.string u1, .string u2, .int .i64 u3, .string u4, .string u5, .string u6, .bool u7, .bool u8] 81))
 replace HB := Ya.mk (HB.out.alloc HB.out.size (.cells #[.string u1, .string u2, .int .i64 u3, .string u4, .string u5, .string u6, .bool u7, .bool u8] 81))
 go_wp2_with fail
 refine (Yxa.calls k _ _ _ _ _ _ _ _ _ _ _ (HE.out.below HB.out) HQ.out).mono ?_
 rintro e w2 ⟨rfl, hb⟩
 replace BU := Ya.mk (Yua BU.out hb)
 replace HB := Ya.mk (HB.out.trans (hb.mono HB.out.size))
 clear hb
 have BV := Ya.mk (heap_alloc_new w2 (.cells #[.string v1, .string v2, .int .i64 v3, .string v4, .string v5, .string v6, .bool v7, .bool v8] 81))
 replace BU := Ya.mk (Yca BU.out (.cells #[.string v1, .string v2, .int .i64 v3, .string v4, .string v5, .string v6, .bool v7, .bool v8] 81))
 replace HB := Ya.mk (HB.out.alloc HB.out.size (.cells #[.string v1, .string v2, .int .i64 v3, .string v4, .string v5, .string v6, .bool v7, .bool v8] 81))
 have hlt := Yx BU.out
 simp only [Array.size_push, World.alloc] at hlt
 have hc0 := (Yf BU.out 0).trans rfl
 have hc1 := (Yf BU.out 1).trans rfl
 have hc2 := (Yf BU.out 2).trans rfl
 have hc3 := (Yf BU.out 3).trans rfl
 have hc4 := (Yf BU.out 4).trans rfl
 have hc5 := (Yf BU.out 5).trans rfl
 have hc6 := (Yf BU.out 6).trans rfl
 have hc7 := (Yf BU.out 7).trans rfl
 have hd0 := (Yf BV.out 0).trans rfl
 have hd1 := (Yf BV.out 1).trans rfl
 have hd2 := (Yf BV.out 2).trans rfl
 have hd3 := (Yf BV.out 3).trans rfl
 have hd4 := (Yf BV.out 4).trans rfl
 have hd5 := (Yf BV.out 5).trans rfl
 have hd6 := (Yf BV.out 6).trans rfl
 have hd7 := (Yf BV.out 7).trans rfl
 go_wp2_with fail
 clear hc0 hc1 hc2 hc3 hc4 hc5 hc6 hc7
 clear hd0 hd1 hd2 hd3 hd4 hd5 hd6 hd7
 refine (Yaf.calls k u1 u2 u3 u4 u5 u6 u7 u8 v1 v2 v3 v4 v5 v6 v7 v8 r _ (HE.out.below HB.out) HK.out).mono ?_
 rintro e w3 ⟨rfl, hb⟩
 replace HB := Ya.mk (HB.out.trans (hb.mono HB.out.size))
 clear hb
 go_wp2_with fail
 go_ret
 exact ⟨rfl, HB.out⟩
set_option maxHeartbeats 4000000 in
set_option maxRecDepth 100000 in
theorem Ykp (k : Nat) (s t : ByteArray) (u1 u2 : ByteArray) (u3 : Int) (u4 u5 u6 : ByteArray) (u7 u8 : Bool) (u9 : Int) (v1 v2 : ByteArray) (v3 : Int) (v4 v5 v6 : ByteArray) (v7 v8 : Bool) (v9 : Int) (w : World) (hE : EnvOk w) (hp : Yxa.f k s = some (u1, u2, u3, u4, u5, u6, u7, u8, u9)) (hq : Yxa.f k t = some (v1, v2, v3, v4, v5, v6, v7, v8, v9)) (h9 : ¬ u9 = 0) :
  Calls Tryz.prog 25 #[.string s, .string t] w fun e w' => e = .returned (.bool (s.toList == t.toList)) ∧ Below w.heap.size w w' := by
 have d9 : (u9 == 0) = false := beq_eq_false_iff_ne.2 h9
 have d9b : (u9 != 0) = true := bne_iff_ne.2 h9
 clear h9
 have hu81 := Tryz.underlying81
 have HE := Ya.mk hE
 have HP := Ya.mk hp
 have HQ := Ya.mk hq
 have HB := Ya.mk (Below.refl w.heap.size w)
 clear hE hp hq
 go_enter Tryz.func25, Tryz.ntmps25
 go_wp2_with fail
 refine (Yxa.calls k _ _ _ _ _ _ _ _ _ _ _ (HE.out.below HB.out) HP.out).mono ?_
 rintro e w1 ⟨rfl, hb⟩
 replace HB := Ya.mk (HB.out.trans (hb.mono HB.out.size))
 clear hb
 have BU := Ya.mk (heap_alloc_new w1 (.cells #[.string u1, .string u2, .int .i64 u3, .string u4, .string u5, .string u6, .bool u7, .bool u8] 81))
 replace HB := Ya.mk (HB.out.alloc HB.out.size (.cells #[.string u1, .string u2, .int .i64 u3, .string u4, .string u5, .string u6, .bool u7, .bool u8] 81))
 go_wp2_with fail
 refine (Yxa.calls k _ _ _ _ _ _ _ _ _ _ _ (HE.out.below HB.out) HQ.out).mono ?_
 rintro e w2 ⟨rfl, hb⟩
 replace BU := Ya.mk (Yua BU.out hb)
 replace HB := Ya.mk (HB.out.trans (hb.mono HB.out.size))
 clear hb
 replace HB := Ya.mk (HB.out.alloc HB.out.size (.cells #[.string v1, .string v2, .int .i64 v3, .string v4, .string v5, .string v6, .bool v7, .bool v8] 81))
 go_wp2_with fail
 go_ret
 exact ⟨rfl, HB.out⟩
set_option maxHeartbeats 4000000 in
set_option maxRecDepth 100000 in
theorem Yto (k : Nat) (s t : ByteArray) (u1 u2 : ByteArray) (u3 : Int) (u4 u5 u6 : ByteArray) (u7 u8 : Bool) (u9 : Int) (v1 v2 : ByteArray) (v3 : Int) (v4 v5 v6 : ByteArray) (v7 v8 : Bool) (v9 : Int) (w : World) (hE : EnvOk w) (hp : Yxa.f k s = some (u1, u2, u3, u4, u5, u6, u7, u8, u9)) (hq : Yxa.f k t = some (v1, v2, v3, v4, v5, v6, v7, v8, v9)) (h9 : u9 = 0) (i9 : ¬ v9 = 0) :
  Calls Tryz.prog 25 #[.string s, .string t] w fun e w' => e = .returned (.bool (s.toList == t.toList)) ∧ Below w.heap.size w w' := by
 have d9 : (u9 == 0) = true := by rw [h9]; rfl
 have d9b : (u9 != 0) = false := by rw [h9]; rfl
 have e9 : (v9 == 0) = false := beq_eq_false_iff_ne.2 i9
 have e9b : (v9 != 0) = true := bne_iff_ne.2 i9
 clear h9 i9
 have hu81 := Tryz.underlying81
 have HE := Ya.mk hE
 have HP := Ya.mk hp
 have HQ := Ya.mk hq
 have HB := Ya.mk (Below.refl w.heap.size w)
 clear hE hp hq
 go_enter Tryz.func25, Tryz.ntmps25
 go_wp2_with fail
 refine (Yxa.calls k _ _ _ _ _ _ _ _ _ _ _ (HE.out.below HB.out) HP.out).mono ?_
 rintro e w1 ⟨rfl, hb⟩
 replace HB := Ya.mk (HB.out.trans (hb.mono HB.out.size))
 clear hb
 have BU := Ya.mk (heap_alloc_new w1 (.cells #[.string u1, .string u2, .int .i64 u3, .string u4, .string u5, .string u6, .bool u7, .bool u8] 81))
 replace HB := Ya.mk (HB.out.alloc HB.out.size (.cells #[.string u1, .string u2, .int .i64 u3, .string u4, .string u5, .string u6, .bool u7, .bool u8] 81))
 go_wp2_with fail
 refine (Yxa.calls k _ _ _ _ _ _ _ _ _ _ _ (HE.out.below HB.out) HQ.out).mono ?_
 rintro e w2 ⟨rfl, hb⟩
 replace BU := Ya.mk (Yua BU.out hb)
 replace HB := Ya.mk (HB.out.trans (hb.mono HB.out.size))
 clear hb
 replace HB := Ya.mk (HB.out.alloc HB.out.size (.cells #[.string v1, .string v2, .int .i64 v3, .string v4, .string v5, .string v6, .bool v7, .bool v8] 81))
 go_wp2_with fail
 go_ret
 exact ⟨rfl, HB.out⟩
theorem Ylg (s : ByteArray) (hs : s.size ≤ 1000000000) : ∃ k0, ∀ k, k0 ≤ k → Yxa.f k s = some (Yya s.data.toList) := parse_f s hs
theorem Yol (u : ByteArray) (hu : u.size ≤ 1000000000) (w : World) (hE : EnvOk w) :
  Calls Tryz.prog 21 #[.string u] w fun e w' => e = .returned (.tuple #[.string (keyP u).1, .int .i64 (keyP u).2]) ∧ Below w.heap.size w w' := by
 obtain ⟨k1, h1⟩ := Ylg u hu
 unfold keyP
 by_cases e : errE (Yya u.data.toList) = 0
 ·rw [if_pos e]
  obtain ⟨host, r, hp⟩ := Ysf e
  obtain ⟨k2, h2⟩ := Yrm hp
  exact key_ok (k1 + k2) u _ _ _ _ _ _ _ _ _ _ w hE (h1 _ Zk) e (h2 _ Zk)
 ·rw [if_neg e]
  exact key_bad k1 u _ _ _ _ _ _ _ _ _ w hE (h1 _ (Nat.le_refl _)) e
theorem same_of {k : Nat} {u1 u2 : ByteArray} {u3 : Int} {u4 u5 u6 : ByteArray} {u7 u8 : Bool} {v1 v2 : ByteArray} {v3 : Int} {v4 v5 v6 : ByteArray} {v7 v8 : Bool} {r s : ByteArray} (h : Ygc.f k u1 u2 u3 u4 u5 u6 u7 u8 = some r) (h2 : Ygc.f k v1 v2 v3 v4 v5 v6 v7 v8 = some s) :
  Yaf.f k u1 u2 u3 u4 u5 u6 u7 u8 v1 v2 v3 v4 v5 v6 v7 v8 = some (r.toList == s.toList) := by
 unfold Yaf.f
 rw [h, Option.bind_some, h2, Option.bind_some]
theorem Yzn (a b : ByteArray) (ha : a.size ≤ 1000000000) (hb : b.size ≤ 1000000000) (w : World) (hE : EnvOk w) :
  Calls Tryz.prog 25 #[.string a, .string b] w fun e w' => e = .returned (.bool (Yef a b)) ∧ Below w.heap.size w w' := by
 obtain ⟨k1, h1⟩ := Ylg a ha
 obtain ⟨k2, h2⟩ := Ylg b hb
 unfold Yef
 by_cases e : errE (Yya a.data.toList) = 0
 ·rw [if_pos e]
  obtain ⟨host, r, hp⟩ := Ysf e
  by_cases e2 : errE (Yya b.data.toList) = 0
  ·rw [if_pos e2]
   obtain ⟨host2, r2, hp2⟩ := Ysf e2
   obtain ⟨k3, h3⟩ := Yrm hp
   obtain ⟨k4, h4⟩ := Yrm hp2
   exact place_ok (k1 + k2 + k3 + k4) a b _ _ _ _ _ _ _ _ _ _ _ _ _ _ _ _ _ _ w hE (h1 _ Zk) (h2 _ Zk) e e2 _ (same_of (h3 _ Zk) (h4 _ Zk))
  ·rw [if_neg e2]
   exact Yto (k1 + k2) a b _ _ _ _ _ _ _ _ _ _ _ _ _ _ _ _ _ _ w hE (h1 _ Zk) (h2 _ Zk) e e2
 ·rw [if_neg e]
  exact Ykp (k1 + k2) a b _ _ _ _ _ _ _ _ _ _ _ _ _ _ _ _ _ _ w hE (h1 _ Zk) (h2 _ Zk) e
theorem key_twice {u : ByteArray} (h : errE (Yya u.data.toList) = 0) : errE (Yya (keyE (Yya u.data.toList)).data.toList) = 0 ∧ keyE (Yya (keyE (Yya u.data.toList)).data.toList) = keyE (Yya u.data.toList) := by
 obtain ⟨host, r, hp⟩ := Ysf h
 obtain ⟨sch, path, query, frag, e1, e2, e4, e5, e6, hc⟩ := canon_of hp
 have hr := round (Yqp hc)
 have hk : keyE (Yya u.data.toList) = Yvb (ofL sch) (ofL host) (Yya u.data.toList).2.2.1 (ofL path) (ofL query) (ofL []) (Yya u.data.toList).2.2.2.2.2.2.1 false := by
  unfold keyE
  rw [e1, e2, e4, e5]
  rfl
 rw [hk, hr]
 exact ⟨rfl, rfl⟩
theorem place_key {u : ByteArray} (h : errE (Yya u.data.toList) = 0) : Yef (keyP u).1 u = true := by
 have hk : (keyP u).1 = keyE (Yya u.data.toList) := by unfold keyP; rw [if_pos h]
 obtain ⟨h1, h2⟩ := key_twice h
 unfold Yef
 rw [hk, if_pos h1, if_pos h, h2]
 exact beq_self_eq_true _
end Go.Proofs.YtfmjnmglagdcdaaGreatDoor.X
