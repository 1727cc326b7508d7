import Derived.Test.YtihaeeldgimdiaaGreatDoorIUZq
import Derived.Test.YtihaeeldgimdiaaGreatDoorIURa
set_option linter.all false
section
section
namespace Go.Proofs.YtihaeeldgimdiaaGreatDoor.X
open Go.RowKit Go.Lib Go.Shelf Go.Yw.PrintWords Go.Yw.PrintLast Go.Yw.PrintMore
def Ykc.f (a0 : Y) : Option (Y × Y × Int × Y × Y × Y × Bool × Bool × Int) :=
 if a0.size ≤ 100000000 then some (Ytg a0.data.toList) else none
theorem Ykc.calls (a0 r1 r2 : Y) (r3 : Int) (r4 r5 r6 : Y) (r7 r8 : Bool) (r9 : Int) (w : World) (hE : EnvOk w) (h : Ykc.f a0 = some (r1, r2, r3, r4, r5, r6, r7, r8, r9)) :
  Calls Tryz.prog 20 #[.string a0] w fun e w' => e = .returned (.tuple #[.agg (uc r1 r2 r3 r4 r5 r6 r7 r8), .int .i64 r9]) ∧ Below w.heap.size w w' := by
 unfold Ykc.f at h
 by_cases hs : a0.size ≤ 100000000
 ·rw [if_pos hs] at h
  exact Ycq a0 r1 r2 r3 r4 r5 r6 r7 r8 r9 w hE hs (Kr h)
 ·rw [if_neg hs] at h; cases h
end Go.Proofs.YtihaeeldgimdiaaGreatDoor.X
end
end
section
namespace Go.Proofs.YtihaeeldgimdiaaGreatDoor.X
open Go.RowKit Go.Lib Go.Shelf Go.Yw.PrintWords Go.Yw.PrintLast Go.Yw.PrintMore
set_option maxHeartbeats 4000000 in
set_option maxRecDepth 100000 in
theorem rof_uid (f0 f1 f2 f3 f4 f5 : Y) (f6 : Int) (f7 : Bool) (c0 c1 c2 : Y) (v9 iS kV lZ v13 : Value) (w : World) (h1 : ¬ f1.toList = ([] : List UInt8)) (hz : f1.size ≤ 140737488355328) :
  Calls Tryz.prog 12 #[.agg (ec f0 f1 f2 f3 f4 f5 f6 f7 c0 c1 c2 v9 iS kV lZ v13)] w fun e w' => e = .returned (.string ((⟨#[117, 58]⟩ : Y) ++ f1)) ∧ Below w.heap.size w w' := by
 have d1 : (f1.toList != ([] : List UInt8)) = true := bne_iff_ne.2 h1
 have d1e : f1.toList.isEmpty = false := by rw [Bool.eq_false_iff]; exact fun h => h1 (List.isEmpty_iff.1 h)
 have mT := Tryz.underlying32
 have BK := Ya.mk (heap_alloc_new w (.cells (ec f0 f1 f2 f3 f4 f5 f6 f7 c0 c1 c2 v9 iS kV lZ v13) 32))
 have HB := Ya.mk ((Below.refl w.heap.size w).alloc (Ks _) (.cells (ec f0 f1 f2 f3 f4 f5 f6 f7 c0 c1 c2 v9 iS kV lZ v13) 32))
 have hs : (2 + f1.size ≤ 9223372036854775807) := by omega
 have uD : (9223372036854775807 < 2 + f1.size) = False := eq_false Zj
 clear h1
 have fL := (Yf BK.out 1).trans rfl
 go_enter Tryz.func12, Tryz.ntmps12
 go_wp2_with fail
 go_ret
 exact ⟨rfl, HB.out⟩
set_option maxHeartbeats 4000000 in
set_option maxRecDepth 100000 in
theorem rof_key (k : Nat) (f0 f1 f2 f3 f4 f5 : Y) (f6 : Int) (f7 : Bool) (c0 c1 c2 : Y) (v9 iS kV lZ v13 : Value) (u1 u2 : Y) (u3 : Int) (u4 u5 u6 : Y) (u7 u8 : Bool) (r : Y) (w : World) (hE : EnvOk w) (h1 : f1.toList = ([] : List UInt8))
  (hp : Ykc.f f2 = some (u1, u2, u3, u4, u5, u6, u7, u8, 0)) (hk : Yqe.f k u1 u2 u3 u4 u5 u6 u7 u8 = some r) (hz : r.size ≤ 140737488355328) :
  Calls Tryz.prog 12 #[.agg (ec f0 f1 f2 f3 f4 f5 f6 f7 c0 c1 c2 v9 iS kV lZ v13)] w fun e w' => e = .returned (.string ((⟨#[108, 58]⟩ : Y) ++ r)) ∧ Below w.heap.size w w' := by
 have d1 : (f1.toList != ([] : List UInt8)) = false := bne_eq_false_iff_eq.2 h1
 have d1e : f1.toList.isEmpty = true := List.isEmpty_iff.2 h1
 have mT := Tryz.underlying32
 have BK := Ya.mk (heap_alloc_new w (.cells (ec f0 f1 f2 f3 f4 f5 f6 f7 c0 c1 c2 v9 iS kV lZ v13) 32))
 have HB := Ya.mk ((Below.refl w.heap.size w).alloc (Ks _) (.cells (ec f0 f1 f2 f3 f4 f5 f6 f7 c0 c1 c2 v9 iS kV lZ v13) 32))
 have hs : (2 + r.size ≤ 9223372036854775807) := by omega
 have uD : (9223372036854775807 < 2 + r.size) = False := eq_false Zj
 have HE := Ya.mk hE
 have HP := Ya.mk hp
 have HK := Ya.mk hk
 clear h1 hE hp hk
 have fL := (Yf BK.out 1).trans rfl
 have gU := (Yf BK.out 2).trans rfl
 go_enter Tryz.func12, Tryz.ntmps12
 go_wp2_with fail
 clear fL gU
 refine (Ykc.calls _ _ _ _ _ _ _ _ _ _ _ (HE.out.below HB.out) HP.out).mono ?_
 rintro e w1 ⟨rfl, hb⟩
 replace HB := Ya.mk (HB.out.trans (hb.mono HB.out.size))
 clear hb
 have BU := Ya.mk (heap_alloc_new w1 (.cells #[.string u1, .string u2, .int .i64 u3, .string u4, .string u5, .string u6, .bool u7, .bool u8] 46))
 replace HB := Ya.mk (HB.out.alloc HB.out.size (.cells #[.string u1, .string u2, .int .i64 u3, .string u4, .string u5, .string u6, .bool u7, .bool u8] 46))
 have eE := (Yf BU.out 0).trans rfl
 have fL := (Yf BU.out 1).trans rfl
 have gU := (Yf BU.out 2).trans rfl
 have lS := (Yf BU.out 3).trans rfl
 have kT := (Yf BU.out 4).trans rfl
 have kS := (Yf BU.out 5).trans rfl
 have mZ := (Yf BU.out 6).trans rfl
 have lQ := (Yf BU.out 7).trans rfl
 have cV := Tryz.underlying46
 go_wp2_with fail
 clear eE fL gU lS kT kS mZ lQ
 refine (Yqe.calls k u1 u2 u3 u4 u5 u6 u7 u8 r _ (HE.out.below HB.out) HK.out).mono ?_
 rintro e w2 ⟨rfl, hb⟩
 replace HB := Ya.mk (HB.out.trans (hb.mono HB.out.size))
 clear hb
 go_wp2_with fail
 go_ret
 exact ⟨rfl, HB.out⟩
set_option maxHeartbeats 4000000 in
set_option maxRecDepth 100000 in
theorem rof_url (k : Nat) (f0 f1 f2 f3 f4 f5 : Y) (f6 : Int) (f7 : Bool) (c0 c1 c2 : Y) (v9 iS kV lZ v13 : Value) (u1 u2 : Y) (u3 : Int) (u4 u5 u6 : Y) (u7 u8 : Bool) (u9 : Int) (w : World) (hE : EnvOk w) (h1 : f1.toList = ([] : List UInt8))
  (hp : Ykc.f f2 = some (u1, u2, u3, u4, u5, u6, u7, u8, u9)) (h9 : ¬ u9 = 0) (h2 : ¬ f2.toList = ([] : List UInt8)) (hz : f2.size ≤ 140737488355328) :
  Calls Tryz.prog 12 #[.agg (ec f0 f1 f2 f3 f4 f5 f6 f7 c0 c1 c2 v9 iS kV lZ v13)] w fun e w' => e = .returned (.string ((⟨#[108, 58]⟩ : Y) ++ f2)) ∧ Below w.heap.size w w' := by
 have d1 : (f1.toList != ([] : List UInt8)) = false := bne_eq_false_iff_eq.2 h1
 have d1e : f1.toList.isEmpty = true := List.isEmpty_iff.2 h1
 have d2 : (f2.toList != ([] : List UInt8)) = true := bne_iff_ne.2 h2
 have d2e : f2.toList.isEmpty = false := by rw [Bool.eq_false_iff]; exact fun h => h2 (List.isEmpty_iff.1 h)
 have d9 : (u9 == 0) = false := beq_eq_false_iff_ne.2 h9
 have mT := Tryz.underlying32
 have BK := Ya.mk (heap_alloc_new w (.cells (ec f0 f1 f2 f3 f4 f5 f6 f7 c0 c1 c2 v9 iS kV lZ v13) 32))
 have HB := Ya.mk ((Below.refl w.heap.size w).alloc (Ks _) (.cells (ec f0 f1 f2 f3 f4 f5 f6 f7 c0 c1 c2 v9 iS kV lZ v13) 32))
 have hs : (2 + f2.size ≤ 9223372036854775807) := by omega
 have uD : (9223372036854775807 < 2 + f2.size) = False := eq_false Zj
 have HE := Ya.mk hE
 have HP := Ya.mk hp
 clear h1 hE hp h2 h9
 have fL := (Yf BK.out 1).trans rfl
 have gU := (Yf BK.out 2).trans rfl
 go_enter Tryz.func12, Tryz.ntmps12
 go_wp2_with fail
 clear fL gU
 refine (Ykc.calls _ _ _ _ _ _ _ _ _ _ _ (HE.out.below HB.out) HP.out).mono ?_
 rintro e w1 ⟨rfl, hb⟩
 replace BK := Ya.mk (Yja (Ycb BK.out hb) (.cells #[.string u1, .string u2, .int .i64 u3, .string u4, .string u5, .string u6, .bool u7, .bool u8] 46))
 replace HB := Ya.mk ((HB.out.trans (hb.mono HB.out.size)).alloc (HB.out.trans (hb.mono HB.out.size)).size (.cells #[.string u1, .string u2, .int .i64 u3, .string u4, .string u5, .string u6, .bool u7, .bool u8] 46))
 clear hb
 have gU := (Yf BK.out 2).trans rfl
 go_wp2_with fail
 go_ret
 exact ⟨rfl, HB.out⟩
set_option maxHeartbeats 8000000 in
set_option maxRecDepth 100000 in
theorem rof_mark (k : Nat) (f0 f1 f2 f3 f4 f5 : Y) (f6 : Int) (f7 : Bool) (c0 c1 c2 : Y) (x9 gL fO eG : List Y) (A9 cA bW cB : Option Addr) (n9 n11 n12 n13 : Nat) (iS : Value) (u1 u2 : Y) (u3 : Int) (u4 u5 u6 : Y) (u7 u8 : Bool) (u9 : Int) (w : World) (hE : EnvOk w) (h1 : f1.toList = ([] : List UInt8))
  (hp : Ykc.f f2 = some (u1, u2, u3, u4, u5, u6, u7, u8, u9)) (h9 : ¬ u9 = 0) (h2 : f2.toList = ([] : List UInt8))
  (r9 : x9.length ≤ n9 ∧ Kd.C Kd.string w A9 x9.length x9) (rB : gL.length ≤ n11 ∧ Kd.C Kd.string w cA gL.length gL) (rC : fO.length ≤ n12 ∧ Kd.C Kd.string w bW fO.length fO) (rD : eG.length ≤ n13 ∧ Kd.C Kd.string w cB eG.length eG)
  (hn : ∀ l ∈ [gL, fO, eG, x9], l.length ≤ 1000000000) (hs : ∀ l ∈ [gL, fO, eG, x9], ∀ s ∈ l, s.size ≤ 140737488355328) (h3 : f3.size ≤ 140737488355328) (h4 : f4.size ≤ 140737488355328) (h5 : f5.size ≤ 140737488355328) (hal : (allB (Yug [f3, f4, f5] [gL, fO, eG, x9])).length ≤ 1000000000) (hnn : ∀ l ∈ [gL, fO, eG, x9], l.length ≤ 100000000) :
  Calls Tryz.prog 12 #[.agg (ec f0 f1 f2 f3 f4 f5 f6 f7 c0 c1 c2 (.slice A9 x9.length n9) iS (.slice cA gL.length n11) (.slice bW fO.length n12) (.slice cB eG.length n13))] w fun e w' => e = .returned (.string ((⟨#[104, 58]⟩ : Y) ++ Ypg (Yug [f3, f4, f5] [gL, fO, eG, x9]))) ∧ Below w.heap.size w w' := by
 have d1 : (f1.toList != ([] : List UInt8)) = false := bne_eq_false_iff_eq.2 h1
 have d1e : f1.toList.isEmpty = true := List.isEmpty_iff.2 h1
 have d2 : (f2.toList != ([] : List UInt8)) = false := bne_eq_false_iff_eq.2 h2
 have d2e : f2.toList.isEmpty = true := List.isEmpty_iff.2 h2
 have d9 : (u9 == 0) = false := beq_eq_false_iff_ne.2 h9
 have mT := Tryz.underlying32
 generalize hcs : (ec f0 f1 f2 f3 f4 f5 f6 f7 c0 c1 c2 (.slice A9 x9.length n9) iS (.slice cA gL.length n11) (.slice bW fO.length n12) (.slice cB eG.length n13)) = cs
 have BK := Ya.mk (heap_alloc_new w (.cells cs 32))
 have HB := Ya.mk ((Below.refl w.heap.size w).alloc (Ks _) (.cells cs 32))
 have HE := Ya.mk hE
 have HP := Ya.mk hp
 have HN := Ya.mk hnn
 have HAL := Ya.mk hal
 have HS := Ya.mk hs
 have HF := Ya.mk (And.intro h3 (And.intro h4 h5))
 have R := Ya.mk (And.intro r9 (And.intro rB (And.intro rC rD)))
 subst hcs
 clear h1 hE hp h2 h9 hn hnn hal hs h3 h4 h5 r9 rB rC rD
 have fL := (Yf BK.out 1).trans rfl
 have gU := (Yf BK.out 2).trans rfl
 go_enter Tryz.func12, Tryz.ntmps12
 go_wp2_with fail
 clear fL gU
 refine (Ykc.calls _ _ _ _ _ _ _ _ _ _ _ (HE.out.below HB.out) HP.out).mono ?_
 rintro e w1 ⟨rfl, hb⟩
 replace BK := Ya.mk (Yja (Ycb BK.out hb) (.cells #[.string u1, .string u2, .int .i64 u3, .string u4, .string u5, .string u6, .bool u7, .bool u8] 46))
 replace HB := Ya.mk ((HB.out.trans (hb.mono HB.out.size)).alloc (HB.out.trans (hb.mono HB.out.size)).size (.cells #[.string u1, .string u2, .int .i64 u3, .string u4, .string u5, .string u6, .bool u7, .bool u8] 46))
 clear hb
 have gU := (Yf BK.out 2).trans rfl
 have lS := (Yf BK.out 3).trans rfl
 have kT := (Yf BK.out 4).trans rfl
 have kS := (Yf BK.out 5).trans rfl
 replace BK := Ya.mk (Yja BK.out (.cells #[.string f3, .string f4, .string f5] 9))
 have BP := Ya.mk (heap_alloc_new (w1.alloc (.cells #[.string u1, .string u2, .int .i64 u3, .string u4, .string u5, .string u6, .bool u7, .bool u8] 46)) (.cells #[.string f3, .string f4, .string f5] 9))
 have HR := Ya.mk (OwnRow.lit (R := Kd.string.M w w.heap.size (fun _ => True)) (e := 9) (size := 1) (w1.alloc (.cells #[.string u1, .string u2, .int .i64 u3, .string u4, .string u5, .string u6, .bool u7, .bool u8] 46)) w.heap.size (ps := [f3, f4, f5]) (inner := [.string f3, .string f4, .string f5]) ⟨rfl, fun j p hj => by
  rcases j with _ | _ | _ | j
  ·obtain rfl : f3 = p := by simpa using hj
   rfl
  ·obtain rfl : f4 = p := by simpa using hj
   rfl
  ·obtain rfl : f5 = p := by simpa using hj
   rfl
  ·simp at hj⟩ HB.out.size Zq)
 replace HB := Ya.mk (HB.out.alloc HB.out.size (.cells #[.string f3, .string f4, .string f5] 9))
 have aBu := (Yf BK.out 11).trans rfl
 have aGo := (Yf BK.out 13).trans rfl
 have aGp := (Yf BK.out 14).trans rfl
 have aGq := (Yf BK.out 15).trans rfl
 go_wp2_with fail
 clear gU lS kT kS aBu aGo aGp aGq d1 d1e d2 d2e d9 BP
 have hgu : (w1.alloc (.cells #[.string u1, .string u2, .int .i64 u3, .string u4, .string u5, .string u6, .bool u7, .bool u8] 46)).heap.size = w1.heap.size + 1 := Array.size_push _
 rw [hgu] at HR
 clear hgu
 replace HR := Ya.mk (show Kd.R Kd.string 9 ((w1.alloc (.cells #[.string u1, .string u2, .int .i64 u3, .string u4, .string u5, .string u6, .bool u7, .bool u8] 46)).alloc (.cells #[.string f3, .string f4, .string f5] 9)) w.heap.size (fun _ => True) (.slice (some ⟨w1.heap.size + 1, 0, none⟩) 3 3) [f3, f4, f5] from ⟨fun _ _ => trivial, HR.out⟩)
 replace BK := Ya.mk (heap_alloc_new ((w1.alloc (.cells #[.string u1, .string u2, .int .i64 u3, .string u4, .string u5, .string u6, .bool u7, .bool u8] 46)).alloc (.cells #[.string f3, .string f4, .string f5] 9)) (.cells #[.slice cA gL.length n11, .slice bW fO.length n12, .slice cB eG.length n13, .slice A9 x9.length n9] 23))
 have HG := Ya.mk HB.out.size
 replace HR := Ya.mk (Kd.R_alloc HR.out (.cells #[.slice cA gL.length n11, .slice bW fO.length n12, .slice cB eG.length n13, .slice A9 x9.length n9] 23))
 replace HB := Ya.mk (HB.out.alloc HB.out.size (.cells #[.slice cA gL.length n11, .slice bW fO.length n12, .slice cB eG.length n13, .slice A9 x9.length n9] 23))
 generalize ((w1.alloc (.cells #[.string u1, .string u2, .int .i64 u3, .string u4, .string u5, .string u6, .bool u7, .bool u8] 46)).alloc (.cells #[.string f3, .string f4, .string f5] 9)).alloc (.cells #[.slice cA gL.length n11, .slice bW fO.length n12, .slice cB eG.length n13, .slice A9 x9.length n9] 23) = w2 at BK HR HB ⊢
 have hgz : ((w1.alloc (.cells #[.string u1, .string u2, .int .i64 u3, .string u4, .string u5, .string u6, .bool u7, .bool u8] 46)).alloc (.cells #[.string f3, .string f4, .string f5] 9)).heap.size = w1.heap.size + 2 := by
  rw [World.alloc, World.alloc]
  simp
 rw [hgz] at BK HG
 clear hgz
 generalize w1.heap.size + 2 = g at BK HG ⊢
 go_loopg [5, 7] 4 (fun gk v5 v48 wx => ∃ (i : Nat) (acc : List Y), i + gk = 4 ∧ v48 = .int .i64 (i : Int) ∧ Ya (Yug acc ([gL, fO, eG, x9].drop i) = Yug [f3, f4, f5] [gL, fO, eG, x9]) ∧ Ya (acc.length ≤ i * 100000001 + 3) ∧ Ya (∀ s ∈ acc, s.size ≤ 140737488355328) ∧ Ya (Kd.R Kd.string 9 wx w.heap.size (fun _ => True) v5 acc) ∧ Ya (wx.heap[g]? = some (.cells #[.slice cA gL.length n11, .slice bW fO.length n12, .slice cB eG.length n13, .slice A9 x9.length n9] 23 (0, 0))) ∧ Ya (Below w.heap.size w wx))
 case atStart => exact ⟨0, [f3, f4, f5], rfl, rfl, ⟨rfl⟩, ⟨Zq⟩, ⟨by
  intro s hm
  have := HF.out
  simp only [List.mem_cons, List.not_mem_nil, or_false] at hm
  rcases hm with rfl | rfl | rfl <;> omega⟩, HR, BK, HB⟩
 case round =>
  clear BK HR HB
  obtain ⟨i, acc, hi, rfl, HT, HL, HA, HR, BK, HB⟩ := hrel
  cases gk with
  | zero =>
   obtain rfl : i = 4 := by omega
   obtain ⟨km, hkm⟩ := rMarks_f acc (by rw [show acc = Yug [f3, f4, f5] [gL, fO, eG, x9] from HT.out]; exact HAL.out) (by have := HL.out; omega)
   have HKM := Ya.mk (hkm km (Ks _))
   clear hkm
   obtain ⟨A, c, rfl, hlc, hC⟩ := Kd.R_reads HR.out
   have HC := Ya.mk hC
   have HLC := Ya.mk hlc
   clear hC hlc
   go_wp2_with fail
   refine (Ykb.calls km A c acc (Ypg acc) _ (HE.out.below HB.out) HC.out HLC.out HKM.out).mono ?_
   rintro e w3 ⟨rfl, hb⟩
   replace HB := Ya.mk (HB.out.trans (hb.mono HB.out.size))
   clear hb
   have hz := Yvk acc
   have yM : (2 + (Ypg acc).size ≤ 9223372036854775807) := by omega
   have uD : (9223372036854775807 < 2 + (Ypg acc).size) = False := eq_false Zj
   have HM := Ya.mk (show Ypg acc = Ypg (Yug [f3, f4, f5] [gL, fO, eG, x9]) by rw [← HT.out]; rfl)
   clear hz
   go_wp2_with fail
   go_ret
   exact ⟨by rw [HM.out]; rfl, HB.out⟩
  | succ g1 =>
   have hlt : i < 4 := by omega
   have c0_ : decide ((i : Int) < (4 : Int)) = true := Kn Zj
   have p5 : 0 ≤ (i : Int) := by omega
   have q5 : (i : Int) < ((4 : Nat) : Int) := by omega
   obtain ⟨A0, n0, gJ, hC0⟩ := Yxq BK.out R.out.2.1 R.out.2.2.1 R.out.2.2.2 R.out.1 i hlt
   have hrd : Ywc [gL, fO, eG, x9] (i : Int) = ([gL, fO, eG, x9] : List (List Y))[i]'hlt := by unfold Ywc; rw [Int.toNat_natCast, List.getD_eq_getElem?_getD, List.getElem?_eq_getElem hlt]; rfl
   have hmem : Ywc [gL, fO, eG, x9] (i : Int) ∈ [gL, fO, eG, x9] := by rw [hrd]; exact List.getElem_mem hlt
   have hdr : ([gL, fO, eG, x9] : List (List Y)).drop i = Ywc [gL, fO, eG, x9] (i : Int) :: [gL, fO, eG, x9].drop (i + 1) := by rw [hrd]; exact List.drop_eq_getElem_cons hlt
   have jK := HN.out _ hmem
   have HS1 := Ya.mk (HS.out _ hmem)
   rw [hdr] at HT
   clear hrd hmem hdr
   generalize Ywc [gL, fO, eG, x9] (i : Int) = l at gJ hC0 jK HS1 HT
   have HC0 := Ya.mk hC0
   have iN : wrap64 ((i : Int) + 1) = ((i + 1 : Nat) : Int) := by unfold wrap64; omega
   have HW := Ya.mk iN
   have HL1 := Ya.mk jK
   have htz : Yim (l.length : Int) = Yvf l.length := by unfold Yim; rw [if_neg Zj, Int.toNat_natCast]
   obtain ⟨kt, hkt⟩ := Ywp (l.length : Int) Zj Zj
   rw [htz] at hkt
   clear htz
   have HTX := Ya.mk (hkt kt (Ks _))
   have HTZ := Ya.mk (show (strOfNums (Yvf l.length)).size ≤ 20 by rw [strOfNums_size]; exact Ycf _)
   have HAC := Ya.mk (show acc.length ≤ 5000000000 by have := HL.out; have := Nat.mul_le_mul_right 100000001 (show i ≤ 4 by omega); omega)
   clear hC0 iN hkt jK
   generalize htx : strOfNums (Yvf l.length) = tx at HTX HTZ
   have HTE := Ya.mk htx
   clear htx
   go_wp2_with fail
   refine (Ygc.calls kt _ _ _ (HE.out.below HB.out) HTX.out).mono ?_
   rintro e w3 ⟨rfl, hb⟩
   have cZ := Ya.mk (HB.out.trans (hb.mono HB.out.size))
   have wG := Ya.mk (Kd.R_below HR.out hb)
   have yR := Ya.mk (Ycb BK.out hb)
   clear hb
   go_wp2_with (first | ((with_reducible refine Yic (b := .append) (xs := #[.tmp 53, .tmp 60]) rfl ?_); at_builtin; refine Kd.R_append Kd.string (w0 := w) w.heap.size rfl (.tmp 53) (.tmp 60) 23 9 (.string ⟨#[]⟩) 16 rfl Tryz.underlying23 Ype rfl Zw Zw _ acc tx [.string tx] (fun _ => True) (fun _ => False) rfl rfl rfl (fun _ hk => hk.elim) (fun _ _ => trivial) wG.out cZ.out cZ.out.size (by have := HAC.out; omega) ?_; intro v1 w4 hR4 hB4 hg4 aGs; have oK := Ya.mk (Yeh yR.out hg4 (Kd.R_ne wG.out yR.out Zw)); have jO := Ya.mk hR4; have cU := Ya.mk hB4; have HX4 := Ya.mk (Kd.C_below HC0.out hB4); have hx6 := (Yf oK.out i).trans ((Yf BK.out i).symm.trans gJ); clear hR4 hB4 hg4 aGs) | ((with_reducible refine Yic (b := .append) (xs := #[.tmp 62, .tmp 66]) rfl ?_); at_builtin; refine Kd.R_append_rows Kd.string (Rr := Kd.string.K w) (w0 := w) w.heap.size rfl (.tmp 62) (.tmp 66) 23 9 (.string ⟨#[]⟩) 16 rfl Tryz.underlying23 Ype rfl Zw Zw _ (acc ++ [tx]) l _ _ _ (fun _ => True) (fun _ => False) rfl rfl jO.out HX4.out (fun _ _ h => h) (fun _ hk => hk.elim) (fun _ _ => trivial) cU.out cU.out.size (by have := HAC.out; have := HL1.out; simp; omega) ?_; intro v2 w5 hR5 gK hg5 aGt; have kW := Ya.mk (Yeh oK.out hg5 (Kd.R_ne jO.out oK.out Zw)); have yQ := Ya.mk hR5; have cH := Ya.mk gK; clear hR5 gK hg5 aGt))
   have HW2 := Ya.mk HW.out
   go_roundg g1
   case measure => omega
   case rel => exact ⟨i + 1, (acc ++ [tx]) ++ l, Zj, by go_num, ⟨by rw [← HT.out, ← HTE.out]; rfl⟩, ⟨by rw [List.length_append, List.length_append, List.length_singleton]; have := HL.out; have := HL1.out; omega⟩, ⟨by
    intro s hm
    rcases List.mem_append.1 hm with hm | hm
    ·rcases List.mem_append.1 hm with hm | hm
     ·exact HA.out s hm
     ·rw [List.mem_singleton.1 hm]; have := HTZ.out; omega
    ·exact HS1.out s hm⟩, yQ, kW, cH⟩
structure Yom (x : S32) : Prop where
 ok : OfOk x
 all : (allB (Yug [x.f3, x.f4, x.f5] [x.f11, x.f12, x.f13, x.f9])).length ≤ 1000000000
 few : ∀ l ∈ [x.f11, x.f12, x.f13, x.f9], l.length ≤ 100000000
theorem rKey_f {u1 u2 : Y} {u3 : Int} {u4 u5 u6 : Y} {u7 u8 : Bool} {host r : List UInt8} (hp : Ygj u1 u2 u3 u4 u5 u6 u7 u8 host r) :
  EvR (fun k => Yqe.f k u1 u2 u3 u4 u5 u6 u7 u8) (Ygg u1 u2 u3 u4 u5 ⟨#[]⟩ u7 false) := by
 obtain ⟨s1, s2, s4, s5⟩ := Ywi hp
 have hz : (⟨#[]⟩ : Y).size = 0 := rfl
 have h3 := Yjp u1 u2 u3 u4 u5 ⟨#[]⟩ u7 false Zj Zj Zj Zj Zj hp.p0 (by have := hp.p1; omega)
 unfold Yqe.f
 exact EvR.bind h3 (EvR.of fun k => rfl)
theorem Yyl (x : S32) (cs : List Value) (w : World) (hE : EnvOk w) (hK : k32.K w x cs) (ha : Yom x) :
  Calls Tryz.prog 12 #[.agg cs.toArray] w fun e w' => e = .returned (.string (ofR x)) ∧ Below w.heap.size w w' := by
 obtain ⟨A9, n9, gE, n10, cA, n11, bW, n12, cB, n13, rfl, l9, g9, l10, g10, jW, nC, jX, mL, jY, lW⟩ := Yij hK
 have hx := ha.ok
 unfold ofR Yvm
 by_cases e1 : x.f1.toList = ([] : List UInt8)
 ·rw [if_pos e1]
  have mM : Ykc.f x.f2 = some (Ytg x.f2.data.toList) := by
   unfold Ykc.f
   rw [if_pos (by have := hx.s2; omega)]
  obtain ⟨u1, u2, u3, u4, u5, u6, u7, u8, u9, hu⟩ : ∃ u1 u2 u3 u4 u5 u6 u7 u8 u9, Ytg x.f2.data.toList = (u1, u2, u3, u4, u5, u6, u7, u8, u9) := ⟨_, _, _, _, _, _, _, _, _, rfl⟩
  rw [hu] at mM
  rw [hu]
  by_cases e2 : u9 = 0
  ·subst e2
   rw [if_pos rfl]
   obtain ⟨host, r, hp⟩ := Ybm hu
   obtain ⟨k2, zV⟩ := rKey_f hp
   exact rof_key k2 _ _ _ _ _ _ _ _ _ _ _ _ _ _ _ _ u1 u2 u3 u4 u5 u6 u7 u8 _ w hE e1 mM (zV _ (Ks _)) (Nat.le_trans (Ybo hp) Zw)
  ·rw [if_neg e2]
   by_cases e3 : x.f2.toList = ([] : List UInt8)
   ·rw [if_pos e3]
    exact rof_mark 0 _ _ _ _ _ _ _ _ _ _ _ x.f9 x.f11 x.f12 x.f13 A9 cA bW cB n9 n11 n12 n13 _ u1 u2 u3 u4 u5 u6 u7 u8 u9 w hE e1 mM e2 e3 ⟨l9, g9⟩ ⟨jW, nC⟩ ⟨jX, mL⟩ ⟨jY, lW⟩ hx.hn hx.hs (by have := hx.s3; omega) (by have := hx.s4; omega) (by have := hx.s5; omega) ha.all ha.few
   ·rw [if_neg e3]
    exact rof_url 0 _ _ _ _ _ _ _ _ _ _ _ _ _ _ _ _ u1 u2 u3 u4 u5 u6 u7 u8 u9 w hE e1 mM e2 e3 (by have := hx.s2; omega)
 ·rw [if_neg e1]
  exact rof_uid _ _ _ _ _ _ _ _ _ _ _ _ _ _ _ _ w e1 (by have := hx.s1; omega)
end Go.Proofs.YtihaeeldgimdiaaGreatDoor.X
end
