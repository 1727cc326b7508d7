/- UrlTexts: what a call of it does. -/
import Derived.Test.YtnmglnglbdpjjaaGreatDoorUcZq
import Derived.Test.YtnmglnglbdpjjaaGreatDoorUcZz
import Derived.Test.YtnmglnglbdpjjaaGreatDoorUcRs
import Derived.Test.YtnmglnglbdpjjaaGreatDoorUcX18
import Derived.Test.YtnmglnglbdpjjaaGreatDoorUcX12
import Derived.Test.YtnmglnglbdpjjaaGreatDoorUcX2
namespace Go.Proofs.YtnmglnglbdpjjaaGreatDoor.X
open Go.RowKit Go.Lib Go.Shelf Go.Yw.PrintWords Go.Yw.PrintLast Go.Yw.PrintMore
set_option linter.unusedVariables false
set_option linter.unusedSimpArgs false
theorem eqSame (d : Nat) (w : World) (u1 u2 : ByteArray) (u3 : Int) (u4 u5 u6 : ByteArray) (u7 u8 : Bool) : (Op.equalIn (d + 2) 25 (.agg #[.string u1, .string u2, .int .i64 u3, .string u4, .string u5, .string u6, .bool u7, .bool u8]) (.agg #[.string u1, .string u2, .int .i64 u3, .string u4, .string u5, .string u6, .bool u7, .bool u8])).run Tryz.prog w = .ok true w := by
 rw [eqH25]
 simp only [beq_self_eq_true, Bool.and_self]
attribute [local go_sem high] eqSame
theorem Yyl : Yyi 60 := ⟨by kernel_rfl, by kernel_rfl⟩
def Yok : Bool × List (List Nat × List Nat) := (true, [([], []), ([0], [0]), ([], []), ([1, 2], [1, 2]), ([3, 1], [3]), ([4], [4]), ([5, 4, 4], [4, 5]), ([4], [4]), ([7, 4], [4, 7]), ([8, 6, 4], [4, 8]), ([9], [9]), ([9], [9]), ([10, 11, 9], [9, 10, 11]), ([9, 12, 4], [4, 9, 12]), ([6, 13, 4], [4, 6, 13]), ([4, 14], [4, 14]), ([15, 9], [15]), ([16], [16]), ([17, 16, 16], [16, 17]), ([16], [16]), ([18, 19, 16], [16, 18, 19]), ([16, 20], [16, 20]), ([21, 18], [21]), ([22], [22]), ([23, 22, 22], [22, 23]), ([22], [22]), ([24, 25, 22], [22, 24, 25]), ([22, 26], [22, 26]), ([27, 24], [27]), ([28, 28], [28]), ([28, 29], [28, 29]), ([30, 29, 0, 1, 2, 3, 4, 5, 6, 7, 8, 9, 10, 11, 12, 13, 14, 15, 16, 17, 18, 19, 20, 21, 22, 23, 24, 25, 26, 27, 28, 29, 30], [30])])
def Yko : List Nat := [0, 1, 0, 7, 15, 31, 63, 31, 159, 511, 1023, 1023, 4095, 8191, 16383, 32767, 65535, 131071, 262143, 131071, 1048575, 2097151, 4194303, 8388607, 16777215, 8388607, 67108863, 134217727, 268435455, 536870911, 1073741823, 2147483647]
theorem Ycj : rtab .any (opsOf Tryz.f5 8) = Yok := by kernel_rfl
theorem Yki : Yog Yok.2 Yko = true := by kernel_rfl
def eqU (u1 u2 : ByteArray) (u3 : Int) (u4 u5 u6 : ByteArray) (u7 u8 : Bool) (v1 v2 : ByteArray) (v3 : Int) (v4 v5 v6 : ByteArray) (v7 v8 : Bool) : Bool :=
 u1.toList == v1.toList && (u2.toList == v2.toList && (u3 == v3 && (u4.toList == v4.toList && (u5.toList == v5.toList && (u6.toList == v6.toList && (u7 == v7 && (u8 == v8)))))))
theorem Yqg {α : Type} [BEq α] [LawfulBEq α] (a b : α) : (a == b) = (b == a) := by
 by_cases h : a = b
 ·rw [h]
 ·rw [beq_eq_false_iff_ne.2 h, beq_eq_false_iff_ne.2 (Ne.symm h)]
theorem eqU_turn (u1 u2 : ByteArray) (u3 : Int) (u4 u5 u6 : ByteArray) (u7 u8 : Bool) (v1 v2 : ByteArray) (v3 : Int) (v4 v5 v6 : ByteArray) (v7 v8 : Bool) : eqU u1 u2 u3 u4 u5 u6 u7 u8 v1 v2 v3 v4 v5 v6 v7 v8 = eqU v1 v2 v3 v4 v5 v6 v7 v8 u1 u2 u3 u4 u5 u6 u7 u8 := by
 unfold eqU
 rw [Yqg u1.toList, Yqg u2.toList, Yqg u3, Yqg u4.toList, Yqg u5.toList, Yqg u6.toList, Yqg u7, Yqg u8]
set_option maxHeartbeats 8000000 in
set_option maxRecDepth 100000 in
theorem Yfm (k : Nat) (u1 u2 : ByteArray) (u3 : Int) (u4 u5 u6 : ByteArray) (u7 u8 : Bool) (l1 l2 l3 l4 l5 : Bool) (w : World) (hE : EnvOk w) (ha : Yyi k) (hany : (l1 || (l2 || (l3 || (l4 || l5)))) = true)
  (h1 : Yma.f u1 = some l1) (h2 : Yma.f u2 = some l2) (h3 : Yma.f u4 = some l3) (h4 : Yma.f u5 = some l4) (h5 : Yma.f u6 = some l5) :
  Calls Tryz.prog 5 #[.agg (uc u1 u2 u3 u4 u5 u6 u7 u8)] w fun e w' => e = .returned (.bool true) ∧ Below w.heap.size w w' := by
 have HE := Ya.mk hE
 have HA := Ya.mk ha
 have HL1 := Ya.mk h1
 have HL2 := Ya.mk h2
 have HL3 := Ya.mk h3
 have HL4 := Ya.mk h4
 have HL5 := Ya.mk h5
 have hu25 := Tryz.underlying25
 clear hE ha h1 h2 h3 h4 h5
 have hbk := heap_alloc_new w (.cells (uc u1 u2 u3 u4 u5 u6 u7 u8) 25)
 have BK := Ya.mk hbk
 have HB := Ya.mk ((Below.refl w.heap.size w).alloc (Nat.le_refl _) (.cells (uc u1 u2 u3 u4 u5 u6 u7 u8) 25))
 obtain ⟨hc0, hc1, hc2, hc3, hc4, hc5, hc6, hc7⟩ := Yea hbk
 clear hbk
 go_enter Tryz.func5, Tryz.ntmps5
 cases l1 with
 | true =>
  go_wp2_with fail
  clear hc0 hc1 hc2 hc3 hc4 hc5 hc6 hc7
  refine (Yma.calls u1 true _ (HE.out.below HB.out) HL1.out).mono ?_
  rintro e w9 ⟨rfl, ⟨nd, rfl⟩⟩
  replace BK := Ya.mk (Yha BK.out nd)
  replace HB := Ya.mk (Yb HB.out nd)
  generalize (w.alloc (.cells (uc u1 u2 u3 u4 u5 u6 u7 u8) 25)).drewN nd = wl0 at BK HB ⊢
  obtain ⟨hc0, hc1, hc2, hc3, hc4, hc5, hc6, hc7⟩ := Yea BK.out
  go_wp2_with fail
  refine (Yff k _ (HE.out.below HB.out) HA.out).mono ?_
  rintro e wz ⟨rfl, hb⟩
  have HBz := Ya.mk (HB.out.trans (hb.mono HB.out.size))
  clear hb hc0 hc1 hc2 hc3 hc4 hc5 hc6 hc7
  go_wp2_with fail
  go_ret
  exact ⟨rfl, HBz.out⟩
 | false =>
  go_wp2_with fail
  clear hc0 hc1 hc2 hc3 hc4 hc5 hc6 hc7
  refine (Yma.calls u1 false _ (HE.out.below HB.out) HL1.out).mono ?_
  rintro e w9 ⟨rfl, ⟨nd, rfl⟩⟩
  replace BK := Ya.mk (Yha BK.out nd)
  replace HB := Ya.mk (Yb HB.out nd)
  generalize (w.alloc (.cells (uc u1 u2 u3 u4 u5 u6 u7 u8) 25)).drewN nd = wl0 at BK HB ⊢
  obtain ⟨hc0, hc1, hc2, hc3, hc4, hc5, hc6, hc7⟩ := Yea BK.out
  cases l2 with
  | true =>
   go_wp2_with fail
   clear hc0 hc1 hc2 hc3 hc4 hc5 hc6 hc7
   refine (Yma.calls u2 true _ (HE.out.below HB.out) HL2.out).mono ?_
   rintro e w9 ⟨rfl, ⟨nd, rfl⟩⟩
   replace BK := Ya.mk (Yha BK.out nd)
   replace HB := Ya.mk (Yb HB.out nd)
   generalize wl0.drewN nd = wl1 at BK HB ⊢
   obtain ⟨hc0, hc1, hc2, hc3, hc4, hc5, hc6, hc7⟩ := Yea BK.out
   go_wp2_with fail
   refine (Yff k _ (HE.out.below HB.out) HA.out).mono ?_
   rintro e wz ⟨rfl, hb⟩
   have HBz := Ya.mk (HB.out.trans (hb.mono HB.out.size))
   clear hb hc0 hc1 hc2 hc3 hc4 hc5 hc6 hc7
   go_wp2_with fail
   go_ret
   exact ⟨rfl, HBz.out⟩
  | false =>
   go_wp2_with fail
   clear hc0 hc1 hc2 hc3 hc4 hc5 hc6 hc7
   refine (Yma.calls u2 false _ (HE.out.below HB.out) HL2.out).mono ?_
   rintro e w9 ⟨rfl, ⟨nd, rfl⟩⟩
   replace BK := Ya.mk (Yha BK.out nd)
   replace HB := Ya.mk (Yb HB.out nd)
   generalize wl0.drewN nd = wl1 at BK HB ⊢
   obtain ⟨hc0, hc1, hc2, hc3, hc4, hc5, hc6, hc7⟩ := Yea BK.out
   cases l3 with
   | true =>
    go_wp2_with fail
    clear hc0 hc1 hc2 hc3 hc4 hc5 hc6 hc7
    refine (Yma.calls u4 true _ (HE.out.below HB.out) HL3.out).mono ?_
    rintro e w9 ⟨rfl, ⟨nd, rfl⟩⟩
    replace BK := Ya.mk (Yha BK.out nd)
    replace HB := Ya.mk (Yb HB.out nd)
    generalize wl1.drewN nd = wl2 at BK HB ⊢
    obtain ⟨hc0, hc1, hc2, hc3, hc4, hc5, hc6, hc7⟩ := Yea BK.out
    go_wp2_with fail
    refine (Yff k _ (HE.out.below HB.out) HA.out).mono ?_
    rintro e wz ⟨rfl, hb⟩
    have HBz := Ya.mk (HB.out.trans (hb.mono HB.out.size))
    clear hb hc0 hc1 hc2 hc3 hc4 hc5 hc6 hc7
    go_wp2_with fail
    go_ret
    exact ⟨rfl, HBz.out⟩
   | false =>
    go_wp2_with fail
    clear hc0 hc1 hc2 hc3 hc4 hc5 hc6 hc7
    refine (Yma.calls u4 false _ (HE.out.below HB.out) HL3.out).mono ?_
    rintro e w9 ⟨rfl, ⟨nd, rfl⟩⟩
    replace BK := Ya.mk (Yha BK.out nd)
    replace HB := Ya.mk (Yb HB.out nd)
    generalize wl1.drewN nd = wl2 at BK HB ⊢
    obtain ⟨hc0, hc1, hc2, hc3, hc4, hc5, hc6, hc7⟩ := Yea BK.out
    cases l4 with
    | true =>
     go_wp2_with fail
     clear hc0 hc1 hc2 hc3 hc4 hc5 hc6 hc7
     refine (Yma.calls u5 true _ (HE.out.below HB.out) HL4.out).mono ?_
     rintro e w9 ⟨rfl, ⟨nd, rfl⟩⟩
     replace BK := Ya.mk (Yha BK.out nd)
     replace HB := Ya.mk (Yb HB.out nd)
     generalize wl2.drewN nd = wl3 at BK HB ⊢
     obtain ⟨hc0, hc1, hc2, hc3, hc4, hc5, hc6, hc7⟩ := Yea BK.out
     go_wp2_with fail
     refine (Yff k _ (HE.out.below HB.out) HA.out).mono ?_
     rintro e wz ⟨rfl, hb⟩
     have HBz := Ya.mk (HB.out.trans (hb.mono HB.out.size))
     clear hb hc0 hc1 hc2 hc3 hc4 hc5 hc6 hc7
     go_wp2_with fail
     go_ret
     exact ⟨rfl, HBz.out⟩
    | false =>
     go_wp2_with fail
     clear hc0 hc1 hc2 hc3 hc4 hc5 hc6 hc7
     refine (Yma.calls u5 false _ (HE.out.below HB.out) HL4.out).mono ?_
     rintro e w9 ⟨rfl, ⟨nd, rfl⟩⟩
     replace BK := Ya.mk (Yha BK.out nd)
     replace HB := Ya.mk (Yb HB.out nd)
     generalize wl2.drewN nd = wl3 at BK HB ⊢
     obtain ⟨hc0, hc1, hc2, hc3, hc4, hc5, hc6, hc7⟩ := Yea BK.out
     cases l5 with
     | true =>
      go_wp2_with fail
      clear hc0 hc1 hc2 hc3 hc4 hc5 hc6 hc7
      refine (Yma.calls u6 true _ (HE.out.below HB.out) HL5.out).mono ?_
      rintro e w9 ⟨rfl, ⟨nd, rfl⟩⟩
      replace BK := Ya.mk (Yha BK.out nd)
      replace HB := Ya.mk (Yb HB.out nd)
      generalize wl3.drewN nd = wl4 at BK HB ⊢
      obtain ⟨hc0, hc1, hc2, hc3, hc4, hc5, hc6, hc7⟩ := Yea BK.out
      go_wp2_with fail
      refine (Yff k _ (HE.out.below HB.out) HA.out).mono ?_
      rintro e wz ⟨rfl, hb⟩
      have HBz := Ya.mk (HB.out.trans (hb.mono HB.out.size))
      clear hb hc0 hc1 hc2 hc3 hc4 hc5 hc6 hc7
      go_wp2_with fail
      go_ret
      exact ⟨rfl, HBz.out⟩
     | false => simp at hany
set_option maxHeartbeats 8000000 in
set_option maxRecDepth 100000 in
theorem Yol (k kS kO kU kM kR : Nat) (u1 u2 : ByteArray) (u3 : Int) (u4 u5 u6 : ByteArray) (u7 u8 : Bool) (s o : ByteArray) (v1 v2 : ByteArray) (v3 : Int) (v4 v5 v6 : ByteArray) (v7 v8 : Bool) (v9 : Int) (w : World) (hE : EnvOk w) (ha : Yyi k)
  (h1 : Yma.f u1 = some false) (h2 : Yma.f u2 = some false) (h3 : Yma.f u4 = some false) (h4 : Yma.f u5 = some false) (h5 : Yma.f u6 = some false)
  (hS : Yja.f kS u1 u2 u3 u4 u5 u6 u7 u8 = some s) (hsz : s.size ≤ 100000000) (hP : Ylj s.data.toList = (v1, v2, v3, v4, v5, v6, v7, v8, v9)) (hO : Yja.f kO u1 u2 u3 ⟨#[]⟩ ⟨#[]⟩ ⟨#[]⟩ false false = some o)
  (hU : Ync.f kU u1 u2 u3 u4 u5 u6 u7 u8 = some s) (hM : Yth.f kM u1 u2 u3 u4 u5 u6 u7 u8 = some (if v9 = 0 then eqU u1 u2 u3 u4 u5 u6 u7 u8 v1 v2 v3 v4 v5 v6 v7 v8 else false)) (hR : Ybd.f kR u1 u2 u3 u4 u5 u6 u7 u8 = some o) :
  Calls Tryz.prog 5 #[.agg (uc u1 u2 u3 u4 u5 u6 u7 u8)] w fun e w' => e = .returned (.bool true) ∧ Below w.heap.size w w' := by
 have HE := Ya.mk hE
 have HA := Ya.mk ha
 have HL1 := Ya.mk h1
 have HL2 := Ya.mk h2
 have HL3 := Ya.mk h3
 have HL4 := Ya.mk h4
 have HL5 := Ya.mk h5
 have HS := Ya.mk hS
 have HSZ := Ya.mk hsz
 have HP := Ya.mk hP
 have HO2 := Ya.mk hO
 have HU := Ya.mk hU
 have HO := Ya.mk hR
 have hu25 := Tryz.underlying25
 have hi25 : (Tryz.prog.info? 25).map (·.size) = some 8 := by kernel_rfl
 obtain ⟨bb, hbb⟩ : ∃ x, x = eqU u1 u2 u3 u4 u5 u6 u7 u8 v1 v2 v3 v4 v5 v6 v7 v8 := ⟨_, rfl⟩
 have heq : ∀ (d : Nat) (w : World), (Op.equalIn (d + 2) 25 (.agg #[.string u1, .string u2, .int .i64 u3, .string u4, .string u5, .string u6, .bool u7, .bool u8]) (.agg #[.string v1, .string v2, .int .i64 v3, .string v4, .string v5, .string v6, .bool v7, .bool v8])).run Tryz.prog w = .ok bb w := fun d w => by rw [hbb]; exact eqH25 d w u1 v1 u2 v2 u3 v3 u4 v4 u5 v5 u6 v6 u7 v7 u8 v8
 rw [← hbb] at hM
 clear hE ha h1 h2 h3 h4 h5 hS hsz hP hO hU hR hbb
 have hbk := heap_alloc_new w (.cells (uc u1 u2 u3 u4 u5 u6 u7 u8) 25)
 have BK := Ya.mk hbk
 have HB := Ya.mk ((Below.refl w.heap.size w).alloc (Nat.le_refl _) (.cells (uc u1 u2 u3 u4 u5 u6 u7 u8) 25))
 obtain ⟨hc0, hc1, hc2, hc3, hc4, hc5, hc6, hc7⟩ := Yea hbk
 clear hbk
 go_enter Tryz.func5, Tryz.ntmps5
 go_wp2_with fail
 clear hc0 hc1 hc2 hc3 hc4 hc5 hc6 hc7
 refine (Yma.calls u1 false _ (HE.out.below HB.out) HL1.out).mono ?_
 rintro e w9 ⟨rfl, ⟨nd, rfl⟩⟩
 replace BK := Ya.mk (Yha BK.out nd)
 replace HB := Ya.mk (Yb HB.out nd)
 generalize (w.alloc (.cells (uc u1 u2 u3 u4 u5 u6 u7 u8) 25)).drewN nd = wl0 at BK HB ⊢
 obtain ⟨hc0, hc1, hc2, hc3, hc4, hc5, hc6, hc7⟩ := Yea BK.out
 go_wp2_with fail
 clear hc0 hc1 hc2 hc3 hc4 hc5 hc6 hc7
 refine (Yma.calls u2 false _ (HE.out.below HB.out) HL2.out).mono ?_
 rintro e w9 ⟨rfl, ⟨nd, rfl⟩⟩
 replace BK := Ya.mk (Yha BK.out nd)
 replace HB := Ya.mk (Yb HB.out nd)
 generalize wl0.drewN nd = wl1 at BK HB ⊢
 obtain ⟨hc0, hc1, hc2, hc3, hc4, hc5, hc6, hc7⟩ := Yea BK.out
 go_wp2_with fail
 clear hc0 hc1 hc2 hc3 hc4 hc5 hc6 hc7
 refine (Yma.calls u4 false _ (HE.out.below HB.out) HL3.out).mono ?_
 rintro e w9 ⟨rfl, ⟨nd, rfl⟩⟩
 replace BK := Ya.mk (Yha BK.out nd)
 replace HB := Ya.mk (Yb HB.out nd)
 generalize wl1.drewN nd = wl2 at BK HB ⊢
 obtain ⟨hc0, hc1, hc2, hc3, hc4, hc5, hc6, hc7⟩ := Yea BK.out
 go_wp2_with fail
 clear hc0 hc1 hc2 hc3 hc4 hc5 hc6 hc7
 refine (Yma.calls u5 false _ (HE.out.below HB.out) HL4.out).mono ?_
 rintro e w9 ⟨rfl, ⟨nd, rfl⟩⟩
 replace BK := Ya.mk (Yha BK.out nd)
 replace HB := Ya.mk (Yb HB.out nd)
 generalize wl2.drewN nd = wl3 at BK HB ⊢
 obtain ⟨hc0, hc1, hc2, hc3, hc4, hc5, hc6, hc7⟩ := Yea BK.out
 go_wp2_with fail
 clear hc0 hc1 hc2 hc3 hc4 hc5 hc6 hc7
 refine (Yma.calls u6 false _ (HE.out.below HB.out) HL5.out).mono ?_
 rintro e w9 ⟨rfl, ⟨nd, rfl⟩⟩
 replace BK := Ya.mk (Yha BK.out nd)
 replace HB := Ya.mk (Yb HB.out nd)
 generalize wl3.drewN nd = wl4 at BK HB ⊢
 obtain ⟨hc0, hc1, hc2, hc3, hc4, hc5, hc6, hc7⟩ := Yea BK.out
 go_wp2_with fail
 clear hc0 hc1 hc2 hc3 hc4 hc5 hc6 hc7
 refine (Yja.calls kS _ _ _ _ _ _ _ _ _ _ (HE.out.below HB.out) HS.out).mono ?_
 rintro e w6 ⟨rfl, hb⟩
 replace BK := Ya.mk (Yhb BK.out hb)
 replace HB := Ya.mk (HB.out.trans (hb.mono HB.out.size))
 clear hb
 go_wp2_with fail
 refine (Ygn s _ _ _ _ _ _ _ _ _ _ (HE.out.below HB.out) HSZ.out HP.out).mono ?_
 rintro e w7 ⟨rfl, hb⟩
 replace BK := Ya.mk (Yhb BK.out hb)
 replace HB := Ya.mk (HB.out.trans (hb.mono HB.out.size))
 clear hb
 have HG1 := Ya.mk (show w.heap.size < w7.heap.size from (Array.getElem?_eq_some_iff.1 BK.out).1)
 have HZ := Ya.mk (heap_alloc_new w7 (.cells urlZ 25))
 have HBZ := Ya.mk (HB.out.alloc HB.out.size (.cells urlZ 25))
 have BKa := Ya.mk (Ygb BK.out (.cells urlZ 25))
 go_wp2_with (first | ((with_reducible refine Ysb (t := 25) (p := 4) rfl ?_); refine wpList_store_row rfl 25 (.tmp 4) (.tmp 37) rfl w7.heap.size (uc v1 v2 v3 v4 v5 v6 v7 v8) rfl rfl 25 _ HZ.out hi25 rfl (Ycc _ _ _ _ _ _ _ _) ?_; have BV := Ya.mk (setRow_heap _ _ _ (uc v1 v2 v3 v4 v5 v6 v7 v8) _ _ HZ.out); have BK8 := Ya.mk ((setRow_other (w7.alloc (.cells urlZ 25)) w7.heap.size w.heap.size (uc v1 v2 v3 v4 v5 v6 v7 v8) (Nat.ne_of_lt HG1.out)).trans BKa.out); have HB8 := Ya.mk (below_setRow HBZ.out (Nat.le_of_lt HG1.out) (uc v1 v2 v3 v4 v5 v6 v7 v8)); generalize (w7.alloc (.cells urlZ 25)).setRow w7.heap.size (uc v1 v2 v3 v4 v5 v6 v7 v8) = w8 at BV BK8 HB8 ⊢; obtain ⟨hc0, hc1, hc2, hc3, hc4, hc5, hc6, hc7⟩ := Yea BK8.out; have HG4 := Ya.mk (show w7.heap.size < w8.heap.size from (Array.getElem?_eq_some_iff.1 BV.out).1); have HZ6 := Ya.mk (heap_alloc_new w8 (.cells urlZ 25)); have HBZ6 := Ya.mk (HB8.out.alloc HB8.out.size (.cells urlZ 25)); have BKb := Ya.mk (Ygb BK8.out (.cells urlZ 25)); have BVb := Ya.mk (Ygb BV.out (.cells urlZ 25))) | ((with_reducible refine Ysb (t := 25) (p := 6) rfl ?_); clear hc0 hc1 hc2 hc3 hc4 hc5 hc6 hc7; refine wpList_store_row rfl 25 (.tmp 6) (.tmp 39) rfl w8.heap.size (uc u1 u2 u3 u4 u5 u6 u7 u8) rfl rfl 25 _ HZ6.out hi25 rfl (Ycc _ _ _ _ _ _ _ _) ?_; have BB9 := Ya.mk (setRow_heap _ _ _ (uc u1 u2 u3 u4 u5 u6 u7 u8) _ _ HZ6.out); have BK9 := Ya.mk ((setRow_other (w8.alloc (.cells urlZ 25)) w8.heap.size w.heap.size (uc u1 u2 u3 u4 u5 u6 u7 u8) (Nat.ne_of_lt (Nat.lt_trans HG1.out HG4.out))).trans BKb.out); have BV9 := Ya.mk ((setRow_other (w8.alloc (.cells urlZ 25)) w8.heap.size w7.heap.size (uc u1 u2 u3 u4 u5 u6 u7 u8) (Nat.ne_of_lt HG4.out)).trans BVb.out); have HB9 := Ya.mk (below_setRow HBZ6.out (Nat.le_of_lt (Nat.lt_trans HG1.out HG4.out)) (uc u1 u2 u3 u4 u5 u6 u7 u8)); generalize (w8.alloc (.cells urlZ 25)).setRow w8.heap.size (uc u1 u2 u3 u4 u5 u6 u7 u8) = w9 at BB9 BK9 BV9 HB9 ⊢; obtain ⟨_, _, _, _, _, _, _, hx7⟩ := Yea BB9.out; have hf7 := Ye BB9.out 7; have BBx := Ya.mk (Yyb (cs' := uc u1 u2 u3 u4 u5 u6 u7 false) BB9.out 7 (.bool false) rfl); obtain ⟨_, _, _, _, _, hx5, _⟩ := Yea BBx.out; have hf5 := Ye BBx.out 5; have BB := Ya.mk (Yyb (cs' := (uc u1 u2 u3 u4 u5 (⟨#[]⟩ : ByteArray) u7 false)) BBx.out 5 (.string (⟨#[]⟩ : ByteArray)) rfl); have BK := Ya.mk (Ybc (p := ⟨w8.heap.size, 5, none⟩) (Ybc (p := ⟨w8.heap.size, 7, none⟩) BK9.out (Nat.ne_of_lt (Nat.lt_trans HG1.out HG4.out)) (.bool false)) (Nat.ne_of_lt (Nat.lt_trans HG1.out HG4.out)) (.string (⟨#[]⟩ : ByteArray))); have BV := Ya.mk (Ybc (p := ⟨w8.heap.size, 5, none⟩) (Ybc (p := ⟨w8.heap.size, 7, none⟩) BV9.out (Nat.ne_of_lt HG4.out) (.bool false)) (Nat.ne_of_lt HG4.out) (.string (⟨#[]⟩ : ByteArray))); have HB := Ya.mk (Yg (j := 5) (v := .string (⟨#[]⟩ : ByteArray)) (Yg (j := 7) (v := .bool false) HB9.out (Nat.le_of_lt (Nat.lt_trans HG1.out HG4.out))) (Nat.le_of_lt (Nat.lt_trans HG1.out HG4.out))); obtain ⟨hc0, hc1, hc2, _⟩ := Yea BK.out))
 clear hc0 hc1 hc2 hx7 hf7 hx5 hf5 BB9 BK9 BV9 HB9 BBx HZ6 HBZ6 BKb BVb HZ HBZ BKa
 refine (Yja.calls kO _ _ _ _ _ _ _ _ _ _ (HE.out.below HB.out) HO2.out).mono ?_
 rintro e wa ⟨rfl, hb⟩
 replace BK := Ya.mk (Yhb BK.out hb)
 replace BV := Ya.mk (Yhb BV.out hb)
 replace BB := Ya.mk (Yhb BB.out hb)
 replace HB := Ya.mk (HB.out.trans (hb.mono HB.out.size))
 clear hb
 try go_wp2_with fail
 obtain ⟨wc, hwc⟩ : ∃ W, W = wa := ⟨_, rfl⟩
 rw [← hwc] at BK BV BB HB ⊢
 clear hwc
 by_cases h0 : v9 = 0
 ·subst h0
  rw [if_pos rfl] at hM
  have HM := Ya.mk hM
  clear hM
  refine Yrg (n := 32) (S := fun w' => (w'.cell? ⟨w.heap.size, 0, none⟩ = some (.string u1) ∧ w'.cell? ⟨w.heap.size, 1, none⟩ = some (.string u2) ∧ w'.cell? ⟨w.heap.size, 2, none⟩ = some (.int .i64 u3) ∧ w'.cell? ⟨w.heap.size, 3, none⟩ = some (.string u4) ∧ w'.cell? ⟨w.heap.size, 4, none⟩ = some (.string u5) ∧ w'.cell? ⟨w.heap.size, 5, none⟩ = some (.string u6) ∧ w'.cell? ⟨w.heap.size, 6, none⟩ = some (.bool u7) ∧ w'.cell? ⟨w.heap.size, 7, none⟩ = some (.bool u8)) ∧ (w'.cell? ⟨w7.heap.size, 0, none⟩ = some (.string v1) ∧ w'.cell? ⟨w7.heap.size, 1, none⟩ = some (.string v2) ∧ w'.cell? ⟨w7.heap.size, 2, none⟩ = some (.int .i64 v3) ∧ w'.cell? ⟨w7.heap.size, 3, none⟩ = some (.string v4) ∧ w'.cell? ⟨w7.heap.size, 4, none⟩ = some (.string v5) ∧ w'.cell? ⟨w7.heap.size, 5, none⟩ = some (.string v6) ∧ w'.cell? ⟨w7.heap.size, 6, none⟩ = some (.bool v7) ∧ w'.cell? ⟨w7.heap.size, 7, none⟩ = some (.bool v8)) ∧ (w'.cell? ⟨w8.heap.size, 0, none⟩ = some (.string u1) ∧ w'.cell? ⟨w8.heap.size, 1, none⟩ = some (.string u2) ∧ w'.cell? ⟨w8.heap.size, 2, none⟩ = some (.int .i64 u3) ∧ w'.cell? ⟨w8.heap.size, 3, none⟩ = some (.string u4) ∧ w'.cell? ⟨w8.heap.size, 4, none⟩ = some (.string u5) ∧ w'.cell? ⟨w8.heap.size, 5, none⟩ = some (.string (⟨#[]⟩ : ByteArray)) ∧ w'.cell? ⟨w8.heap.size, 6, none⟩ = some (.bool u7) ∧ w'.cell? ⟨w8.heap.size, 7, none⟩ = some (.bool false))) (ds := []) #[false, false, false, false, false, false, false, false, false, false, false, false, false, false, false, false, false, false, false, false, false, false, false, false, false, false, false, false, false, false, false, false] (by kernel_rfl) rfl rfl ⟨Yea (Ywa BK.out), Yea (Ywa BV.out), Yea (Ywa BB.out)⟩ (fun hHeld => ?_); refine Yjg Ycj Yki (fun HT_ HW_ => ?_)
  replace BK := Ya.mk (Ywa BK.out)
  replace BV := Ya.mk (Ywa BV.out)
  replace BB := Ya.mk (Ywa BB.out)
  replace HB := Ya.mk (Yc HB.out)
  generalize wc.drew = wd at BK BV BB HB hHeld ⊢
  refine Yxa (i := 2) (N := some 52) (v := ?_) (a' := ?_) #[false, false, true, false, false, false, false, false, false, false, false, false, false, false, false, false, false, false, false, false, false, false, false, false, false, false, false, false, false, false, false, false] rfl rfl (Yoa HT_.out (by kernel_rfl)) (fun _ _ _ h => h) (Or.inl ⟨by rfl, ?_⟩) ?_ ?_
  rotate_left
  ·intro w'
   go_simp
   with_reducible rfl
  rotate_left
  ·simp only [Act.put, List.setIfInBounds_toArray, List.set_cons_zero, List.set_cons_succ, Yaa, Yba]
   rfl
  refine Yoe (i := 0) (N := some 50) (v := ?_) (a' := ?_) #[true, false, true, false, false, false, false, false, false, false, false, false, false, false, false, false, false, false, false, false, false, false, false, false, false, false, false, false, false, false, false, false] rfl rfl (Yed HT_.out HW_.out (by kernel_rfl)) (fun _ _ _ h => h) (Or.inl ⟨by rfl, ?_⟩) hHeld ?_ ?_
  rotate_left
  ·rintro w' ⟨⟨s0, s1, s2, s3, s4, s5, s6, s7⟩, ⟨q0, q1, q2, q3, q4, q5, q6, q7⟩, ⟨p0, p1, p2, p3, p4, p5, p6, p7⟩⟩
   go_simp
   with_reducible rfl
  rotate_left
  ·simp only [Act.put, List.setIfInBounds_toArray, List.set_cons_zero, List.set_cons_succ, Yaa, Yba]
   rfl
  refine one_ (i := 1) (N := some 51) #[true, true, true, false, false, false, false, false, false, false, false, false, false, false, false, false, false, false, false, false, false, false, false, false, false, false, false, false, false, false, false, false] rfl rfl (Yqe HT_.out (by kernel_rfl)) (by decide) (fun K hK => ?_)
  refine Ygg Tryz.func26 (by kernel_rfl) rfl #[.agg #[.string u1, .string u2, .int .i64 u3, .string u4, .string u5, .string u6, .bool u7, .bool u8]] (by rfl) rfl rfl (by (try simp only [List.map_toArray, List.map_cons, List.map_nil]); first | done | rfl) ?_
  refine (Ync.calls kU _ _ _ _ _ _ _ _ _ _ (HE.out.below HB.out) HU.out).mono ?_
  rintro e we ⟨rfl, hb⟩
  refine ⟨_, rfl, ?_⟩
  replace BK := Ya.mk (Yhb BK.out hb)
  replace BV := Ya.mk (Yhb BV.out hb)
  replace BB := Ya.mk (Yhb BB.out hb)
  replace HB := Ya.mk (HB.out.trans (hb.mono HB.out.size))
  clear hb
  refine hK.out _ _ ⟨Yea BK.out, Yea BV.out, Yea BB.out⟩ (fun hHeld => ?_)
  clear hK K
  refine Yyf (a' := ?_) ?_ ?_
  rotate_left
  ·show Act.put _ (some 51) _ = _
   simp only [Act.put, List.setIfInBounds_toArray, List.set_cons_zero, List.set_cons_succ, Yaa, Yba]
   rfl
  refine Yxa (i := 3) (N := some 53) (v := ?_) (a' := ?_) #[true, true, true, true, false, false, false, false, false, false, false, false, false, false, false, false, false, false, false, false, false, false, false, false, false, false, false, false, false, false, false, false] rfl rfl (Yoa HT_.out (by kernel_rfl)) (fun _ _ _ h => h) (Or.inl ⟨by rfl, ?_⟩) ?_ ?_
  rotate_left
  ·intro w'
   go_simp
   with_reducible rfl
  rotate_left
  ·simp only [Act.put, List.setIfInBounds_toArray, List.set_cons_zero, List.set_cons_succ, Yaa, Yba]
   rfl
  refine Yxa (i := 4) (N := some 54) (v := ?_) (a' := ?_) #[true, true, true, true, true, false, false, false, false, false, false, false, false, false, false, false, false, false, false, false, false, false, false, false, false, false, false, false, false, false, false, false] rfl rfl (Yoa HT_.out (by kernel_rfl)) (fun _ _ _ h => h) (Or.inl ⟨by rfl, ?_⟩) ?_ ?_
  rotate_left
  ·intro w'
   go_simp
   with_reducible rfl
  rotate_left
  ·simp only [Act.put, List.setIfInBounds_toArray, List.set_cons_zero, List.set_cons_succ, Yaa, Yba]
   rfl
  refine Yxa (i := 7) (N := some 57) (v := ?_) (a' := ?_) #[true, true, true, true, true, false, false, true, false, false, false, false, false, false, false, false, false, false, false, false, false, false, false, false, false, false, false, false, false, false, false, false] rfl rfl (Yoa HT_.out (by kernel_rfl)) (fun _ _ _ h => h) (Or.inl ⟨by rfl, ?_⟩) ?_ ?_
  rotate_left
  ·intro w'
   go_simp
   with_reducible rfl
  rotate_left
  ·simp only [Act.put, List.setIfInBounds_toArray, List.set_cons_zero, List.set_cons_succ, Yaa, Yba]
   rfl
  refine Yxa (i := 8) (N := some 58) (v := ?_) (a' := ?_) #[true, true, true, true, true, false, false, true, true, false, false, false, false, false, false, false, false, false, false, false, false, false, false, false, false, false, false, false, false, false, false, false] rfl rfl (Yoa HT_.out (by kernel_rfl)) (fun _ _ _ h => h) (Or.inl ⟨by rfl, ?_⟩) ?_ ?_
  rotate_left
  ·intro w'
   go_simp
   with_reducible rfl
  rotate_left
  ·simp only [Act.put, List.setIfInBounds_toArray, List.set_cons_zero, List.set_cons_succ, Yaa, Yba]
   rfl
  refine Yoe (i := 5) (N := some 55) (v := ?_) (a' := ?_) #[true, true, true, true, true, true, false, true, true, false, false, false, false, false, false, false, false, false, false, false, false, false, false, false, false, false, false, false, false, false, false, false] rfl rfl (Yed HT_.out HW_.out (by kernel_rfl)) (fun _ _ _ h => h) (Or.inl ⟨by rfl, ?_⟩) hHeld ?_ ?_
  rotate_left
  ·rintro w' ⟨⟨s0, s1, s2, s3, s4, s5, s6, s7⟩, ⟨q0, q1, q2, q3, q4, q5, q6, q7⟩, ⟨p0, p1, p2, p3, p4, p5, p6, p7⟩⟩
   go_simp
   with_reducible rfl
  rotate_left
  ·simp only [Act.put, List.setIfInBounds_toArray, List.set_cons_zero, List.set_cons_succ, Yaa, Yba]
   rfl
  refine one_ (i := 6) (N := some 56) #[true, true, true, true, true, true, true, true, true, false, false, false, false, false, false, false, false, false, false, false, false, false, false, false, false, false, false, false, false, false, false, false] rfl rfl (Yqe HT_.out (by kernel_rfl)) (by decide) (fun K hK => ?_)
  refine Ygg Tryz.func27 (by kernel_rfl) rfl #[.agg #[.string u1, .string u2, .int .i64 u3, .string u4, .string u5, .string u6, .bool u7, .bool u8]] (by rfl) rfl rfl (by (try simp only [List.map_toArray, List.map_cons, List.map_nil]); first | done | rfl) ?_
  refine (Yth.calls kM _ _ _ _ _ _ _ _ _ _ (HE.out.below HB.out) HM.out).mono ?_
  rintro e we ⟨rfl, hb⟩
  refine ⟨_, rfl, ?_⟩
  replace BK := Ya.mk (Yhb BK.out hb)
  replace BV := Ya.mk (Yhb BV.out hb)
  replace BB := Ya.mk (Yhb BB.out hb)
  replace HB := Ya.mk (HB.out.trans (hb.mono HB.out.size))
  clear hb
  refine hK.out _ _ ⟨Yea BK.out, Yea BV.out, Yea BB.out⟩ (fun hHeld => ?_)
  clear hK K
  refine Yyf (a' := ?_) ?_ ?_
  rotate_left
  ·show Act.put _ (some 56) _ = _
   simp only [Act.put, List.setIfInBounds_toArray, List.set_cons_zero, List.set_cons_succ, Yaa, Yba]
   rfl
  refine Yxa (i := 9) (N := some 59) (v := ?_) (a' := ?_) #[true, true, true, true, true, true, true, true, true, true, false, false, false, false, false, false, false, false, false, false, false, false, false, false, false, false, false, false, false, false, false, false] rfl rfl (Yoa HT_.out (by kernel_rfl)) (fun _ _ _ h => h) (Or.inl ⟨by rfl, ?_⟩) ?_ ?_
  rotate_left
  ·intro w'
   go_simp
   with_reducible rfl
  rotate_left
  ·simp only [Act.put, List.setIfInBounds_toArray, List.set_cons_zero, List.set_cons_succ, Yaa, Yba]
   rfl
  refine Yoe (i := 10) (N := some 60) (v := ?_) (a' := ?_) #[true, true, true, true, true, true, true, true, true, true, true, false, false, false, false, false, false, false, false, false, false, false, false, false, false, false, false, false, false, false, false, false] rfl rfl (Yed HT_.out HW_.out (by kernel_rfl)) (fun _ _ _ h => h) (Or.inl ⟨by rfl, ?_⟩) hHeld ?_ ?_
  rotate_left
  ·rintro w' ⟨⟨s0, s1, s2, s3, s4, s5, s6, s7⟩, ⟨q0, q1, q2, q3, q4, q5, q6, q7⟩, ⟨p0, p1, p2, p3, p4, p5, p6, p7⟩⟩
   go_simp
   with_reducible rfl
  rotate_left
  ·simp only [Act.put, List.setIfInBounds_toArray, List.set_cons_zero, List.set_cons_succ, Yaa, Yba]
   rfl
  refine Yoe (i := 11) (N := some 61) (v := ?_) (a' := ?_) #[true, true, true, true, true, true, true, true, true, true, true, true, false, false, false, false, false, false, false, false, false, false, false, false, false, false, false, false, false, false, false, false] rfl rfl (Yed HT_.out HW_.out (by kernel_rfl)) (fun _ _ _ h => h) (Or.inl ⟨by rfl, ?_⟩) hHeld ?_ ?_
  rotate_left
  ·rintro w' ⟨⟨s0, s1, s2, s3, s4, s5, s6, s7⟩, ⟨q0, q1, q2, q3, q4, q5, q6, q7⟩, ⟨p0, p1, p2, p3, p4, p5, p6, p7⟩⟩
   go_simp
   with_reducible rfl
  rotate_left
  ·simp only [Act.put, List.setIfInBounds_toArray, List.set_cons_zero, List.set_cons_succ, Yaa, Yba]
   rfl
  refine Yxa (i := 12) (N := some 62) (v := ?_) (a' := ?_) #[true, true, true, true, true, true, true, true, true, true, true, true, true, false, false, false, false, false, false, false, false, false, false, false, false, false, false, false, false, false, false, false] rfl rfl (Yoa HT_.out (by kernel_rfl)) (fun _ _ _ h => h) (Or.inl ⟨by rfl, ?_⟩) ?_ ?_
  rotate_left
  ·intro w'
   go_simp
   with_reducible rfl
  rotate_left
  ·simp only [Act.put, List.setIfInBounds_toArray, List.set_cons_zero, List.set_cons_succ, Yaa, Yba]
   rfl
  refine Yxa (i := 13) (N := some 63) (v := ?_) (a' := ?_) #[true, true, true, true, true, true, true, true, true, true, true, true, true, true, false, false, false, false, false, false, false, false, false, false, false, false, false, false, false, false, false, false] rfl rfl (Yoa HT_.out (by kernel_rfl)) (fun _ _ _ h => h) (Or.inl ⟨by rfl, ?_⟩) ?_ ?_
  rotate_left
  ·intro w'
   go_simp
   with_reducible rfl
  rotate_left
  ·simp only [Act.put, List.setIfInBounds_toArray, List.set_cons_zero, List.set_cons_succ, Yaa, Yba]
   rfl
  refine Yxa (i := 14) (N := some 64) (v := ?_) (a' := ?_) #[true, true, true, true, true, true, true, true, true, true, true, true, true, true, true, false, false, false, false, false, false, false, false, false, false, false, false, false, false, false, false, false] rfl rfl (Yoa HT_.out (by kernel_rfl)) (fun _ _ _ h => h) (Or.inl ⟨by rfl, ?_⟩) ?_ ?_
  rotate_left
  ·intro w'
   go_simp
   with_reducible rfl
  rotate_left
  ·simp only [Act.put, List.setIfInBounds_toArray, List.set_cons_zero, List.set_cons_succ, Yaa, Yba]
   rfl
  refine Yxa (i := 15) (N := some 65) (v := ?_) (a' := ?_) #[true, true, true, true, true, true, true, true, true, true, true, true, true, true, true, true, false, false, false, false, false, false, false, false, false, false, false, false, false, false, false, false] rfl rfl (Yoa HT_.out (by kernel_rfl)) (fun _ _ _ h => h) (Or.inl ⟨by rfl, ?_⟩) ?_ ?_
  rotate_left
  ·intro w'
   go_simp
   with_reducible rfl
  rotate_left
  ·simp only [Act.put, List.setIfInBounds_toArray, List.set_cons_zero, List.set_cons_succ, Yaa, Yba]
   rfl
  refine Yxa (i := 16) (N := some 66) (v := ?_) (a' := ?_) #[true, true, true, true, true, true, true, true, true, true, true, true, true, true, true, true, true, false, false, false, false, false, false, false, false, false, false, false, false, false, false, false] rfl rfl (Yoa HT_.out (by kernel_rfl)) (fun _ _ _ h => h) (Or.inl ⟨by rfl, ?_⟩) ?_ ?_
  rotate_left
  ·intro w'
   go_simp
   with_reducible rfl
  rotate_left
  ·simp only [Act.put, List.setIfInBounds_toArray, List.set_cons_zero, List.set_cons_succ, Yaa, Yba]
   rfl
  refine Yoe (i := 17) (N := some 67) (v := ?_) (a' := ?_) #[true, true, true, true, true, true, true, true, true, true, true, true, true, true, true, true, true, true, false, false, false, false, false, false, false, false, false, false, false, false, false, false] rfl rfl (Yed HT_.out HW_.out (by kernel_rfl)) (fun _ _ _ h => h) (Or.inl ⟨by rfl, ?_⟩) hHeld ?_ ?_
  rotate_left
  ·rintro w' ⟨⟨s0, s1, s2, s3, s4, s5, s6, s7⟩, ⟨q0, q1, q2, q3, q4, q5, q6, q7⟩, ⟨p0, p1, p2, p3, p4, p5, p6, p7⟩⟩
   go_simp
   with_reducible rfl
  rotate_left
  ·simp only [Act.put, List.setIfInBounds_toArray, List.set_cons_zero, List.set_cons_succ, Yaa, Yba]
   rfl
  refine Yoe (i := 19) (N := some 69) (v := ?_) (a' := ?_) #[true, true, true, true, true, true, true, true, true, true, true, true, true, true, true, true, true, true, false, true, false, false, false, false, false, false, false, false, false, false, false, false] rfl rfl (Yed HT_.out HW_.out (by kernel_rfl)) (fun _ _ _ h => h) (Or.inl ⟨by rfl, ?_⟩) hHeld ?_ ?_
  rotate_left
  ·rintro w' ⟨⟨s0, s1, s2, s3, s4, s5, s6, s7⟩, ⟨q0, q1, q2, q3, q4, q5, q6, q7⟩, ⟨p0, p1, p2, p3, p4, p5, p6, p7⟩⟩
   go_simp
   with_reducible rfl
  rotate_left
  ·simp only [Act.put, List.setIfInBounds_toArray, List.set_cons_zero, List.set_cons_succ, Yaa, Yba]
   rfl
  refine one_ (i := 18) (N := some 68) #[true, true, true, true, true, true, true, true, true, true, true, true, true, true, true, true, true, true, true, true, false, false, false, false, false, false, false, false, false, false, false, false] rfl rfl (Yqe HT_.out (by kernel_rfl)) (by decide) (fun K hK => ?_)
  refine Ygg Tryz.func28 (by kernel_rfl) rfl #[.agg #[.string u1, .string u2, .int .i64 u3, .string u4, .string u5, .string u6, .bool u7, .bool u8]] (by rfl) rfl rfl (by (try simp only [List.map_toArray, List.map_cons, List.map_nil]); first | done | rfl) ?_
  refine (Yyj.calls u1 u2 u3 u4 u5 u6 u7 u8 u1 u2 u3 u4 u5 (⟨#[]⟩ : ByteArray) u7 false _ (HE.out.below HB.out) rfl).mono ?_
  rintro e we ⟨rfl, hb⟩
  refine ⟨_, rfl, ?_⟩
  replace BK := Ya.mk (Yhb BK.out hb)
  replace BV := Ya.mk (Yhb BV.out hb)
  replace BB := Ya.mk (Yhb BB.out hb)
  replace HB := Ya.mk (HB.out.trans (hb.mono HB.out.size))
  clear hb
  refine hK.out _ _ ⟨Yea BK.out, Yea BV.out, Yea BB.out⟩ (fun hHeld => ?_)
  clear hK K
  refine Yyf (a' := ?_) ?_ ?_
  rotate_left
  ·show Act.put _ (some 68) _ = _
   simp only [Act.put, List.setIfInBounds_toArray, List.set_cons_zero, List.set_cons_succ, Yaa, Yba]
   rfl
  refine Yxa (i := 20) (N := some 70) (v := ?_) (a' := ?_) #[true, true, true, true, true, true, true, true, true, true, true, true, true, true, true, true, true, true, true, true, true, false, false, false, false, false, false, false, false, false, false, false] rfl rfl (Yoa HT_.out (by kernel_rfl)) (fun _ _ _ h => h) (Or.inl ⟨by rfl, ?_⟩) ?_ ?_
  rotate_left
  ·intro w'
   go_simp
   with_reducible rfl
  rotate_left
  ·simp only [Act.put, List.setIfInBounds_toArray, List.set_cons_zero, List.set_cons_succ, Yaa, Yba]
   rfl
  refine Yxa (i := 21) (N := some 71) (v := ?_) (a' := ?_) #[true, true, true, true, true, true, true, true, true, true, true, true, true, true, true, true, true, true, true, true, true, true, false, false, false, false, false, false, false, false, false, false] rfl rfl (Yoa HT_.out (by kernel_rfl)) (fun _ _ _ h => h) (Or.inl ⟨by rfl, ?_⟩) ?_ ?_
  rotate_left
  ·intro w'
   go_simp
   with_reducible rfl
  rotate_left
  ·simp only [Act.put, List.setIfInBounds_toArray, List.set_cons_zero, List.set_cons_succ, Yaa, Yba]
   rfl
  refine Yxa (i := 22) (N := some 72) (v := ?_) (a' := ?_) #[true, true, true, true, true, true, true, true, true, true, true, true, true, true, true, true, true, true, true, true, true, true, true, false, false, false, false, false, false, false, false, false] rfl rfl (Yoa HT_.out (by kernel_rfl)) (fun _ _ _ h => h) (Or.inl ⟨by rfl, ?_⟩) ?_ ?_
  rotate_left
  ·intro w'
   go_simp
   with_reducible rfl
  rotate_left
  ·simp only [Act.put, List.setIfInBounds_toArray, List.set_cons_zero, List.set_cons_succ, Yaa, Yba]
   rfl
  refine Yxa (i := 25) (N := some 75) (v := ?_) (a' := ?_) #[true, true, true, true, true, true, true, true, true, true, true, true, true, true, true, true, true, true, true, true, true, true, true, false, false, true, false, false, false, false, false, false] rfl rfl (Yoa HT_.out (by kernel_rfl)) (fun _ _ _ h => h) (Or.inl ⟨by rfl, ?_⟩) ?_ ?_
  rotate_left
  ·intro w'
   go_simp
   with_reducible rfl
  rotate_left
  ·simp only [Act.put, List.setIfInBounds_toArray, List.set_cons_zero, List.set_cons_succ, Yaa, Yba]
   rfl
  refine Yoe (i := 23) (N := some 73) (v := ?_) (a' := ?_) #[true, true, true, true, true, true, true, true, true, true, true, true, true, true, true, true, true, true, true, true, true, true, true, true, false, true, false, false, false, false, false, false] rfl rfl (Yed HT_.out HW_.out (by kernel_rfl)) (fun _ _ _ h => h) (Or.inl ⟨by rfl, ?_⟩) hHeld ?_ ?_
  rotate_left
  ·rintro w' ⟨⟨s0, s1, s2, s3, s4, s5, s6, s7⟩, ⟨q0, q1, q2, q3, q4, q5, q6, q7⟩, ⟨p0, p1, p2, p3, p4, p5, p6, p7⟩⟩
   go_simp
   with_reducible rfl
  rotate_left
  ·simp only [Act.put, List.setIfInBounds_toArray, List.set_cons_zero, List.set_cons_succ, Yaa, Yba]
   rfl
  refine one_ (i := 24) (N := some 74) #[true, true, true, true, true, true, true, true, true, true, true, true, true, true, true, true, true, true, true, true, true, true, true, true, true, true, false, false, false, false, false, false] rfl rfl (Yqe HT_.out (by kernel_rfl)) (by decide) (fun K hK => ?_)
  refine Ygg Tryz.func29 (by kernel_rfl) rfl #[.agg #[.string u1, .string u2, .int .i64 u3, .string u4, .string u5, .string u6, .bool u7, .bool u8]] (by rfl) rfl rfl (by (try simp only [List.map_toArray, List.map_cons, List.map_nil]); first | done | rfl) ?_
  refine (Ybd.calls kR _ _ _ _ _ _ _ _ _ _ (HE.out.below HB.out) HO.out).mono ?_
  rintro e we ⟨rfl, hb⟩
  refine ⟨_, rfl, ?_⟩
  replace BK := Ya.mk (Yhb BK.out hb)
  replace BV := Ya.mk (Yhb BV.out hb)
  replace BB := Ya.mk (Yhb BB.out hb)
  replace HB := Ya.mk (HB.out.trans (hb.mono HB.out.size))
  clear hb
  refine hK.out _ _ ⟨Yea BK.out, Yea BV.out, Yea BB.out⟩ (fun hHeld => ?_)
  clear hK K
  refine Yyf (a' := ?_) ?_ ?_
  rotate_left
  ·show Act.put _ (some 74) _ = _
   simp only [Act.put, List.setIfInBounds_toArray, List.set_cons_zero, List.set_cons_succ, Yaa, Yba]
   rfl
  refine Yxa (i := 26) (N := some 76) (v := ?_) (a' := ?_) #[true, true, true, true, true, true, true, true, true, true, true, true, true, true, true, true, true, true, true, true, true, true, true, true, true, true, true, false, false, false, false, false] rfl rfl (Yoa HT_.out (by kernel_rfl)) (fun _ _ _ h => h) (Or.inl ⟨by rfl, ?_⟩) ?_ ?_
  rotate_left
  ·intro w'
   go_simp
   with_reducible rfl
  rotate_left
  ·simp only [Act.put, List.setIfInBounds_toArray, List.set_cons_zero, List.set_cons_succ, Yaa, Yba]
   rfl
  refine Yxa (i := 27) (N := some 77) (v := ?_) (a' := ?_) #[true, true, true, true, true, true, true, true, true, true, true, true, true, true, true, true, true, true, true, true, true, true, true, true, true, true, true, true, false, false, false, false] rfl rfl (Yoa HT_.out (by kernel_rfl)) (fun _ _ _ h => h) (Or.inl ⟨by rfl, ?_⟩) ?_ ?_
  rotate_left
  ·intro w'
   go_simp
   with_reducible rfl
  rotate_left
  ·simp only [Act.put, List.setIfInBounds_toArray, List.set_cons_zero, List.set_cons_succ, Yaa, Yba]
   rfl
  refine Yxa (i := 28) (N := some 78) (v := ?_) (a' := ?_) #[true, true, true, true, true, true, true, true, true, true, true, true, true, true, true, true, true, true, true, true, true, true, true, true, true, true, true, true, true, false, false, false] rfl rfl (Yoa HT_.out (by kernel_rfl)) (fun _ _ _ h => h) (Or.inl ⟨by rfl, ?_⟩) ?_ ?_
  rotate_left
  ·intro w'
   go_simp
   with_reducible rfl
  rotate_left
  ·simp only [Act.put, List.setIfInBounds_toArray, List.set_cons_zero, List.set_cons_succ, Yaa, Yba]
   rfl
  refine one_ (i := 29) (N := some 79) #[true, true, true, true, true, true, true, true, true, true, true, true, true, true, true, true, true, true, true, true, true, true, true, true, true, true, true, true, true, true, false, false] rfl rfl (Yqe HT_.out (by kernel_rfl)) (by decide) (fun K hK => ?_)
  refine Ygg Tryz.func14 (by kernel_rfl) rfl #[] (by rfl) rfl rfl (by (try simp only [List.map_toArray, List.map_cons, List.map_nil]); first | done | rfl) ?_
  refine (Yff k _ (HE.out.below HB.out) HA.out).mono ?_
  rintro e we ⟨rfl, hb⟩
  refine ⟨_, rfl, ?_⟩
  replace BK := Ya.mk (Yhb BK.out hb)
  replace BV := Ya.mk (Yhb BV.out hb)
  replace BB := Ya.mk (Yhb BB.out hb)
  replace HB := Ya.mk (HB.out.trans (hb.mono HB.out.size))
  clear hb
  refine hK.out _ _ ⟨Yea BK.out, Yea BV.out, Yea BB.out⟩ (fun hHeld => ?_)
  clear hK K
  refine Yyf (a' := ?_) ?_ ?_
  rotate_left
  ·show Act.put _ (some 79) _ = _
   simp only [Act.put, List.setIfInBounds_toArray, List.set_cons_zero, List.set_cons_succ, Yaa, Yba]
   rfl
  refine Yxa (i := 30) (N := some 80) (v := ?_) (a' := ?_) #[true, true, true, true, true, true, true, true, true, true, true, true, true, true, true, true, true, true, true, true, true, true, true, true, true, true, true, true, true, true, true, false] rfl rfl (Yoa HT_.out (by kernel_rfl)) (fun _ _ _ h => h) (Or.inl ⟨by rfl, ?_⟩) ?_ ?_
  rotate_left
  ·intro w'
   go_simp
   with_reducible rfl
  rotate_left
  ·simp only [Act.put, List.setIfInBounds_toArray, List.set_cons_zero, List.set_cons_succ, Yaa, Yba]
   rfl
  refine Yxa (i := 31) (N := some 2) (v := ?_) (a' := ?_) #[true, true, true, true, true, true, true, true, true, true, true, true, true, true, true, true, true, true, true, true, true, true, true, true, true, true, true, true, true, true, true, true] rfl rfl (Yoa HT_.out (by kernel_rfl)) (fun _ _ _ h => h) (Or.inl ⟨by rfl, ?_⟩) ?_ ?_
  rotate_left
  ·intro w'
   go_simp
   with_reducible rfl
  rotate_left
  ·simp only [Act.put, List.setIfInBounds_toArray, List.set_cons_zero, List.set_cons_succ, Yaa, Yba]
   rfl
  refine Yvh (Yqh HT_.out (by kernel_rfl)) ?_
  try go_wp2
  go_ret
  exact ⟨rfl, HB.out⟩
 ·rw [if_neg h0] at hM
  have HM := Ya.mk hM
  have d5 : (v9 == 0) = false := beq_eq_false_iff_ne.2 h0
  have d6 : decide (v9 = 0) = false := decide_eq_false h0
  clear hM h0
  refine Yrg (n := 32) (S := fun w' => (w'.cell? ⟨w.heap.size, 0, none⟩ = some (.string u1) ∧ w'.cell? ⟨w.heap.size, 1, none⟩ = some (.string u2) ∧ w'.cell? ⟨w.heap.size, 2, none⟩ = some (.int .i64 u3) ∧ w'.cell? ⟨w.heap.size, 3, none⟩ = some (.string u4) ∧ w'.cell? ⟨w.heap.size, 4, none⟩ = some (.string u5) ∧ w'.cell? ⟨w.heap.size, 5, none⟩ = some (.string u6) ∧ w'.cell? ⟨w.heap.size, 6, none⟩ = some (.bool u7) ∧ w'.cell? ⟨w.heap.size, 7, none⟩ = some (.bool u8)) ∧ (w'.cell? ⟨w7.heap.size, 0, none⟩ = some (.string v1) ∧ w'.cell? ⟨w7.heap.size, 1, none⟩ = some (.string v2) ∧ w'.cell? ⟨w7.heap.size, 2, none⟩ = some (.int .i64 v3) ∧ w'.cell? ⟨w7.heap.size, 3, none⟩ = some (.string v4) ∧ w'.cell? ⟨w7.heap.size, 4, none⟩ = some (.string v5) ∧ w'.cell? ⟨w7.heap.size, 5, none⟩ = some (.string v6) ∧ w'.cell? ⟨w7.heap.size, 6, none⟩ = some (.bool v7) ∧ w'.cell? ⟨w7.heap.size, 7, none⟩ = some (.bool v8)) ∧ (w'.cell? ⟨w8.heap.size, 0, none⟩ = some (.string u1) ∧ w'.cell? ⟨w8.heap.size, 1, none⟩ = some (.string u2) ∧ w'.cell? ⟨w8.heap.size, 2, none⟩ = some (.int .i64 u3) ∧ w'.cell? ⟨w8.heap.size, 3, none⟩ = some (.string u4) ∧ w'.cell? ⟨w8.heap.size, 4, none⟩ = some (.string u5) ∧ w'.cell? ⟨w8.heap.size, 5, none⟩ = some (.string (⟨#[]⟩ : ByteArray)) ∧ w'.cell? ⟨w8.heap.size, 6, none⟩ = some (.bool u7) ∧ w'.cell? ⟨w8.heap.size, 7, none⟩ = some (.bool false))) (ds := []) #[false, false, false, false, false, false, false, false, false, false, false, false, false, false, false, false, false, false, false, false, false, false, false, false, false, false, false, false, false, false, false, false] (by kernel_rfl) rfl rfl ⟨Yea (Ywa BK.out), Yea (Ywa BV.out), Yea (Ywa BB.out)⟩ (fun hHeld => ?_); refine Yjg Ycj Yki (fun HT_ HW_ => ?_)
  replace BK := Ya.mk (Ywa BK.out)
  replace BV := Ya.mk (Ywa BV.out)
  replace BB := Ya.mk (Ywa BB.out)
  replace HB := Ya.mk (Yc HB.out)
  generalize wc.drew = wd at BK BV BB HB hHeld ⊢
  refine Yxa (i := 2) (N := some 52) (v := ?_) (a' := ?_) #[false, false, true, false, false, false, false, false, false, false, false, false, false, false, false, false, false, false, false, false, false, false, false, false, false, false, false, false, false, false, false, false] rfl rfl (Yoa HT_.out (by kernel_rfl)) (fun _ _ _ h => h) (Or.inl ⟨by rfl, ?_⟩) ?_ ?_
  rotate_left
  ·intro w'
   go_simp
   with_reducible rfl
  rotate_left
  ·simp only [Act.put, List.setIfInBounds_toArray, List.set_cons_zero, List.set_cons_succ, Yaa, Yba]
   rfl
  refine Yoe (i := 0) (N := some 50) (v := ?_) (a' := ?_) #[true, false, true, false, false, false, false, false, false, false, false, false, false, false, false, false, false, false, false, false, false, false, false, false, false, false, false, false, false, false, false, false] rfl rfl (Yed HT_.out HW_.out (by kernel_rfl)) (fun _ _ _ h => h) (Or.inl ⟨by rfl, ?_⟩) hHeld ?_ ?_
  rotate_left
  ·rintro w' ⟨⟨s0, s1, s2, s3, s4, s5, s6, s7⟩, ⟨q0, q1, q2, q3, q4, q5, q6, q7⟩, ⟨p0, p1, p2, p3, p4, p5, p6, p7⟩⟩
   go_simp
   with_reducible rfl
  rotate_left
  ·simp only [Act.put, List.setIfInBounds_toArray, List.set_cons_zero, List.set_cons_succ, Yaa, Yba]
   rfl
  refine one_ (i := 1) (N := some 51) #[true, true, true, false, false, false, false, false, false, false, false, false, false, false, false, false, false, false, false, false, false, false, false, false, false, false, false, false, false, false, false, false] rfl rfl (Yqe HT_.out (by kernel_rfl)) (by decide) (fun K hK => ?_)
  refine Ygg Tryz.func26 (by kernel_rfl) rfl #[.agg #[.string u1, .string u2, .int .i64 u3, .string u4, .string u5, .string u6, .bool u7, .bool u8]] (by rfl) rfl rfl (by (try simp only [List.map_toArray, List.map_cons, List.map_nil]); first | done | rfl) ?_
  refine (Ync.calls kU _ _ _ _ _ _ _ _ _ _ (HE.out.below HB.out) HU.out).mono ?_
  rintro e we ⟨rfl, hb⟩
  refine ⟨_, rfl, ?_⟩
  replace BK := Ya.mk (Yhb BK.out hb)
  replace BV := Ya.mk (Yhb BV.out hb)
  replace BB := Ya.mk (Yhb BB.out hb)
  replace HB := Ya.mk (HB.out.trans (hb.mono HB.out.size))
  clear hb
  refine hK.out _ _ ⟨Yea BK.out, Yea BV.out, Yea BB.out⟩ (fun hHeld => ?_)
  clear hK K
  refine Yyf (a' := ?_) ?_ ?_
  rotate_left
  ·show Act.put _ (some 51) _ = _
   simp only [Act.put, List.setIfInBounds_toArray, List.set_cons_zero, List.set_cons_succ, Yaa, Yba]
   rfl
  refine Yxa (i := 3) (N := some 53) (v := ?_) (a' := ?_) #[true, true, true, true, false, false, false, false, false, false, false, false, false, false, false, false, false, false, false, false, false, false, false, false, false, false, false, false, false, false, false, false] rfl rfl (Yoa HT_.out (by kernel_rfl)) (fun _ _ _ h => h) (Or.inl ⟨by rfl, ?_⟩) ?_ ?_
  rotate_left
  ·intro w'
   go_simp
   with_reducible rfl
  rotate_left
  ·simp only [Act.put, List.setIfInBounds_toArray, List.set_cons_zero, List.set_cons_succ, Yaa, Yba]
   rfl
  refine Yxa (i := 4) (N := some 54) (v := ?_) (a' := ?_) #[true, true, true, true, true, false, false, false, false, false, false, false, false, false, false, false, false, false, false, false, false, false, false, false, false, false, false, false, false, false, false, false] rfl rfl (Yoa HT_.out (by kernel_rfl)) (fun _ _ _ h => h) (Or.inl ⟨by rfl, ?_⟩) ?_ ?_
  rotate_left
  ·intro w'
   go_simp
   with_reducible rfl
  rotate_left
  ·simp only [Act.put, List.setIfInBounds_toArray, List.set_cons_zero, List.set_cons_succ, Yaa, Yba]
   rfl
  refine Yxa (i := 7) (N := some 57) (v := ?_) (a' := ?_) #[true, true, true, true, true, false, false, true, false, false, false, false, false, false, false, false, false, false, false, false, false, false, false, false, false, false, false, false, false, false, false, false] rfl rfl (Yoa HT_.out (by kernel_rfl)) (fun _ _ _ h => h) (Or.inl ⟨by rfl, ?_⟩) ?_ ?_
  rotate_left
  ·intro w'
   go_simp
   with_reducible rfl
  rotate_left
  ·simp only [Act.put, List.setIfInBounds_toArray, List.set_cons_zero, List.set_cons_succ, Yaa, Yba]
   rfl
  refine Yxa (i := 8) (N := some 58) (v := ?_) (a' := ?_) #[true, true, true, true, true, false, false, true, true, false, false, false, false, false, false, false, false, false, false, false, false, false, false, false, false, false, false, false, false, false, false, false] rfl rfl (Yoa HT_.out (by kernel_rfl)) (fun _ _ _ h => h) (Or.inl ⟨by rfl, ?_⟩) ?_ ?_
  rotate_left
  ·intro w'
   go_simp
   with_reducible rfl
  rotate_left
  ·simp only [Act.put, List.setIfInBounds_toArray, List.set_cons_zero, List.set_cons_succ, Yaa, Yba]
   rfl
  refine Yoe (i := 5) (N := some 55) (v := ?_) (a' := ?_) #[true, true, true, true, true, true, false, true, true, false, false, false, false, false, false, false, false, false, false, false, false, false, false, false, false, false, false, false, false, false, false, false] rfl rfl (Yed HT_.out HW_.out (by kernel_rfl)) (fun _ _ _ h => h) (Or.inl ⟨by rfl, ?_⟩) hHeld ?_ ?_
  rotate_left
  ·rintro w' ⟨⟨s0, s1, s2, s3, s4, s5, s6, s7⟩, ⟨q0, q1, q2, q3, q4, q5, q6, q7⟩, ⟨p0, p1, p2, p3, p4, p5, p6, p7⟩⟩
   go_simp
   with_reducible rfl
  rotate_left
  ·simp only [Act.put, List.setIfInBounds_toArray, List.set_cons_zero, List.set_cons_succ, Yaa, Yba]
   rfl
  refine one_ (i := 6) (N := some 56) #[true, true, true, true, true, true, true, true, true, false, false, false, false, false, false, false, false, false, false, false, false, false, false, false, false, false, false, false, false, false, false, false] rfl rfl (Yqe HT_.out (by kernel_rfl)) (by decide) (fun K hK => ?_)
  refine Ygg Tryz.func27 (by kernel_rfl) rfl #[.agg #[.string u1, .string u2, .int .i64 u3, .string u4, .string u5, .string u6, .bool u7, .bool u8]] (by rfl) rfl rfl (by (try simp only [List.map_toArray, List.map_cons, List.map_nil]); first | done | rfl) ?_
  refine (Yth.calls kM _ _ _ _ _ _ _ _ _ _ (HE.out.below HB.out) HM.out).mono ?_
  rintro e we ⟨rfl, hb⟩
  refine ⟨_, rfl, ?_⟩
  replace BK := Ya.mk (Yhb BK.out hb)
  replace BV := Ya.mk (Yhb BV.out hb)
  replace BB := Ya.mk (Yhb BB.out hb)
  replace HB := Ya.mk (HB.out.trans (hb.mono HB.out.size))
  clear hb
  refine hK.out _ _ ⟨Yea BK.out, Yea BV.out, Yea BB.out⟩ (fun hHeld => ?_)
  clear hK K
  refine Yyf (a' := ?_) ?_ ?_
  rotate_left
  ·show Act.put _ (some 56) _ = _
   simp only [Act.put, List.setIfInBounds_toArray, List.set_cons_zero, List.set_cons_succ, Yaa, Yba]
   rfl
  refine Yxa (i := 9) (N := some 59) (v := ?_) (a' := ?_) #[true, true, true, true, true, true, true, true, true, true, false, false, false, false, false, false, false, false, false, false, false, false, false, false, false, false, false, false, false, false, false, false] rfl rfl (Yoa HT_.out (by kernel_rfl)) (fun _ _ _ h => h) (Or.inl ⟨by rfl, ?_⟩) ?_ ?_
  rotate_left
  ·intro w'
   go_simp
   with_reducible rfl
  rotate_left
  ·simp only [Act.put, List.setIfInBounds_toArray, List.set_cons_zero, List.set_cons_succ, Yaa, Yba]
   rfl
  refine Yxa (i := 10) (N := some 60) (v := undef) (a' := ?_) #[true, true, true, true, true, true, true, true, true, true, true, false, false, false, false, false, false, false, false, false, false, false, false, false, false, false, false, false, false, false, false, false] rfl rfl (Yoa HT_.out (by kernel_rfl)) (fun _ _ _ h => h) (Or.inr ⟨by rfl, rfl⟩) ?_ ?_
  rotate_left
  ·simp only [Act.put, List.setIfInBounds_toArray, List.set_cons_zero, List.set_cons_succ, Yaa, Yba]
   rfl
  refine Yxa (i := 11) (N := some 61) (v := undef) (a' := ?_) #[true, true, true, true, true, true, true, true, true, true, true, true, false, false, false, false, false, false, false, false, false, false, false, false, false, false, false, false, false, false, false, false] rfl rfl (Yoa HT_.out (by kernel_rfl)) (fun _ _ _ h => h) (Or.inr ⟨by rfl, rfl⟩) ?_ ?_
  rotate_left
  ·simp only [Act.put, List.setIfInBounds_toArray, List.set_cons_zero, List.set_cons_succ, Yaa, Yba]
   rfl
  refine Yxa (i := 12) (N := some 62) (v := undef) (a' := ?_) #[true, true, true, true, true, true, true, true, true, true, true, true, true, false, false, false, false, false, false, false, false, false, false, false, false, false, false, false, false, false, false, false] rfl rfl (Yoa HT_.out (by kernel_rfl)) (fun _ _ _ h => h) (Or.inr ⟨by rfl, rfl⟩) ?_ ?_
  rotate_left
  ·simp only [Act.put, List.setIfInBounds_toArray, List.set_cons_zero, List.set_cons_succ, Yaa, Yba]
   rfl
  refine Yxa (i := 13) (N := some 63) (v := ?_) (a' := ?_) #[true, true, true, true, true, true, true, true, true, true, true, true, true, true, false, false, false, false, false, false, false, false, false, false, false, false, false, false, false, false, false, false] rfl rfl (Yoa HT_.out (by kernel_rfl)) (fun _ _ _ h => h) (Or.inl ⟨by rfl, ?_⟩) ?_ ?_
  rotate_left
  ·intro w'
   go_simp
   with_reducible rfl
  rotate_left
  ·simp only [Act.put, List.setIfInBounds_toArray, List.set_cons_zero, List.set_cons_succ, Yaa, Yba]
   rfl
  refine Yxa (i := 14) (N := some 64) (v := ?_) (a' := ?_) #[true, true, true, true, true, true, true, true, true, true, true, true, true, true, true, false, false, false, false, false, false, false, false, false, false, false, false, false, false, false, false, false] rfl rfl (Yoa HT_.out (by kernel_rfl)) (fun _ _ _ h => h) (Or.inl ⟨by rfl, ?_⟩) ?_ ?_
  rotate_left
  ·intro w'
   go_simp
   with_reducible rfl
  rotate_left
  ·simp only [Act.put, List.setIfInBounds_toArray, List.set_cons_zero, List.set_cons_succ, Yaa, Yba]
   rfl
  refine Yxa (i := 15) (N := some 65) (v := ?_) (a' := ?_) #[true, true, true, true, true, true, true, true, true, true, true, true, true, true, true, true, false, false, false, false, false, false, false, false, false, false, false, false, false, false, false, false] rfl rfl (Yoa HT_.out (by kernel_rfl)) (fun _ _ _ h => h) (Or.inl ⟨by rfl, ?_⟩) ?_ ?_
  rotate_left
  ·intro w'
   go_simp
   with_reducible rfl
  rotate_left
  ·simp only [Act.put, List.setIfInBounds_toArray, List.set_cons_zero, List.set_cons_succ, Yaa, Yba]
   rfl
  refine Yxa (i := 16) (N := some 66) (v := ?_) (a' := ?_) #[true, true, true, true, true, true, true, true, true, true, true, true, true, true, true, true, true, false, false, false, false, false, false, false, false, false, false, false, false, false, false, false] rfl rfl (Yoa HT_.out (by kernel_rfl)) (fun _ _ _ h => h) (Or.inl ⟨by rfl, ?_⟩) ?_ ?_
  rotate_left
  ·intro w'
   go_simp
   with_reducible rfl
  rotate_left
  ·simp only [Act.put, List.setIfInBounds_toArray, List.set_cons_zero, List.set_cons_succ, Yaa, Yba]
   rfl
  refine Yoe (i := 17) (N := some 67) (v := ?_) (a' := ?_) #[true, true, true, true, true, true, true, true, true, true, true, true, true, true, true, true, true, true, false, false, false, false, false, false, false, false, false, false, false, false, false, false] rfl rfl (Yed HT_.out HW_.out (by kernel_rfl)) (fun _ _ _ h => h) (Or.inl ⟨by rfl, ?_⟩) hHeld ?_ ?_
  rotate_left
  ·rintro w' ⟨⟨s0, s1, s2, s3, s4, s5, s6, s7⟩, ⟨q0, q1, q2, q3, q4, q5, q6, q7⟩, ⟨p0, p1, p2, p3, p4, p5, p6, p7⟩⟩
   go_simp
   with_reducible rfl
  rotate_left
  ·simp only [Act.put, List.setIfInBounds_toArray, List.set_cons_zero, List.set_cons_succ, Yaa, Yba]
   rfl
  refine Yoe (i := 19) (N := some 69) (v := ?_) (a' := ?_) #[true, true, true, true, true, true, true, true, true, true, true, true, true, true, true, true, true, true, false, true, false, false, false, false, false, false, false, false, false, false, false, false] rfl rfl (Yed HT_.out HW_.out (by kernel_rfl)) (fun _ _ _ h => h) (Or.inl ⟨by rfl, ?_⟩) hHeld ?_ ?_
  rotate_left
  ·rintro w' ⟨⟨s0, s1, s2, s3, s4, s5, s6, s7⟩, ⟨q0, q1, q2, q3, q4, q5, q6, q7⟩, ⟨p0, p1, p2, p3, p4, p5, p6, p7⟩⟩
   go_simp
   with_reducible rfl
  rotate_left
  ·simp only [Act.put, List.setIfInBounds_toArray, List.set_cons_zero, List.set_cons_succ, Yaa, Yba]
   rfl
  refine one_ (i := 18) (N := some 68) #[true, true, true, true, true, true, true, true, true, true, true, true, true, true, true, true, true, true, true, true, false, false, false, false, false, false, false, false, false, false, false, false] rfl rfl (Yqe HT_.out (by kernel_rfl)) (by decide) (fun K hK => ?_)
  refine Ygg Tryz.func28 (by kernel_rfl) rfl #[.agg #[.string u1, .string u2, .int .i64 u3, .string u4, .string u5, .string u6, .bool u7, .bool u8]] (by rfl) rfl rfl (by (try simp only [List.map_toArray, List.map_cons, List.map_nil]); first | done | rfl) ?_
  refine (Yyj.calls u1 u2 u3 u4 u5 u6 u7 u8 u1 u2 u3 u4 u5 (⟨#[]⟩ : ByteArray) u7 false _ (HE.out.below HB.out) rfl).mono ?_
  rintro e we ⟨rfl, hb⟩
  refine ⟨_, rfl, ?_⟩
  replace BK := Ya.mk (Yhb BK.out hb)
  replace BV := Ya.mk (Yhb BV.out hb)
  replace BB := Ya.mk (Yhb BB.out hb)
  replace HB := Ya.mk (HB.out.trans (hb.mono HB.out.size))
  clear hb
  refine hK.out _ _ ⟨Yea BK.out, Yea BV.out, Yea BB.out⟩ (fun hHeld => ?_)
  clear hK K
  refine Yyf (a' := ?_) ?_ ?_
  rotate_left
  ·show Act.put _ (some 68) _ = _
   simp only [Act.put, List.setIfInBounds_toArray, List.set_cons_zero, List.set_cons_succ, Yaa, Yba]
   rfl
  refine Yxa (i := 20) (N := some 70) (v := ?_) (a' := ?_) #[true, true, true, true, true, true, true, true, true, true, true, true, true, true, true, true, true, true, true, true, true, false, false, false, false, false, false, false, false, false, false, false] rfl rfl (Yoa HT_.out (by kernel_rfl)) (fun _ _ _ h => h) (Or.inl ⟨by rfl, ?_⟩) ?_ ?_
  rotate_left
  ·intro w'
   go_simp
   with_reducible rfl
  rotate_left
  ·simp only [Act.put, List.setIfInBounds_toArray, List.set_cons_zero, List.set_cons_succ, Yaa, Yba]
   rfl
  refine Yxa (i := 21) (N := some 71) (v := ?_) (a' := ?_) #[true, true, true, true, true, true, true, true, true, true, true, true, true, true, true, true, true, true, true, true, true, true, false, false, false, false, false, false, false, false, false, false] rfl rfl (Yoa HT_.out (by kernel_rfl)) (fun _ _ _ h => h) (Or.inl ⟨by rfl, ?_⟩) ?_ ?_
  rotate_left
  ·intro w'
   go_simp
   with_reducible rfl
  rotate_left
  ·simp only [Act.put, List.setIfInBounds_toArray, List.set_cons_zero, List.set_cons_succ, Yaa, Yba]
   rfl
  refine Yxa (i := 22) (N := some 72) (v := ?_) (a' := ?_) #[true, true, true, true, true, true, true, true, true, true, true, true, true, true, true, true, true, true, true, true, true, true, true, false, false, false, false, false, false, false, false, false] rfl rfl (Yoa HT_.out (by kernel_rfl)) (fun _ _ _ h => h) (Or.inl ⟨by rfl, ?_⟩) ?_ ?_
  rotate_left
  ·intro w'
   go_simp
   with_reducible rfl
  rotate_left
  ·simp only [Act.put, List.setIfInBounds_toArray, List.set_cons_zero, List.set_cons_succ, Yaa, Yba]
   rfl
  refine Yxa (i := 25) (N := some 75) (v := ?_) (a' := ?_) #[true, true, true, true, true, true, true, true, true, true, true, true, true, true, true, true, true, true, true, true, true, true, true, false, false, true, false, false, false, false, false, false] rfl rfl (Yoa HT_.out (by kernel_rfl)) (fun _ _ _ h => h) (Or.inl ⟨by rfl, ?_⟩) ?_ ?_
  rotate_left
  ·intro w'
   go_simp
   with_reducible rfl
  rotate_left
  ·simp only [Act.put, List.setIfInBounds_toArray, List.set_cons_zero, List.set_cons_succ, Yaa, Yba]
   rfl
  refine Yoe (i := 23) (N := some 73) (v := ?_) (a' := ?_) #[true, true, true, true, true, true, true, true, true, true, true, true, true, true, true, true, true, true, true, true, true, true, true, true, false, true, false, false, false, false, false, false] rfl rfl (Yed HT_.out HW_.out (by kernel_rfl)) (fun _ _ _ h => h) (Or.inl ⟨by rfl, ?_⟩) hHeld ?_ ?_
  rotate_left
  ·rintro w' ⟨⟨s0, s1, s2, s3, s4, s5, s6, s7⟩, ⟨q0, q1, q2, q3, q4, q5, q6, q7⟩, ⟨p0, p1, p2, p3, p4, p5, p6, p7⟩⟩
   go_simp
   with_reducible rfl
  rotate_left
  ·simp only [Act.put, List.setIfInBounds_toArray, List.set_cons_zero, List.set_cons_succ, Yaa, Yba]
   rfl
  refine one_ (i := 24) (N := some 74) #[true, true, true, true, true, true, true, true, true, true, true, true, true, true, true, true, true, true, true, true, true, true, true, true, true, true, false, false, false, false, false, false] rfl rfl (Yqe HT_.out (by kernel_rfl)) (by decide) (fun K hK => ?_)
  refine Ygg Tryz.func29 (by kernel_rfl) rfl #[.agg #[.string u1, .string u2, .int .i64 u3, .string u4, .string u5, .string u6, .bool u7, .bool u8]] (by rfl) rfl rfl (by (try simp only [List.map_toArray, List.map_cons, List.map_nil]); first | done | rfl) ?_
  refine (Ybd.calls kR _ _ _ _ _ _ _ _ _ _ (HE.out.below HB.out) HO.out).mono ?_
  rintro e we ⟨rfl, hb⟩
  refine ⟨_, rfl, ?_⟩
  replace BK := Ya.mk (Yhb BK.out hb)
  replace BV := Ya.mk (Yhb BV.out hb)
  replace BB := Ya.mk (Yhb BB.out hb)
  replace HB := Ya.mk (HB.out.trans (hb.mono HB.out.size))
  clear hb
  refine hK.out _ _ ⟨Yea BK.out, Yea BV.out, Yea BB.out⟩ (fun hHeld => ?_)
  clear hK K
  refine Yyf (a' := ?_) ?_ ?_
  rotate_left
  ·show Act.put _ (some 74) _ = _
   simp only [Act.put, List.setIfInBounds_toArray, List.set_cons_zero, List.set_cons_succ, Yaa, Yba]
   rfl
  refine Yxa (i := 26) (N := some 76) (v := ?_) (a' := ?_) #[true, true, true, true, true, true, true, true, true, true, true, true, true, true, true, true, true, true, true, true, true, true, true, true, true, true, true, false, false, false, false, false] rfl rfl (Yoa HT_.out (by kernel_rfl)) (fun _ _ _ h => h) (Or.inl ⟨by rfl, ?_⟩) ?_ ?_
  rotate_left
  ·intro w'
   go_simp
   with_reducible rfl
  rotate_left
  ·simp only [Act.put, List.setIfInBounds_toArray, List.set_cons_zero, List.set_cons_succ, Yaa, Yba]
   rfl
  refine Yxa (i := 27) (N := some 77) (v := ?_) (a' := ?_) #[true, true, true, true, true, true, true, true, true, true, true, true, true, true, true, true, true, true, true, true, true, true, true, true, true, true, true, true, false, false, false, false] rfl rfl (Yoa HT_.out (by kernel_rfl)) (fun _ _ _ h => h) (Or.inl ⟨by rfl, ?_⟩) ?_ ?_
  rotate_left
  ·intro w'
   go_simp
   with_reducible rfl
  rotate_left
  ·simp only [Act.put, List.setIfInBounds_toArray, List.set_cons_zero, List.set_cons_succ, Yaa, Yba]
   rfl
  refine Yxa (i := 28) (N := some 78) (v := ?_) (a' := ?_) #[true, true, true, true, true, true, true, true, true, true, true, true, true, true, true, true, true, true, true, true, true, true, true, true, true, true, true, true, true, false, false, false] rfl rfl (Yoa HT_.out (by kernel_rfl)) (fun _ _ _ h => h) (Or.inl ⟨by rfl, ?_⟩) ?_ ?_
  rotate_left
  ·intro w'
   go_simp
   with_reducible rfl
  rotate_left
  ·simp only [Act.put, List.setIfInBounds_toArray, List.set_cons_zero, List.set_cons_succ, Yaa, Yba]
   rfl
  refine one_ (i := 29) (N := some 79) #[true, true, true, true, true, true, true, true, true, true, true, true, true, true, true, true, true, true, true, true, true, true, true, true, true, true, true, true, true, true, false, false] rfl rfl (Yqe HT_.out (by kernel_rfl)) (by decide) (fun K hK => ?_)
  refine Ygg Tryz.func14 (by kernel_rfl) rfl #[] (by rfl) rfl rfl (by (try simp only [List.map_toArray, List.map_cons, List.map_nil]); first | done | rfl) ?_
  refine (Yff k _ (HE.out.below HB.out) HA.out).mono ?_
  rintro e we ⟨rfl, hb⟩
  refine ⟨_, rfl, ?_⟩
  replace BK := Ya.mk (Yhb BK.out hb)
  replace BV := Ya.mk (Yhb BV.out hb)
  replace BB := Ya.mk (Yhb BB.out hb)
  replace HB := Ya.mk (HB.out.trans (hb.mono HB.out.size))
  clear hb
  refine hK.out _ _ ⟨Yea BK.out, Yea BV.out, Yea BB.out⟩ (fun hHeld => ?_)
  clear hK K
  refine Yyf (a' := ?_) ?_ ?_
  rotate_left
  ·show Act.put _ (some 79) _ = _
   simp only [Act.put, List.setIfInBounds_toArray, List.set_cons_zero, List.set_cons_succ, Yaa, Yba]
   rfl
  refine Yxa (i := 30) (N := some 80) (v := ?_) (a' := ?_) #[true, true, true, true, true, true, true, true, true, true, true, true, true, true, true, true, true, true, true, true, true, true, true, true, true, true, true, true, true, true, true, false] rfl rfl (Yoa HT_.out (by kernel_rfl)) (fun _ _ _ h => h) (Or.inl ⟨by rfl, ?_⟩) ?_ ?_
  rotate_left
  ·intro w'
   go_simp
   with_reducible rfl
  rotate_left
  ·simp only [Act.put, List.setIfInBounds_toArray, List.set_cons_zero, List.set_cons_succ, Yaa, Yba]
   rfl
  refine Yxa (i := 31) (N := some 2) (v := ?_) (a' := ?_) #[true, true, true, true, true, true, true, true, true, true, true, true, true, true, true, true, true, true, true, true, true, true, true, true, true, true, true, true, true, true, true, true] rfl rfl (Yoa HT_.out (by kernel_rfl)) (fun _ _ _ h => h) (Or.inl ⟨by rfl, ?_⟩) ?_ ?_
  rotate_left
  ·intro w'
   go_simp
   with_reducible rfl
  rotate_left
  ·simp only [Act.put, List.setIfInBounds_toArray, List.set_cons_zero, List.set_cons_succ, Yaa, Yba]
   rfl
  refine Yvh (Yqh HT_.out (by kernel_rfl)) ?_
  try go_wp2
  go_ret
  exact ⟨rfl, HB.out⟩
theorem urlTexts_walk (u1 u2 : ByteArray) (u3 : Int) (u4 u5 u6 : ByteArray) (u7 u8 : Bool) (w : World) (hE : EnvOk w) (hw : (Lit.int .i64 u3).wf = true) :
  Calls Tryz.prog 5 #[.agg (uc u1 u2 u3 u4 u5 u6 u7 u8)] w fun e w' => e = .returned (.bool true) ∧ Below w.heap.size w w' := by
 have hr : -9223372036854775808 ≤ u3 ∧ u3 ≤ 9223372036854775807 := by
  have := hw
  have e1 : IntKind.i64.min = -9223372036854775808 := by decide
  have e2 : IntKind.i64.max = 9223372036854775807 := by decide
  simp only [Lit.wf, Bool.and_eq_true, decide_eq_true_eq] at this
  omega
 have hL : ∀ s : ByteArray, Yma.f s = some (decide ((s.size : Int) > 2200)) := fun s => rfl
 by_cases hany : (decide ((u1.size : Int) > 2200) || (decide ((u2.size : Int) > 2200) || (decide ((u4.size : Int) > 2200) || (decide ((u5.size : Int) > 2200) || decide ((u6.size : Int) > 2200))))) = true
 ·exact Yfm 60 u1 u2 u3 u4 u5 u6 u7 u8 _ _ _ _ _ w hE Yyl hany (hL u1) (hL u2) (hL u4) (hL u5) (hL u6)
 ·simp only [Bool.or_eq_true, decide_eq_true_eq, not_or] at hany
  obtain ⟨n1, n2, n4, n5, n6⟩ := hany
  have hF : ∀ s : ByteArray, ¬ (s.size : Int) > 2200 → Yma.f s = some false := fun s hs => by rw [hL, decide_eq_false hs]
  obtain ⟨k1, e1⟩ := Yul u1 u2 u3 u4 u5 u6 u7 u8 (by omega) (by omega) (by omega) (by omega) (by omega) hr.1 hr.2
  have hz : (⟨#[]⟩ : ByteArray).size = 0 := rfl
  obtain ⟨k2, e2⟩ := Yul u1 u2 u3 ⟨#[]⟩ ⟨#[]⟩ ⟨#[]⟩ false false (by omega) (by omega) (by omega) (by omega) (by omega) hr.1 hr.2
  obtain ⟨k3, e3⟩ := stringZ_f u1 u2 u3 u4 u5 u6 u7 u8 (by omega) (by omega) (by omega) (by omega) (by omega) hr.1 hr.2
  obtain ⟨k4, e4⟩ := Yqm u1 u2 u3 u4 u5 u6 u7 u8 (by omega) (by omega) hr.1 hr.2
  have eo : Ycg u1 u2 u3 ⟨#[]⟩ ⟨#[]⟩ ⟨#[]⟩ false false = Yag u1 u2 u3 := by
   unfold Ycg Yoi Yzi
   simp only [Bool.false_eq_true, if_false]
   exact Ype (by rw [ByteArray.data_append, Array.toList_append]; simp)
  rw [eo] at e2
  have hso := Yoh u1 u2 u3
  have hss : (Ycg u1 u2 u3 u4 u5 u6 u7 u8).size ≤ 20000 := by
   unfold Ycg Yoi Yzi
   cases u7 <;> cases u8 <;> simp only [if_true, if_false, Bool.false_eq_true, ByteArray.size_append, Ysh, Yrh] <;> omega
  obtain ⟨k5, e5⟩ := parse_f (Ycg u1 u2 u3 u4 u5 u6 u7 u8) (by omega)
  obtain ⟨v1, v2, v3, v4, v5, v6, v7, v8, v9, hv⟩ : ∃ a b c d e f g h i, Ylj (Ycg u1 u2 u3 u4 u5 u6 u7 u8).data.toList = (a, b, c, d, e, f, g, h, i) := ⟨_, _, _, _, _, _, _, _, _, rfl⟩
  rw [hv] at e5
  have hm : Yth.f (k3 + k5) u1 u2 u3 u4 u5 u6 u7 u8 = some (if v9 = 0 then eqU u1 u2 u3 u4 u5 u6 u7 u8 v1 v2 v3 v4 v5 v6 v7 v8 else false) := by
   have h3 : Ync.f (k3 + k5) u1 u2 u3 u4 u5 u6 u7 u8 = _ := e3 (k3 + k5) (by omega)
   have h5 : Yfe.f (k3 + k5) (Ycg u1 u2 u3 u4 u5 u6 u7 u8) = _ := e5 (k3 + k5) (by omega)
   unfold Yth.f
   rw [h3, Option.bind_some, h5, Option.bind_some, eqU_turn]
   by_cases h0 : v9 = 0
   ·rw [if_pos h0, if_pos h0]; rfl
   ·rw [if_neg h0, if_neg h0]
  exact Yol 60 k1 k2 k3 (k3 + k5) k4 u1 u2 u3 u4 u5 u6 u7 u8 _ _ v1 v2 v3 v4 v5 v6 v7 v8 v9 w hE Yyl (hF u1 n1) (hF u2 n2) (hF u4 n4) (hF u5 n5) (hF u6 n6) (e1 k1 (Nat.le_refl _)) (by omega) hv (e2 k2 (Nat.le_refl _)) (e3 k3 (Nat.le_refl _)) hm (e4 k4 (Nat.le_refl _))
end Go.Proofs.YtnmglnglbdpjjaaGreatDoor.X
