/- ChannelHides: what a call of it does. -/
import Derived.Test.YtfmjnmglagdcdaaGreatDoorCHWords
import Derived.Test.YtfmjnmglagdcdaaGreatDoorCHLCHa
import Derived.Deep.QuietTactic
import Derived.BigQuiet
namespace Go.Proofs.YtfmjnmglagdcdaaGreatDoor.X
open Go.RowKit Go.Lib Go.Shelf Go.Yw.PrintWords Go.Yw.PrintLast Go.Yw.PrintMore
set_option linter.unusedVariables false
set_option linter.unusedSimpArgs false
set_option maxHeartbeats 8000000 in
set_option maxRecDepth 100000 in
theorem hides_ft (u v : ByteArray) (w : World) (hE : EnvOk w) (hus : u.size ≤ 2200) (hvs : v.size ≤ 2200) (hk : (keyP u).2 = 0) :
  Calls Tryz.prog 3 #[.string u, .string v, .agg #[.bool false, .bool true]] w fun e w' => e = .returned (.bool true) ∧ Below w.heap.size w w' := by
 have hbx := (Below.refl w.heap.size w).alloc (Nat.le_refl _) (.cells #[.bool false, .bool true] 22)
 have HB := Ya.mk hbx
 have HE := Ya.mk hE
 clear hbx hE
 have d1 : decide ((u.size : Int) > 2200) = false := decide_eq_false Zk
 have d2 : decide ((v.size : Int) > 2200) = false := decide_eq_false Zk
 have HU := Ya.mk (show u.size ≤ 1000000000 by omega)
 have HV := Ya.mk (show v.size ≤ 1000000000 by omega)
 clear hus hvs
 have HK := Ya.mk hk
 clear hk
 go_enter Tryz.func3, Tryz.ntmps3
 go_wp2
 go_quiet (fail)
 go_wp2_with fail
 generalize hW : World.drewN _ _ = W0
 replace HB := Ya.mk (show Below w.heap.size w W0 by rw [← hW]; exact below_drewN' HB.out _)
 have HE0 := Ya.mk (HE.out.below HB.out)
 clear hW
 refine (St.new (wb := W0) (T := fun _ => False) (Below.refl _ _) (fun k h => h.elim)).mono ?_
 rintro e w1 ⟨bb, rfl, hst, _⟩
 have HS := Ya.mk ((hst.alloc (.cells #[.string ⟨#[]⟩, .string ⟨#[]⟩, .string ⟨#[]⟩, .string ⟨#[]⟩, .string ⟨#[]⟩, .string ⟨#[]⟩, .int .i64 0, .bool false, .string ⟨#[]⟩, .string u, .string ⟨#[]⟩, .slice none 0 0, .slice none 0 0, .slice none 0 0, .slice none 0 0, .slice none 0 0] 30)).weak (T' := fun k => k = w1.heap.size) (fun k h => .inr h))
 have HT := Ya.mk (show w1.heap.size < (w1.alloc (.cells #[.string ⟨#[]⟩, .string ⟨#[]⟩, .string ⟨#[]⟩, .string ⟨#[]⟩, .string ⟨#[]⟩, .string ⟨#[]⟩, .int .i64 0, .bool false, .string ⟨#[]⟩, .string u, .string ⟨#[]⟩, .slice none 0 0, .slice none 0 0, .slice none 0 0, .slice none 0 0, .slice none 0 0] 30)).heap.size by rw [Yz]; omega)
 have HBE := Ya.mk (heap_alloc_new w1 (.cells #[.string ⟨#[]⟩, .string ⟨#[]⟩, .string ⟨#[]⟩, .string ⟨#[]⟩, .string ⟨#[]⟩, .string ⟨#[]⟩, .int .i64 0, .bool false, .string ⟨#[]⟩, .string u, .string ⟨#[]⟩, .slice none 0 0, .slice none 0 0, .slice none 0 0, .slice none 0 0, .slice none 0 0] 30))
 have HO := Ya.mk Yvg
 clear hst
 go_wp2_with fail
 generalize w1.alloc _ = w2 at HS HT HBE ⊢
 refine (St.add2 HS.out HO.out HE0.out (fun k h => by rw [show k = w1.heap.size from h]; exact HT.out) Zq u HU.out).mono ?_
 rw [Yhj HK.out]
 rintro e w4 ⟨s4, rfl, ho, hst⟩
 replace HBE := Ya.mk ((hst.2.1 _ rfl HT.out).trans HBE.out)
 replace HT := Ya.mk (Nat.lt_of_lt_of_le HT.out hst.2.2)
 replace HS := Ya.mk hst.1
 replace HO := Ya.mk ho
 clear hst ho
 go_wp2_with ((with_reducible refine Ygb (t := 30) (x := .tmp 11) rfl ?_); refine wpList_load_row rfl 30 (.tmp 11) rfl w1.heap.size rfl 30 #[.string ⟨#[]⟩, .string ⟨#[]⟩, .string ⟨#[]⟩, .string ⟨#[]⟩, .string ⟨#[]⟩, .string ⟨#[]⟩, .int .i64 0, .bool false, .string ⟨#[]⟩, .string u, .string ⟨#[]⟩, .slice none 0 0, .slice none 0 0, .slice none 0 0, .slice none 0 0, .slice none 0 0] (0, 0) _ HBE.out Tryz.underlying30 rfl Zg ?_)
 refine (St.hid HS.out HO.out HE0.out u HU.out (Ybb u) (Yte HK.out) _ Zja).mono ?_
 rw [show (decide (0 < (([] : List ByteArray).length : Int)) || decide (0 < (([(keyP u).1] : List ByteArray).length : Int))) = true from rfl]
 rintro e wh ⟨rfl, hb⟩
 replace HBE := Ya.mk (Yua HBE.out hb)
 replace HT := Ya.mk (Nat.lt_of_lt_of_le HT.out hb.size)
 replace HS := Ya.mk (HS.out.below hb)
 clear hb
 have hu30 := Tryz.underlying30
 obtain ⟨q0, q1, q2, q3, q4, q5, q6, q7, q8, q9, q10, q11, q12, q13, q14, q15⟩ := Ybg HBE.out
 go_wp2_with fail
 clear q0 q1 q2 q3 q4 q5 q6 q7 q8 q9 q10 q11 q12 q13 q14 q15 hu30
 refine (St.hid_no HS.out HO.out _).mono ?_
 rintro e wn ⟨rfl, hb⟩
 replace HBE := Ya.mk (Yua HBE.out hb)
 replace HT := Ya.mk (Nat.lt_of_lt_of_le HT.out hb.size)
 replace HS := Ya.mk (HS.out.below hb)
 clear hb
 as_aux_lemma =>
  have G1 := Ya.mk (Good.drop (Ybb u) v)
  have G2 := Ya.mk (Good.drop (Yte HK.out) v)
  go_wp2_with fail
  refine (St.drop1 HS.out HO.out HE0.out (fun k h => by rw [show k = w1.heap.size from h]; exact HT.out) Zq v HV.out).mono ?_
  rintro e w5 ⟨s5, rfl, ho, hst⟩
  replace HBE := Ya.mk ((hst.2.1 _ rfl HT.out).trans HBE.out)
  replace HT := Ya.mk (Nat.lt_of_lt_of_le HT.out hst.2.2)
  replace HS := Ya.mk hst.1
  replace HO := Ya.mk ho
  clear hst ho
  go_wp2_with fail
  refine (St.drop2 HS.out HO.out HE0.out (fun k h => by rw [show k = w1.heap.size from h]; exact HT.out) (by show 1 ≤ 64; decide) v HV.out).mono ?_
  rintro e w6 ⟨s6, rfl, ho, hst⟩
  replace HBE := Ya.mk ((hst.2.1 _ rfl HT.out).trans HBE.out)
  replace HT := Ya.mk (Nat.lt_of_lt_of_le HT.out hst.2.2)
  replace HS := Ya.mk hst.1
  replace HO := Ya.mk ho
  clear hst ho
  generalize (Yhe [] v).2 = e1 at G1 HO
  generalize (Yhe [(keyP u).1] v).2 = e2 at G2 HO
  go_wp2_with fail
  refine (St.drop0 HS.out HO.out HE0.out (fun k h => by rw [show k = w1.heap.size from h]; exact HT.out) Zq u HU.out).mono ?_
  rintro e w7 ⟨s7, rfl, ho, hst⟩
  replace HBE := Ya.mk ((hst.2.1 _ rfl HT.out).trans HBE.out)
  replace HT := Ya.mk (Nat.lt_of_lt_of_le HT.out hst.2.2)
  replace HS := Ya.mk hst.1
  replace HO := Ya.mk ho
  clear hst ho
  have hl1 : e1.length ≤ 1 := G1.out.1
  have hl2 : e2.length ≤ 1 := G2.out.1
  go_wp2_with fail
  refine (St.list1 HS.out HO.out Zk).mono ?_
  rintro e w8 ⟨A8, c8, rfl, _, hb⟩
  replace HBE := Ya.mk (Yua HBE.out hb)
  replace HT := Ya.mk (Nat.lt_of_lt_of_le HT.out hb.size)
  replace HS := Ya.mk (HS.out.below hb)
  clear hb
  go_wp2_with fail
  refine (St.list2 HS.out HO.out Zk).mono ?_
  rintro e w9 ⟨A9, c9, rfl, _, hb⟩
  replace HBE := Ya.mk (Yua HBE.out hb)
  replace HT := Ya.mk (Nat.lt_of_lt_of_le HT.out hb.size)
  replace HS := Ya.mk (HS.out.below hb)
  clear hb
  as_aux_lemma =>
   go_wp2_with ((with_reducible refine Ygb (t := 30) (x := .tmp 11) rfl ?_); refine wpList_load_row rfl 30 (.tmp 11) rfl w1.heap.size rfl 30 #[.string ⟨#[]⟩, .string ⟨#[]⟩, .string ⟨#[]⟩, .string ⟨#[]⟩, .string ⟨#[]⟩, .string ⟨#[]⟩, .int .i64 0, .bool false, .string ⟨#[]⟩, .string u, .string ⟨#[]⟩, .slice none 0 0, .slice none 0 0, .slice none 0 0, .slice none 0 0, .slice none 0 0] (0, 0) _ HBE.out Tryz.underlying30 rfl Zg ?_)
   refine (St.hid HS.out HO.out HE0.out u HU.out G1.out G2.out _ Zja).mono ?_
   rw [show (decide (0 < ((e1 : List ByteArray).length : Int)) || decide (0 < ((e2 : List ByteArray).length : Int))) = decide (0 < (e1.length : Int) + (e2.length : Int)) from by rw [Bool.eq_iff_iff]; simp only [Bool.or_eq_true, decide_eq_true_eq]; omega]
   rintro e wa ⟨rfl, hb⟩
   replace HBE := Ya.mk (Yua HBE.out hb)
   replace HT := Ya.mk (Nat.lt_of_lt_of_le HT.out hb.size)
   replace HS := Ya.mk (HS.out.below hb)
   clear hb
   go_wp2_with fail
   refine (St.drop1 HS.out HO.out HE0.out (fun k h => by rw [show k = w1.heap.size from h]; exact HT.out) Zk u HU.out).mono ?_
   rw [G1.out.self]
   rintro e wb ⟨sb, rfl, ho, hst⟩
   replace HBE := Ya.mk ((hst.2.1 _ rfl HT.out).trans HBE.out)
   replace HT := Ya.mk (Nat.lt_of_lt_of_le HT.out hst.2.2)
   replace HS := Ya.mk hst.1
   replace HO := Ya.mk ho
   clear hst ho
   go_wp2_with ((with_reducible refine Ygb (t := 30) (x := .tmp 11) rfl ?_); refine wpList_load_row rfl 30 (.tmp 11) rfl w1.heap.size rfl 30 #[.string ⟨#[]⟩, .string ⟨#[]⟩, .string ⟨#[]⟩, .string ⟨#[]⟩, .string ⟨#[]⟩, .string ⟨#[]⟩, .int .i64 0, .bool false, .string ⟨#[]⟩, .string u, .string ⟨#[]⟩, .slice none 0 0, .slice none 0 0, .slice none 0 0, .slice none 0 0, .slice none 0 0] (0, 0) _ HBE.out Tryz.underlying30 rfl Zg ?_)
   refine (St.hid HS.out HO.out HE0.out u HU.out (Ybb u) G2.out _ Zja).mono ?_
   rw [show (decide (0 < (([] : List ByteArray).length : Int)) || decide (0 < ((e2 : List ByteArray).length : Int))) = decide (0 < (e2.length : Int)) from rfl]
   rintro e wc ⟨rfl, hb⟩
   replace HBE := Ya.mk (Yua HBE.out hb)
   replace HT := Ya.mk (Nat.lt_of_lt_of_le HT.out hb.size)
   replace HS := Ya.mk (HS.out.below hb)
   clear hb
   go_wp2_with fail
   refine (St.drop2 HS.out HO.out HE0.out (fun k h => by rw [show k = w1.heap.size from h]; exact HT.out) Zk u HU.out).mono ?_
   rw [G2.out.self]
   rintro e wd ⟨sd, rfl, ho, hst⟩
   replace HBE := Ya.mk ((hst.2.1 _ rfl HT.out).trans HBE.out)
   replace HT := Ya.mk (Nat.lt_of_lt_of_le HT.out hst.2.2)
   replace HS := Ya.mk hst.1
   replace HO := Ya.mk ho
   clear hst ho
   go_wp2_with ((with_reducible refine Ygb (t := 30) (x := .tmp 11) rfl ?_); refine wpList_load_row rfl 30 (.tmp 11) rfl w1.heap.size rfl 30 #[.string ⟨#[]⟩, .string ⟨#[]⟩, .string ⟨#[]⟩, .string ⟨#[]⟩, .string ⟨#[]⟩, .string ⟨#[]⟩, .int .i64 0, .bool false, .string ⟨#[]⟩, .string u, .string ⟨#[]⟩, .slice none 0 0, .slice none 0 0, .slice none 0 0, .slice none 0 0, .slice none 0 0] (0, 0) _ HBE.out Tryz.underlying30 rfl Zg ?_)
   refine (St.hid HS.out HO.out HE0.out u HU.out (Ybb u) (Ybb u) _ Zja).mono ?_
   rw [show (decide (0 < (([] : List ByteArray).length : Int)) || decide (0 < (([] : List ByteArray).length : Int))) = false from rfl]
   rintro e we ⟨rfl, hb⟩
   replace HBE := Ya.mk (Yua HBE.out hb)
   replace HT := Ya.mk (Nat.lt_of_lt_of_le HT.out hb.size)
   replace HS := Ya.mk (HS.out.below hb)
   clear hb
   go_wp2_with fail
   refine (Ykf _ (HE0.out.below HS.out.bel)).mono ?_
   rintro e wz ⟨rfl, hb⟩
   have HZ := Ya.mk (HB.out.trans ((HS.out.bel.trans (hb.mono HS.out.bel.size)).mono HB.out.size))
   clear hb
   go_wp2
   go_ret
   exact ⟨rfl, HZ.out⟩
end Go.Proofs.YtfmjnmglagdcdaaGreatDoor.X
