import Derived.Test.YtihaeeldgimdiaaGreatDoorIUOp
import Derived.Test.YtihaeeldgimdiaaGreatDoorIUIa
import Derived.Test.YtihaeeldgimdiaaGreatDoorIURb
import Derived.Test.YtihaeeldgimdiaaGreatDoorIUIg
set_option linter.all false
section
namespace Go.Proofs.YtihaeeldgimdiaaGreatDoor.X
open Go Go.RowKit Go.ChangeShapes Go.Yw.PrintWords Go.Yw.PrintLast Go.Yw.PrintMore
set_option maxHeartbeats 8000000
set_option maxRecDepth 100000
abbrev mS (s : Y) : Nat := s.size + 1
theorem opensB_str : OpensB Tryz.prog 9 Kd.string (fun s => s.size ≤ 140737488351232) mS := OpensB.string Tryz.underlying9 Zi
theorem opensB_strs : OpensB Tryz.prog 23 (Kd.slice 9 Kd.string) (fun xs => xs.length * Tryz.prog.bytesOf 9 ≤ 140737488351232 ∧ ∀ x ∈ xs, x.size ≤ 140737488351232) (fun xs => sumM mS xs + 1) := OpensB.slice Tryz.underlying23 Zi opensB_str
theorem Ypq : OpensB Tryz.prog 30 k30 (fun _ => True) (fun _ => 0) :=
 (OpensB.iso (fun x : S30 => (x.f0, x.f1, x.f2)) (fun a => ⟨a.1, a.2.1, a.2.2⟩) (fun _ => rfl)
  (OpensB.struct Tryz.underlying30 Zi Zi (OpensBL.cons opensB_str (OpensBL.cons opensB_str (OpensBL.one opensB_str))))).imp (fun _ _ => trivial) (fun _ => Nat.zero_le _)
theorem Yeq : OpensB Tryz.prog 2 (Kd.int .i64) (fun n => (Lit.int .i64 n).wf = true) (fun _ => 0) := OpensB.int Tryz.underlying2 Zi
theorem Yur : OpensB Tryz.prog 4 Kd.bool (fun _ => True) (fun _ => 0) := OpensB.bool Tryz.underlying4 Zi
def mE (x : S32) : Nat := mS x.f1 + (mS x.f2 + (mS x.f3 + (mS x.f4 + (mS x.f5 + ((sumM mS x.f9 + 1) + ((sumM mS x.f11 + 1) + ((sumM mS x.f12 + 1) + (sumM mS x.f13 + 1))))))))
theorem opensB_entry : OpensB Tryz.prog 32 k32 Ysi mE :=
 (OpensB.iso (fun x : S32 => (x.f0, x.f1, x.f2, x.f3, x.f4, x.f5, x.f6, x.f7, x.f8, x.f9, x.f10, x.f11, x.f12, x.f13)) (fun a => ⟨a.1, a.2.1, a.2.2.1, a.2.2.2.1, a.2.2.2.2.1, a.2.2.2.2.2.1, a.2.2.2.2.2.2.1, a.2.2.2.2.2.2.2.1, a.2.2.2.2.2.2.2.2.1, a.2.2.2.2.2.2.2.2.2.1, a.2.2.2.2.2.2.2.2.2.2.1, a.2.2.2.2.2.2.2.2.2.2.2.1, a.2.2.2.2.2.2.2.2.2.2.2.2.1, a.2.2.2.2.2.2.2.2.2.2.2.2.2⟩) (fun _ => rfl)
  (OpensB.struct Tryz.underlying32 Zi Zi (OpensBL.cons opensB_str (OpensBL.cons opensB_str (OpensBL.cons opensB_str (OpensBL.cons opensB_str (OpensBL.cons opensB_str (OpensBL.cons opensB_str (OpensBL.cons Yeq (OpensBL.cons Yur (OpensBL.cons Ypq (OpensBL.cons opensB_strs (OpensBL.cons opensB_strs (OpensBL.cons opensB_strs (OpensBL.cons opensB_strs (OpensBL.one opensB_strs))))))))))))))))
  |>.imp (fun x h => by
   obtain ⟨h0, h1, h2, h3, h4, h5, h6, h7, h8, h9, oI, oW, oL, nA⟩ := h
   refine ⟨h1, h2, h3, h4, h5, fun l hm => ?_⟩
   simp only [List.mem_cons, List.not_mem_nil, or_false] at hm
   rcases hm with rfl | rfl | rfl | rfl | rfl
   ·exact h9.2
   ·exact oI.2
   ·exact oW.2
   ·exact oL.2
   ·exact nA.2) (fun x => by unfold mE; simp only; omega)
theorem opensB_entries : OpensB Tryz.prog 22 (Kd.slice 32 k32) (fun xs => xs.length * Tryz.prog.bytesOf 32 ≤ 140737488351232 ∧ ∀ x ∈ xs, Ysi x) (fun xs => sumM mE xs + 1) := OpensB.slice Tryz.underlying22 Zi opensB_entry
theorem allB_len (l : List Y) : (allB l).length = sumM mS l := by
 induction l with
 | nil => rfl
 | cons s l ih =>
  have : allB (s :: l) = (bytesOf s ++ [0]) ++ allB l := rfl
  rw [this, List.length_append, List.length_append, bytesOf_length, ih]
  rfl
theorem Yyr (m : Y → Nat) (l r : List Y) : sumM m (l ++ r) = sumM m l + sumM m r := by
 induction l with
 | nil => simp [sumM]
 | cons x l ih => simp only [List.cons_append, sumM, ih]; omega
theorem Yph (l : List Y) : l.length ≤ sumM mS l := by
 induction l with
 | nil => simp [sumM]
 | cons x l ih =>
  have : 1 ≤ mS x := Nat.succ_pos _
  simp only [sumM, List.length_cons]; omega
theorem Yyj (n : Nat) : mS (Ydq n) ≤ 21 := by
 have h := Ycf n
 show (Ydq n).size + 1 ≤ 21
 unfold Ydq
 rw [strOfNums_size]
 omega
theorem mE_mem {x : S32} {l : List S32} (h : x ∈ l) : mE x ≤ sumM mE l := by
 induction l with
 | nil => cases h
 | cons y l ih =>
  simp only [sumM]
  rcases List.mem_cons.1 h with rfl | h
  ·omega
  ·have := ih h; omega
theorem all_ok {x : S32} (h : OfOk x) (hm : mE x ≤ 1048576) : Yom x := by
 unfold mE at hm
 refine ⟨h, ?_, fun l hl => ?_⟩
 ·rw [allB_len]
  have c1 := Yyj x.f11.length
  have c2 := Yyj x.f12.length
  have c3 := Yyj x.f13.length
  have c4 := Yyj x.f9.length
  simp only [Yug, Yyr, sumM]
  omega
 ·have h1 := Yph x.f11
  have h2 := Yph x.f12
  have h3 := Yph x.f13
  have h4 := Yph x.f9
  simp only [List.mem_cons, List.not_mem_nil, or_false] at hl
  rcases hl with rfl | rfl | rfl | rfl <;> omega
end Go.Proofs.YtihaeeldgimdiaaGreatDoor.X
end
section
namespace Go.Proofs.YtihaeeldgimdiaaGreatDoor.X
open Go.RowKit Go.Lib Go.Shelf Go.Yw.PrintWords Go.Yw.PrintLast Go.Yw.PrintMore
set_option maxHeartbeats 8000000
set_option maxRecDepth 100000
theorem lists_far (k : Nat) (A B : Option Addr) (c b : Nat) (l : List En) (old : List Y) (w : World) (hE : EnvOk w) (r : Kd.C k32 w A l.length l) (hle : l.length ≤ c) (r2 : Kd.C Kd.string w B old.length old) (tU : old.length ≤ b)
  (hf : Yra.f k l old = some true) :
  Calls Tryz.prog 3 #[.slice A l.length c, .slice B old.length b] w fun e w' => e = .returned (.bool true) ∧ Below w.heap.size w w' := by
 have HE := Ya.mk hE
 have R := Ya.mk r
 have HLE := Ya.mk hle
 have R2 := Ya.mk r2
 have aHD := Ya.mk tU
 have HF := Ya.mk hf
 clear hE r hle r2 tU hf
 go_enter Tryz.func3, Tryz.ntmps3
 go_wp2_with fail
 refine (Yra.calls k A c l B b old true _ HE.out R.out HLE.out R2.out aHD.out HF.out).mono ?_
 rintro e w1 ⟨rfl, hb⟩
 have HB := Ya.mk hb
 clear hb
 go_wp2_with fail
 refine (Yzm _ (HE.out.below HB.out)).mono ?_
 rintro e wa ⟨rfl, hb⟩
 replace HB := Ya.mk (HB.out.trans (hb.mono HB.out.size))
 clear hb
 go_wp2_with fail
 go_ret
 exact ⟨rfl, HB.out⟩
theorem Ylp (old : List Y) (l : List En) (h : ∀ x ∈ l, Yom x) : ∀ z ∈ Yse old l, FewL z := by
 intro z hz
 obtain ⟨x, hx, e⟩ := (young_ok old l).1 z hz
 rw [e]
 exact fun m hm => Nat.le_trans ((h x hx).ok.few5 m hm) Zw
theorem Yxs (k : Nat) (A B : Option Addr) (c b : Nat) (l : List En) (old : List Y) (w : World) (hE : EnvOk w) (r : Kd.C k32 w A l.length l) (hle : l.length ≤ c) (r2 : Kd.C Kd.string w B old.length old) (tU : old.length ≤ b)
  (hf : Yra.f k l old = some false)
  (ho : ∀ x ∈ l, Yom x)
  (hs : ∀ s ∈ old, s.size ≤ 140737488355328)
  (hn : l.length ≤ 20 ∧ old.length ≤ 12000) :
  Calls Tryz.prog 3 #[.slice A l.length c, .slice B old.length b] w fun e w' => e = .returned (.bool true) ∧ Below w.heap.size w w' := by
 have HE := Ya.mk hE
 have R := Ya.mk r
 have HLE := Ya.mk hle
 have R2 := Ya.mk r2
 have aHD := Ya.mk tU
 have HF := Ya.mk hf
 have HO := Ya.mk ho
 have HS := Ya.mk hs
 have HN := Ya.mk hn
 clear hE r hle r2 tU hf ho hs hn
 go_enter Tryz.func3, Tryz.ntmps3
 go_wp2_with fail
 refine (Yra.calls k A c l B b old false _ HE.out R.out HLE.out R2.out aHD.out HF.out).mono ?_
 rintro e w1 ⟨rfl, hb⟩
 have HB := Ya.mk hb
 clear hb
 have HW1 := Ya.mk (Ylp [] l HO.out)
 have HW2 := Ya.mk (Ylp old l HO.out)
 have HV1 := Ya.mk (show (Yse [] l).length ≤ 100000000 by have h1 := Ynk [] l; have h2 : (Yse [] l).length = (Yrj [] l).2.length := rfl; have := HN.out; omega)
 have HV2 := Ya.mk (show (Yse old l).length ≤ 100000000 by have h1 := Ynk old l; have h2 : (Yse old l).length = (Yrj old l).2.length := rfl; have := HN.out; omega)
 have HOO := Ya.mk (fun x hx => (HO.out x hx).ok)
 go_wp2_with fail
 refine (Yil A c l w _ HB.out (HE.out.below HB.out) (ReadsRow.imp_ R.out HB.out (fun _ _ h => h)) HOO.out Zrb).mono ?_
 rintro e wp1 ⟨v, rfl, hr, hb⟩
 obtain ⟨Ap1, cp1, rfl⟩ := Kd.R_slice hr
 have HP1 := Ya.mk hr
 replace HB := Ya.mk (HB.out.trans (hb.mono HB.out.size))
 clear hb hr
 go_wp2_with fail
 refine (Yko A c l w _ HB.out (HE.out.below HB.out) (ReadsRow.imp_ R.out HB.out (fun _ _ h => h)) HO.out Zrb).mono ?_
 rintro e wr1 ⟨v, rfl, hr, hb⟩
 obtain ⟨Ar1, cr1, rfl⟩ := Kd.R_slice hr
 have HQ1 := Ya.mk hr
 replace HP1 := Ya.mk (Kd.R_below HP1.out hb)
 replace HB := Ya.mk (HB.out.trans (hb.mono HB.out.size))
 clear hb hr
 go_wp2_with fail
 refine (Ykm Ap1 Ar1 cp1 cr1 (Yse [] l) w _ HB.out (HE.out.below HB.out) (Kd.R_reads' HP1.out).2.2 (Kd.R_reads' HQ1.out).2.2 HW1.out HV1.out).mono ?_
 rintro e ws1 ⟨rfl, hb⟩
 replace HB := Ya.mk (HB.out.trans (hb.mono HB.out.size))
 clear hb HP1 HQ1
 go_wp2_with fail
 refine (Yhm B A b c old l w _ HB.out (HE.out.below HB.out) (Kd.C_below R2.out HB.out) (ReadsRow.imp_ R.out HB.out (fun _ _ h => h)) HS.out HOO.out Zrb Zrb).mono ?_
 rintro e wp2 ⟨v, rfl, hr, hb⟩
 obtain ⟨Ap2, cp2, rfl⟩ := Kd.R_slice hr
 have HP2 := Ya.mk hr
 replace HB := Ya.mk (HB.out.trans (hb.mono HB.out.size))
 clear hb hr
 go_wp2_with fail
 refine (Ykl B A b c old l w _ HB.out (HE.out.below HB.out) (Kd.C_below R2.out HB.out) (ReadsRow.imp_ R.out HB.out (fun _ _ h => h)) HO.out Zrb Zrb).mono ?_
 rintro e wr2 ⟨v, rfl, hr, hb⟩
 obtain ⟨Ar2, cr2, rfl⟩ := Kd.R_slice hr
 have uB := Ya.mk hr
 replace HP2 := Ya.mk (Kd.R_below HP2.out hb)
 replace HB := Ya.mk (HB.out.trans (hb.mono HB.out.size))
 clear hb hr
 go_wp2_with fail
 refine (Ykm Ap2 Ar2 cp2 cr2 (Yse old l) w _ HB.out (HE.out.below HB.out) (Kd.R_reads' HP2.out).2.2 (Kd.R_reads' uB.out).2.2 HW2.out HV2.out).mono ?_
 rintro e ws2 ⟨rfl, hb⟩
 replace HB := Ya.mk (HB.out.trans (hb.mono HB.out.size))
 clear hb HP2 uB
 go_wp2_with fail
 refine (Yzm _ (HE.out.below HB.out)).mono ?_
 rintro e wa ⟨rfl, hb⟩
 replace HB := Ya.mk (HB.out.trans (hb.mono HB.out.size))
 clear hb
 go_wp2_with fail
 go_ret
 exact ⟨rfl, HB.out⟩
theorem identLists_walk (A : Option Addr) (c : Nat) (l : List En) {w : World} (hC : Kd.C k32 w A l.length l) (hle : l.length ≤ c) (hr : l.length * Tryz.prog.bytesOf 32 ≤ 140737488351232 ∧ ∀ x ∈ l, Ysi x) (hm : sumM mE l + 1 ≤ 1048576)
  (B : Option Addr) (b : Nat) (old : List Y) (hC2 : Kd.C Kd.string w B old.length old) (tU : old.length ≤ b) (hr2 : old.length * Tryz.prog.bytesOf 9 ≤ 140737488351232 ∧ ∀ x ∈ old, x.size ≤ 140737488351232) (pK : sumM mS old + 1 ≤ 1048576) (w1 : World) (hE : EnvOk w) :
  Calls Tryz.prog 3 #[.slice A l.length c, .slice B old.length b] w fun e w' => e = .returned (.bool true) ∧ Below w.heap.size w w' := by
 obtain ⟨bb, ⟨k, hk⟩, hb⟩ := far_f l old hr.2 (by have h1 := Yph old; omega)
 have hf := hk k (Ks _)
 cases bb with
 | true => exact lists_far k A B c b l old w hE hC hle hC2 tU hf
 | false => exact Yxs k A B c b l old w hE hC hle hC2 tU hf (fun x hx => all_ok ((hb rfl).2.2 x hx) (by have := mE_mem hx; omega)) (fun s hs => Nat.le_trans (hr2.2 s hs) Zw) ⟨(hb rfl).1, (hb rfl).2.1⟩
end Go.Proofs.YtihaeeldgimdiaaGreatDoor.X
end
