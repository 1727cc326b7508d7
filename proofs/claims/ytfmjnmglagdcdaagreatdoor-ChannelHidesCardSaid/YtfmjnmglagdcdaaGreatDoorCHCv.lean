/- Texts of this seat's proof that belong together. -/
import Derived.Test.YtfmjnmglagdcdaaGreatDoorCHWords
import Derived.Test.YtfmjnmglagdcdaaGreatDoorCHCd
import Derived.Test.YtfmjnmglagdcdaaGreatDoorCHCe
import Derived.Test.YtfmjnmglagdcdaaGreatDoorCHCq
section
namespace Go.Proofs.YtfmjnmglagdcdaaGreatDoor.X
open Go.RowKit Go.Lib Go.Shelf Go.Yw.PrintWords Go.Yw.PrintLast Go.Yw.PrintMore
set_option linter.unusedVariables false
set_option linter.unusedSimpArgs false
theorem BookAt.tight {w : World} {M : Nat → Prop} {bb : Nat} {s : Bk} (h : BookAt w M bb s) : BookAt w (fun k => M k ∧ k < w.heap.size) bb s := by
 obtain ⟨sv, ps, ow, h⟩ := h
 refine ⟨sv, ps, ow, ⟨h.mem, Yx h.blk⟩, h.blk, fun k hk => ⟨h.okv k hk, ?_⟩, h.row, h.len, h.nodup, fun i p c hp hc => ?_⟩
 ·obtain ⟨cells, h2⟩ := Yva h.row k hk
  exact Yx h2
 ·have h1 := h.chs i p c hp hc
  refine ⟨⟨h1.mem, Yx h1.blk⟩, h1.blk, fun j hj => ⟨fun k hk => ?_, (h1.own j hj).2⟩⟩
  obtain ⟨cells, h2⟩ := Yva (h1.own j hj).2 k hk
  exact ⟨⟨((h1.own j hj).1 k hk).1, Yx h2⟩, ((h1.own j hj).1 k hk).2⟩
def St (wb w : World) (bb : Nat) (s : Bk) (T : Nat → Prop) : Prop := ∃ M, (∀ k, M k → wb.heap.size ≤ k ∧ k < w.heap.size ∧ ¬ T k) ∧ BookAt w M bb s ∧ Below wb.heap.size wb w
def Step (wb w w' : World) (bb : Nat) (s' : Bk) (T : Nat → Prop) : Prop := St wb w' bb s' T ∧ (∀ k, T k → k < w.heap.size → w'.heap[k]? = w.heap[k]?) ∧ w.heap.size ≤ w'.heap.size
theorem St.bel {wb w : World} {bb : Nat} {s : Bk} {T : Nat → Prop} (h : St wb w bb s T) : Below wb.heap.size wb w := by
 obtain ⟨M, _, _, h⟩ := h
 exact h
theorem St.below {wb w w' : World} {bb : Nat} {s : Bk} {T : Nat → Prop} (h : St wb w bb s T) (hb : Below w.heap.size w w') : St wb w' bb s T := by
 obtain ⟨M, hM, hbk, hbel⟩ := h
 exact ⟨M, fun k hk => ⟨(hM k hk).1, Nat.lt_of_lt_of_le (hM k hk).2.1 hb.size, (hM k hk).2.2⟩, hbk.below hb, hbel.trans (hb.mono hbel.size)⟩
theorem St.alloc {wb w : World} {bb : Nat} {s : Bk} {T : Nat → Prop} (h : St wb w bb s T) (o : Obj) : St wb (w.alloc o) bb s (fun k => T k ∨ k = w.heap.size) := by
 obtain ⟨M, hM, hbk, hbel⟩ := h
 have hb := (Below.refl w.heap.size w).alloc (Nat.le_refl _) o
 refine ⟨M, fun k hk => ⟨(hM k hk).1, Nat.lt_of_lt_of_le (hM k hk).2.1 hb.size, fun h2 => ?_⟩, hbk.below hb, hbel.trans (hb.mono hbel.size)⟩
 rcases h2 with h2 | h2
 ·exact (hM k hk).2.2 h2
 ·have := (hM k hk).2.1
  omega
theorem St.weak {wb w : World} {bb : Nat} {s : Bk} {T T' : Nat → Prop} (h : St wb w bb s T) (hT : ∀ k, T' k → T k) : St wb w bb s T' := by
 obtain ⟨M, hM, r⟩ := h
 exact ⟨M, fun k hk => ⟨(hM k hk).1, (hM k hk).2.1, fun ht => (hM k hk).2.2 (hT k ht)⟩, r⟩
theorem Yzk {w : World} {base e size : Nat} {v : Value} {n : Nat} {xs : List Value} (h : w.ownsRow base e size v n xs) (hn : 0 < n) : ∃ g cap, v = .slice (some ⟨g, 0, none⟩) n cap ∧ n ≤ cap ∧ ∀ (i : Nat) (x : Value), xs[i]? = some x → w.cell? ⟨g, i, none⟩ = some x := by
 rcases h with ⟨hl, ⟨_, h0⟩ | ⟨g, cap, cur, rfl, _, hh, hc, _, hs, ht⟩⟩
 ·omega
 ·refine ⟨g, cap, rfl, hc, fun i x hx => ?_⟩
  rw [Yf hh i, ← Array.getElem?_toList]
  have hi : i < n * size := by
   have := (List.getElem?_eq_some_iff.1 hx).1
   omega
  rw [← ht, List.getElem?_take, if_pos hi] at hx
  exact hx
theorem Then.step {wb w w' : World} {M : Nat → Prop} {bb : Nat} {s s' : Bk} {T : Nat → Prop} (hM : ∀ k, M k → wb.heap.size ≤ k ∧ k < w.heap.size ∧ ¬ T k) (hbel : Below wb.heap.size wb w) (hT : ∀ k, T k → k < w.heap.size) (h : Then w M bb s' w') : Step wb w w' bb s' T := by
 obtain ⟨M', h1, h2, h3, h4⟩ := h
 refine ⟨⟨fun k => M' k ∧ k < w'.heap.size, fun k hk => ⟨?_, hk.2, fun ht => ?_⟩, h2.tight, hbel.trans (h4 _ (fun k hk => (hM k hk).1) hbel.size)⟩, fun k ht hk => h3.2 k hk (fun hm => (hM k hm).2.2 ht), h3.1⟩
 ·rcases h1 k hk.1 with h5 | h5
  ·exact (hM k h5).1
  ·exact Nat.le_trans hbel.size h5
 ·rcases h1 k hk.1 with h5 | h5
  ·exact (hM k h5).2.2 ht
  ·have := hT k ht
   omega
section
variable {wb w : World} {bb : Nat} {s : Bk} {T : Nat → Prop}
theorem ps_at {w : World} {M : Nat → Prop} {bb : Nat} {s : Bk} {sv : Value} {ps : List ChP} {ow : Nat → Nat × Nat} (h : BookO w M bb s sv ps ow) {i : Nat} {c : Ch} (hc : s.l[i]? = some c) : ∃ p, ps[i]? = some p :=
 ⟨_, List.getElem?_eq_getElem (by rw [h.len]; exact (List.getElem?_eq_some_iff.1 hc).1)⟩
theorem St.new (hbel : Below wb.heap.size wb w) (hT : ∀ k, T k → k < w.heap.size) : Calls Tryz.prog 7 #[] w fun e w' => ∃ bb, e = .returned (.pointer (some ⟨bb, 0, none⟩)) ∧ St wb w' bb newBk T ∧ Below w.heap.size w w' :=
 (new_calls w).mono fun e w' ⟨bb, he, hb, hbw⟩ => ⟨bb, he, ⟨_, fun k hk => ⟨Nat.le_trans hbel.size hk.1, hk.2, fun ht => by
  have h1 := hT k ht
  have h2 : w.heap.size ≤ k := hk.1
  omega⟩, hb.tight, hbel.trans (hbw.mono hbel.size)⟩, hbw⟩
theorem St.add (h : St wb w bb s T) (hE : EnvOk wb) (hT : ∀ k, T k → k < w.heap.size) (hsz : s.l.length ≤ 1000000) (uid : ByteArray) (c : Ch) (hc : s.l[Yoa s.l uid]? = some c) (n : Nat) (hn : n < 3) (hl : (c.l n).length ≤ 64) (u : ByteArray) (hu : u.size ≤ 1000000000) :
  Calls Tryz.prog 8 #[.pointer (some ⟨bb, 0, none⟩), .string uid, .int .i64 (n : Int), .string u] w fun e w' => e = .returned (.int .i64 (addR s (Yoa s.l uid) c n u).1) ∧ Step wb w w' bb (addR s (Yoa s.l uid) c n u).2 T := by
 obtain ⟨M, hM, ⟨sv, ps, ow, hb⟩, hbel⟩ := h
 obtain ⟨p, hp⟩ := ps_at hb hc
 exact (add_calls hb (hE.below hbel) hsz uid p c hp hc n hn hl u hu).mono fun e w' ⟨he, ht⟩ => ⟨he, ht.step (s := s) hM hbel hT⟩
theorem St.drop (h : St wb w bb s T) (hE : EnvOk wb) (hT : ∀ k, T k → k < w.heap.size) (hsz : s.l.length ≤ 1000000) (uid : ByteArray) (c : Ch) (hc : s.l[Yoa s.l uid]? = some c) (n : Nat) (hn : n < 3) (hl : (c.l n).length ≤ 64) (u : ByteArray) (hu : u.size ≤ 1000000000) :
  Calls Tryz.prog 10 #[.pointer (some ⟨bb, 0, none⟩), .string uid, .int .i64 (n : Int), .string u] w fun e w' => e = .returned (.int .i64 (Yeh s (Yoa s.l uid) c n u).1) ∧ Step wb w w' bb (Yeh s (Yoa s.l uid) c n u).2 T := by
 obtain ⟨M, hM, ⟨sv, ps, ow, hb⟩, hbel⟩ := h
 obtain ⟨p, hp⟩ := ps_at hb hc
 exact (Yyo hb (hE.below hbel) hsz uid p c hp hc n hn hl u hu).mono fun e w' ⟨he, ht⟩ => ⟨he, ht.step (s := s) hM hbel hT⟩
theorem St.create (h : St wb w bb s T) (hE : EnvOk wb) (hT : ∀ k, T k → k < w.heap.size) (hsz : s.l.length ≤ 32) (hn0 : 0 < s.l.length) (hm0 : 0 ≤ s.made) (hm1 : s.made ≤ 2147483647) (name : ByteArray) (nb : Bool) (k : Nat) (hnb : Yhc.f k name = some nb) :
  Calls Tryz.prog 18 #[.pointer (some ⟨bb, 0, none⟩), .string name] w fun e w' => e = .returned (.tuple #[.string (Ygd s nb name).1, .int .i64 (Ygd s nb name).2.1]) ∧ Step wb w w' bb (Ygd s nb name).2.2 T := by
 obtain ⟨M, hM, ⟨sv, ps, ow, hb⟩, hbel⟩ := h
 exact (Yim hb hE hbel (fun k hk => (hM k hk).1) hsz hn0 hm0 hm1 name nb k hnb).mono fun e w' ⟨he, ht⟩ => ⟨he, ht.step (s := s) hM hbel hT⟩
theorem St.order (h : St wb w bb s T) (hT : ∀ k, T k → k < w.heap.size) (hsz : s.l.length ≤ 1000) (hn0 : 0 < s.l.length) (A : Option Addr) (cap : Nat) (us : List ByteArray) (hus : TextsAt w A cap us) (hul : us.length ≤ 100000) (hcap : cap ≤ 9223372036854775807) :
  Calls Tryz.prog 19 #[.pointer (some ⟨bb, 0, none⟩), .slice A us.length cap] w fun e w' => e = .returned (.int .i64 (Yqf s us).1) ∧ Step wb w w' bb (Yqf s us).2 T := by
 obtain ⟨M, hM, ⟨sv, ps, ow, hb⟩, hbel⟩ := h
 exact (Ygo hb hsz hn0 A cap us hus hul hcap).mono fun e w' ⟨he, ht⟩ => ⟨he, ht.step (s := s) hM hbel hT⟩
theorem St.all (h : St wb w bb s T) (hsz : s.l.length ≤ 1000000) (hn0 : 0 < s.l.length) : Calls Tryz.prog 15 #[.pointer (some ⟨bb, 0, none⟩)] w fun e w' => AllPost w s.l e w' := by
 obtain ⟨M, hM, ⟨sv, ps, ow, hb⟩, hbel⟩ := h
 exact all_calls hb hsz hn0
theorem St.list (h : St wb w bb s T) (hsz : s.l.length ≤ 1000000) (uid : ByteArray) (c : Ch) (hc : s.l[Yoa s.l uid]? = some c) (n : Nat) (hn : n < 3) (hl : (c.l n).length ≤ 64) :
  Calls Tryz.prog 11 #[.pointer (some ⟨bb, 0, none⟩), .string uid, .int .i64 (n : Int)] w fun e w' => Yxh w (c.l n) e w' := by
 obtain ⟨M, hM, ⟨sv, ps, ow, hb⟩, hbel⟩ := h
 obtain ⟨p, hp⟩ := ps_at hb hc
 exact Ypn hb hsz uid p c hp hc n hn hl
theorem St.hides (h : St wb w bb s T) (hE : EnvOk wb) (hsz : s.l.length ≤ 1000000) (uid : ByteArray) (c : Ch) (hc : s.l[Yoa s.l uid]? = some c)
  (hl : ∀ n, n < 3 → (c.l n).length ≤ 64 ∧ ∀ x ∈ c.l n, x.size ≤ 1000000000) (es : Array Value) (u : ByteArray) (hu : u.size ≤ 1000000000) (he : es[9]? = some (.string u)) :
  Calls Tryz.prog 9 #[.pointer (some ⟨bb, 0, none⟩), .string uid, .agg es] w fun e w' => e = .returned (.bool (hidB c u)) ∧ Below w.heap.size w w' := by
 obtain ⟨M, hM, ⟨sv, ps, ow, hb⟩, hbel⟩ := h
 obtain ⟨p, hp⟩ := ps_at hb hc
 exact Yan hb (hE.below hbel) hsz uid p c hp hc hl es u hu he
theorem St.hides_no (h : St wb w bb s T) (hn0 : 0 < s.l.length) (hsz : s.l.length ≤ 1000000) (uid : ByteArray) (hi : ¬ Yoa s.l uid < s.l.length) (es : Array Value) :
  Calls Tryz.prog 9 #[.pointer (some ⟨bb, 0, none⟩), .string uid, .agg es] w fun e w' => e = .returned (.bool false) ∧ Below w.heap.size w w' := by
 obtain ⟨M, hM, ⟨sv, ps, ow, hb⟩, hbel⟩ := h
 exact Ypp hb hn0 hsz uid hi es
end
end Go.Proofs.YtfmjnmglagdcdaaGreatDoor.X
end
section
namespace Go.Proofs.YtfmjnmglagdcdaaGreatDoor.X
open Go.RowKit Go.Lib Go.Shelf Go.Yw.PrintWords Go.Yw.PrintLast Go.Yw.PrintMore
set_option linter.unusedVariables false
set_option linter.unusedSimpArgs false
def bA : ByteArray := ⟨#[65]⟩
def bc1 : ByteArray := ⟨#[99, 49]⟩
def urlAB : ByteArray := ⟨#[104, 116, 116, 112, 58, 47, 47, 97, 46, 98]⟩
def urlAB2 : ByteArray := ⟨#[104, 116, 116, 112, 58, 47, 47, 65, 46, 98, 47]⟩
def keyAB : ByteArray := ⟨#[104, 116, 116, 112, 58, 47, 47, 97, 46, 98, 47]⟩
theorem Yon : Yhc.f 20 bA = some true := by kernel_rfl
def noL : Nat → List ByteArray := fun _ => []
def s1 : Bk := { made := 1, l := [⟨Yhb, Yhb, noL⟩, ⟨bc1, bA, noL⟩] }
def s2 : Bk := { made := 1, l := [⟨bc1, bA, noL⟩, ⟨Yhb, Yhb, noL⟩] }
theorem create_1 : Ygd newBk true bA = (bc1, 0, s1) := by kernel_rfl
theorem create_2 : Ygd s1 true bA = (⟨#[]⟩, 7, s1) := by kernel_rfl
theorem order_1 : Yqf s1 [bc1] = (0, s2) := by kernel_rfl
theorem where_2 : Yoa s2.l bc1 = 0 := by kernel_rfl
def c2 : Ch := ⟨bc1, bA, noL⟩
def c3 : Ch := c2.setL 1 [keyAB]
def s3 : Bk := s2.setL 0 1 [keyAB]
theorem add_1 : addR s2 0 c2 1 urlAB = (0, s3) := by kernel_rfl
theorem where_3 : Yoa s3.l bc1 = 0 := by kernel_rfl
theorem hid_3 : hidB c3 urlAB2 = true := by kernel_rfl
theorem info_3 : infoL s3.l = [.string bc1, .string bA, .string Yhb, .string Yhb] := by kernel_rfl
set_option maxHeartbeats 8000000 in
set_option maxRecDepth 100000 in
theorem Ykf (w : World) (hE : EnvOk w) : Calls Tryz.prog 6 #[] w fun e w' => e = .returned (.bool true) ∧ Below w.heap.size w w' := by
 have HE := Ya.mk hE
 clear hE
 go_enter Tryz.func6, Tryz.ntmps6
 go_wp2_with fail
 refine (St.new (wb := w) (T := fun _ => False) (Below.refl _ _) (fun k h => h.elim)).mono ?_
 rintro e w1 ⟨bb, rfl, hst, _⟩
 have HS := Ya.mk hst
 clear hst
 go_wp2_with fail
 refine (St.create HS.out HE.out (fun k h => h.elim) Zq Zq Zq Zq bA true 20 Yon).mono ?_
 rw [create_1]
 rintro e w2 ⟨rfl, hst, _⟩
 replace HS := Ya.mk hst
 clear hst
 go_wp2_with fail
 refine (St.create HS.out HE.out (fun k h => h.elim) Zq Zq Zq Zq bA true 20 Yon).mono ?_
 rw [create_2]
 rintro e w3 ⟨rfl, hst, _⟩
 replace HS := Ya.mk hst
 clear hst
 have hq1 : (bc1.toList == ([99, 49] : List UInt8)) = true := by kernel_rfl
 go_wp2_with fail
 clear hq1
 refine (St.order (us := [bc1]) (HS.out.alloc (.cells #[.string bc1] 9)) (fun k h => h.elim False.elim (fun h => by rw [Yz]; omega)) Zq Zq (some ⟨w3.heap.size, 0, none⟩) 1 ⟨Nat.le_refl _, fun i x hx => ⟨_, 0, rfl, by
  rw [Nat.zero_add, Yf (heap_alloc_new w3 _)]
  cases i with
  | zero => obtain rfl := Option.some.inj hx; rfl
  | succ i => simp at hx⟩⟩ Zq Zq).mono ?_
 rw [order_1]
 rintro e w4 ⟨rfl, hst, _⟩
 replace HS := Ya.mk (hst.weak (T' := fun _ => False) (fun k h => h.elim))
 clear hst
 go_wp2_with fail
 refine (St.add HS.out HE.out (fun k h => h.elim) Zq bc1 c2 (by rw [where_2]; rfl) 1 Zq Zq urlAB Zq).mono ?_
 rw [where_2, add_1]
 rintro e w5 ⟨rfl, hst, _⟩
 replace HS := Ya.mk hst
 clear hst
 go_wp2_with fail
 refine (St.all HS.out Zq Zq).mono ?_
 rintro e w6 ⟨A, cap, rfl, ho, hb⟩
 replace HS := Ya.mk (HS.out.below hb)
 obtain ⟨g, cap2, hv, hcap, hcell⟩ := Yzk ho Zq
 have hc0 := hcell 0 (.string bc1) (by rw [info_3]; rfl)
 injection hv with hv1 hv2 hv3
 subst hv1 hv3
 have hq1 : (bc1.toList == ([99, 49] : List UInt8)) = true := by kernel_rfl
 have e2 : s3.l.length = 2 := rfl
 rw [e2]
 rw [e2] at hcap
 clear ho hb hcell e2 hv2
 go_wp2_with fail
 clear hc0 hq1
 refine (St.hides HS.out HE.out Zq bc1 c3 (by rw [where_3]; rfl) (fun n hn => by rcases (show n = 0 ∨ n = 1 ∨ n = 2 by omega) with rfl | rfl | rfl <;> exact ⟨Zq, Zq⟩) _ urlAB2 Zq Zja).mono ?_
 rw [hid_3]
 rintro e w7 ⟨rfl, hb⟩
 have HB := Ya.mk (HS.out.bel.trans (hb.mono HS.out.bel.size))
 clear hb
 go_wp2
 go_ret
 exact ⟨rfl, HB.out⟩
end Go.Proofs.YtfmjnmglagdcdaaGreatDoor.X
end
