/- Texts of this seat's proof that belong together. -/
import Derived.Test.YtfmjnmglagdcdaaGreatDoorCHEnv
import Derived.Test.YtfmjnmglagdcdaaGreatDoorCHWords
import Derived.Laws.AppendOwn
import Derived.WalkKit
import Derived.WalkSpells
section
namespace Go.Proofs.YtfmjnmglagdcdaaGreatDoor.X
open Go.RowKit Go.Lib Go.Yw.PrintWords Go.Yw.PrintLast Go.Yw.PrintMore
set_option linter.unusedVariables false
set_option linter.unusedSimpArgs false
structure Ch where
 uid : ByteArray
 name : ByteArray
 l : Nat → List ByteArray
structure Bk where
 made : Int
 l : List Ch
structure ChP where
 cb : Nat
 v : Nat → Value
def OwnTx (w : World) (ok : Nat → Prop) (v : Value) (l : List ByteArray) : Prop :=
 (∀ k, v.ownBlock = some k → ok k) ∧ w.ownsRow 0 9 1 v l.length (l.map Value.string)
structure ChAt (w : World) (M : Nat → Prop) (ow : Nat → Nat × Nat) (p : ChP) (c : Ch) : Prop where
 mem : M p.cb
 blk : w.heap[p.cb]? = some (.cells #[.string c.uid, .string c.name, p.v 0, p.v 1, p.v 2] 62 (0, 0))
 own : ∀ j, j < 3 → OwnTx w (fun k => M k ∧ ow k = (p.cb, j)) (p.v j) (c.l j)
def ptrV (p : ChP) : Value := .pointer (some ⟨p.cb, 0, none⟩)
structure BookO (w : World) (M : Nat → Prop) (bb : Nat) (s : Bk) (sv : Value) (ps : List ChP) (ow : Nat → Nat × Nat) : Prop where
 mem : M bb
 blk : w.heap[bb]? = some (.cells #[.int .i64 s.made, sv] 54 (0, 0))
 okv : ∀ k, sv.ownBlock = some k → M k
 row : w.ownsRow 0 59 1 sv s.l.length (ps.map ptrV)
 len : ps.length = s.l.length
 nodup : (ps.map (·.cb)).Nodup
 chs : ∀ (i : Nat) (p : ChP) (c : Ch), ps[i]? = some p → s.l[i]? = some c → ChAt w M ow p c
def BookAt (w : World) (M : Nat → Prop) (bb : Nat) (s : Bk) : Prop := ∃ sv ps ow, BookO w M bb s sv ps ow
theorem Yx {w : World} {k : Nat} {o : Obj} (h : w.heap[k]? = some o) : k < w.heap.size := (Array.getElem?_eq_some_iff.1 h).1
theorem OwnTx.move {w w1 : World} {ok : Nat → Prop} {v : Value} {l : List ByteArray} (h : OwnTx w ok v l) (hm : ∀ k, ok k → k < w.heap.size → w1.heap[k]? = w.heap[k]?) : OwnTx w1 ok v l :=
 ⟨h.1, Ylc h.2 (fun k hk => by
  obtain ⟨cells, hc⟩ := Yva h.2 k hk
  exact hm k (h.1 k hk) (Yx hc))⟩
theorem ChAt.move {w w1 : World} {M : Nat → Prop} {ow : Nat → Nat × Nat} {p : ChP} {c : Ch} (h : ChAt w M ow p c) (hm : ∀ k, M k → k < w.heap.size → w1.heap[k]? = w.heap[k]?) : ChAt w1 M ow p c :=
 ⟨h.mem, (hm _ h.mem (Yx h.blk)).trans h.blk, fun j hj => (h.own j hj).move (fun k hk => hm k hk.1)⟩
theorem BookO.move {w w1 : World} {M : Nat → Prop} {bb : Nat} {s : Bk} {sv : Value} {ps : List ChP} {ow : Nat → Nat × Nat} (h : BookO w M bb s sv ps ow) (hm : ∀ k, M k → k < w.heap.size → w1.heap[k]? = w.heap[k]?) : BookO w1 M bb s sv ps ow :=
 ⟨h.mem, (hm _ h.mem (Yx h.blk)).trans h.blk, h.okv, Ylc h.row (fun k hk => by
  obtain ⟨cells, hc⟩ := Yva h.row k hk
  exact hm k (h.okv k hk) (Yx hc)), h.len, h.nodup, fun i p c hp hc => (h.chs i p c hp hc).move hm⟩
theorem BookO.below {w w1 : World} {M : Nat → Prop} {bb : Nat} {s : Bk} {sv : Value} {ps : List ChP} {ow : Nat → Nat × Nat} (h : BookO w M bb s sv ps ow) (hb : Below w.heap.size w w1) : BookO w1 M bb s sv ps ow :=
 h.move (fun k _ hk => hb.block k hk)
theorem BookAt.move {w w1 : World} {M : Nat → Prop} {bb : Nat} {s : Bk} (h : BookAt w M bb s) (hm : ∀ k, M k → k < w.heap.size → w1.heap[k]? = w.heap[k]?) : BookAt w1 M bb s := by
 obtain ⟨sv, ps, ow, h⟩ := h
 exact ⟨sv, ps, ow, h.move hm⟩
theorem BookAt.below {w w1 : World} {M : Nat → Prop} {bb : Nat} {s : Bk} (h : BookAt w M bb s) (hb : Below w.heap.size w w1) : BookAt w1 M bb s := h.move (fun k _ hk => hb.block k hk)
def Yoa (l : List Ch) (uid : ByteArray) : Nat := l.findIdx (fun c => c.uid.toList == uid.toList)
theorem BookO.made_cell {w : World} {M : Nat → Prop} {bb : Nat} {s : Bk} {sv : Value} {ps : List ChP} {ow : Nat → Nat × Nat} (h : BookO w M bb s sv ps ow) : w.cell? ⟨bb, 0, none⟩ = some (.int .i64 s.made) := (Yf h.blk 0).trans rfl
theorem BookO.sv_cell {w : World} {M : Nat → Prop} {bb : Nat} {s : Bk} {sv : Value} {ps : List ChP} {ow : Nat → Nat × Nat} (h : BookO w M bb s sv ps ow) : w.cell? ⟨bb, 1, none⟩ = some sv := (Yf h.blk 1).trans rfl
theorem Yvd {w : World} {e : Nat} {v : Value} {n : Nat} {xs : List Value} (h : w.ownsRow 0 e 1 v n xs) (hn : 0 < n) :
  ∃ g cap, v = .slice (some ⟨g, 0, none⟩) n cap ∧ n ≤ cap ∧ (∀ i x, xs[i]? = some x → w.cell? ⟨g, i, none⟩ = some x) ∧ v.ownBlock = some g := by
 rcases h with ⟨hl, ⟨_, h0⟩ | ⟨g, cap, cur, rfl, _, hh, hc, _, hs, ht⟩⟩
 ·omega
 ·refine ⟨g, cap, rfl, hc, fun i x hx => ?_, rfl⟩
  rw [Yf hh i, ← Array.getElem?_toList]
  rw [Nat.mul_one] at ht
  have hi : i < n := by
   have := (List.getElem?_eq_some_iff.1 hx).1
   omega
  rw [← ht, List.getElem?_take, if_pos hi] at hx
  exact hx
theorem Yeb {w : World} {e : Nat} {v : Value} {n : Nat} {xs : List Value} (h : w.ownsRow 0 e 1 v n xs) : ∃ A cap, v = .slice A n cap ∧ n ≤ cap := by
 rcases h with ⟨hl, ⟨rfl, rfl⟩ | ⟨g, cap, cur, rfl, _, hh, hc, _, hs, ht⟩⟩
 ·exact ⟨none, 0, rfl, Nat.le_refl _⟩
 ·exact ⟨_, _, rfl, hc⟩
end Go.Proofs.YtfmjnmglagdcdaaGreatDoor.X
end
section
section
namespace Go.Proofs.YtfmjnmglagdcdaaGreatDoor.X
open Go.RowKit Go.Lib Go.Yw.PrintWords Go.Yw.PrintLast Go.Yw.PrintMore
set_option linter.unusedVariables false
set_option linter.unusedSimpArgs false
def chV (ps : List ChP) (i : Nat) : Value := match ps[i]? with | some p => ptrV p | none => .pointer none
def Ymi (s : Bk) (ps : List ChP) (uid : ByteArray) : Value := if Yoa s.l uid < s.l.length then chV ps (Yoa s.l uid) else .pointer none
def Yyh (s : Bk) (uid : ByteArray) : Int := if Yoa s.l uid < s.l.length then 0 else 6
theorem Ydi {w : World} {M : Nat → Prop} {bb : Nat} {s : Bk} {sv : Value} {ps : List ChP} {ow : Nat → Nat × Nat} (h : BookO w M bb s sv ps ow) (hn : 0 < s.l.length) :
  Calls Tryz.prog 33 #[.pointer (some ⟨bb, 0, none⟩)] w fun e w' => e = .returned (.bool true) ∧ w = w' := by
 obtain ⟨g, cap, rfl, hcap, hcell, _⟩ := Yvd h.row hn
 have hc1 := h.sv_cell
 have hd : decide ((0 : Int) < (s.l.length : Int)) = true := decide_eq_true Zk
 have hd2 : decide (0 < s.l.length) = true := decide_eq_true hn
 have hd3 : decide ((s.l.length : Int) > 0) = true := decide_eq_true Zk
 clear h hcell hn
 go_enter Tryz.func33, Tryz.ntmps33
 go_wp2
 go_ret
 exact ⟨rfl, rfl⟩
theorem where_at {l : List Ch} {uid : ByteArray} {k : Nat} (hno : ∀ i c, i < k → l[i]? = some c → (c.uid.toList == uid.toList) = false) (c : Ch) (hc : l[k]? = some c) (he : (c.uid.toList == uid.toList) = true) : Yoa l uid = k ∧ k < l.length := by
 obtain ⟨hlt, hg⟩ := List.getElem?_eq_some_iff.1 hc
 refine ⟨?_, hlt⟩
 unfold Yoa
 rw [List.findIdx_eq hlt]
 exact ⟨by rw [hg]; exact he, fun j hj => hno j l[j] hj (List.getElem?_eq_getElem Zk)⟩
theorem Yip {l : List Ch} {uid : ByteArray} (hno : ∀ i c, i < l.length → l[i]? = some c → (c.uid.toList == uid.toList) = false) : ¬ Yoa l uid < l.length := by
 unfold Yoa
 rw [List.findIdx_eq_length.2 (fun x hx => by
  obtain ⟨i, hi, e⟩ := List.mem_iff_getElem.1 hx
  rw [← e]
  exact hno i l[i] hi (List.getElem?_eq_getElem hi))]
 omega
set_option maxHeartbeats 4000000 in
set_option maxRecDepth 100000 in
theorem Yvk {w : World} {M : Nat → Prop} {bb : Nat} {s : Bk} {sv : Value} {ps : List ChP} {ow : Nat → Nat × Nat} (h : BookO w M bb s sv ps ow) (hn : 0 < s.l.length) (hsz : s.l.length ≤ 1000000) (uid : ByteArray) :
  Calls Tryz.prog 23 #[.pointer (some ⟨bb, 0, none⟩), .string uid] w fun e w' => e = .returned (.tuple #[Ymi s ps uid, .int .i64 (Yyh s uid)]) ∧ w = w' := by
 have hok := Ydi h hn
 have HO := Ya.mk hok
 clear hok
 obtain ⟨g, cap, rfl, hcap, hcell, _⟩ := Yvd h.row hn
 have hc1 := h.sv_cell
 have H := Ya.mk h
 have HC := Ya.mk hcell
 clear h hcell
 go_enter Tryz.func23, Tryz.ntmps23
 go_wp2_with fail
 refine HO.out.mono ?_
 rintro e w1 ⟨rfl, rfl⟩
 go_wp2
 clear hc1
 go_loop [7, 16] (fun _ t16 => ∃ k : Nat, k ≤ s.l.length ∧ t16 = .int .i64 (k : Int) ∧ Ya (∀ i c, i < k → s.l[i]? = some c → (c.uid.toList == uid.toList) = false)) (fun _ t => s.l.length - (RowKit.intOf t).toNat)
 case atStart => exact ⟨0, Nat.zero_le _, rfl, ⟨fun i c h => absurd h (Nat.not_lt_zero _)⟩⟩
 case round =>
  obtain ⟨k, hk, rfl, HN⟩ := hrel
  by_cases hlt : k < s.l.length
  ·obtain ⟨c, hc⟩ : ∃ c, s.l[k]? = some c := ⟨_, List.getElem?_eq_getElem hlt⟩
   obtain ⟨p, hp⟩ : ∃ p, ps[k]? = some p := ⟨_, List.getElem?_eq_getElem (by rw [H.out.len]; exact hlt)⟩
   have hptr : w.cell? ⟨g, k, none⟩ = some (.pointer (some ⟨p.cb, 0, none⟩)) := HC.out k _ (by rw [List.getElem?_map, hp]; rfl)
   have huid : w.cell? ⟨p.cb, 0, none⟩ = some (.string c.uid) := (Yf (H.out.chs k p c hp hc).blk 0).trans rfl
   have HP := Ya.mk hp
   have HCc := Ya.mk hc
   clear hp hc
   cases he : (c.uid.toList == uid.toList) with
   | true =>
    go_wp2
    go_ret2
    obtain ⟨h1, h2⟩ := where_at HN.out c HCc.out he
    have e1 : Ymi s ps uid = .pointer (some ⟨p.cb, 0, none⟩) := by unfold Ymi chV; rw [h1, if_pos h2, HP.out]; rfl
    have e2 : Yyh s uid = 0 := by unfold Yyh; rw [h1, if_pos h2]
    rw [e1, e2]
    exact ⟨rfl, rfl⟩
   | false =>
    have HF := Ya.mk he
    go_wp2
    go_round
    case rel =>
     refine ⟨k + 1, Zk, by go_num, ⟨fun i c2 h1 h2 => ?_⟩⟩
     by_cases e : i = k
     ·subst e; rw [HCc.out] at h2; cases h2; exact HF.out
     ·exact HN.out i c2 Zk h2
    case measure => simp [RowKit.intOf]; omega
  ·obtain rfl : k = s.l.length := by omega
   go_wp2
   go_ret2
   have hno := Yip HN.out
   have e1 : Ymi s ps uid = .pointer none := by unfold Ymi; rw [if_neg hno]
   have e2 : Yyh s uid = 6 := by unfold Yyh; rw [if_neg hno]
   rw [e1, e2]
   exact ⟨rfl, rfl⟩
end Go.Proofs.YtfmjnmglagdcdaaGreatDoor.X
end
section
namespace Go.Proofs.YtfmjnmglagdcdaaGreatDoor.X
open Go.RowKit Go.Lib Go.Yw.PrintWords Go.Yw.PrintLast Go.Yw.PrintMore
set_option linter.unusedVariables false
set_option linter.unusedSimpArgs false
theorem Yri {w : World} {M : Nat → Prop} {bb : Nat} {s : Bk} {sv : Value} {ps : List ChP} {ow : Nat → Nat × Nat} (h : BookO w M bb s sv ps ow) (hsz : s.l.length ≤ 1000000) (uid : ByteArray) (p : ChP) (hi : ps[Yoa s.l uid]? = some p) :
  Calls Tryz.prog 23 #[.pointer (some ⟨bb, 0, none⟩), .string uid] w fun e w' => e = .returned (.tuple #[.pointer (some ⟨p.cb, 0, none⟩), .int .i64 0]) ∧ w = w' := by
 have hlt : Yoa s.l uid < s.l.length := by rw [← h.len]; exact (List.getElem?_eq_some_iff.1 hi).1
 refine (Yvk h Zk hsz uid).mono fun e w' he => ?_
 have e1 : Ymi s ps uid = .pointer (some ⟨p.cb, 0, none⟩) := by unfold Ymi chV; rw [if_pos hlt, hi]; rfl
 have e2 : Yyh s uid = 0 := by unfold Yyh; rw [if_pos hlt]
 rw [e1, e2] at he
 exact he
theorem Ypl {w : World} {M : Nat → Prop} {bb : Nat} {s : Bk} {sv : Value} {ps : List ChP} {ow : Nat → Nat × Nat} (h : BookO w M bb s sv ps ow) (hn : 0 < s.l.length) (hsz : s.l.length ≤ 1000000) (uid : ByteArray) (hi : ¬ Yoa s.l uid < s.l.length) :
  Calls Tryz.prog 23 #[.pointer (some ⟨bb, 0, none⟩), .string uid] w fun e w' => e = .returned (.tuple #[.pointer none, .int .i64 6]) ∧ w = w' := by
 refine (Yvk h hn hsz uid).mono fun e w' he => ?_
 have e1 : Ymi s ps uid = .pointer none := by unfold Ymi; rw [if_neg hi]
 have e2 : Yyh s uid = 6 := by unfold Yyh; rw [if_neg hi]
 rw [e1, e2] at he
 exact he
set_option maxHeartbeats 4000000 in
theorem Ysi {w : World} {M : Nat → Prop} {bb : Nat} {s : Bk} {sv : Value} {ps : List ChP} {ow : Nat → Nat × Nat} (h : BookO w M bb s sv ps ow) (hsz : s.l.length ≤ 1000000) (uid : ByteArray) (p : ChP) (hi : ps[Yoa s.l uid]? = some p) (n : Nat) (hn : n < 3) :
  Calls Tryz.prog 20 #[.pointer (some ⟨bb, 0, none⟩), .string uid, .int .i64 (n : Int)] w fun e w' => e = .returned (.tuple #[.pointer (some ⟨p.cb, 2 + n, none⟩), .int .i64 0]) ∧ w = w' := by
 have HF := Ya.mk (Yri h hsz uid p hi)
 clear h hi
 have h1 : decide ((n : Int) < 0) = false := decide_eq_false Zk
 have h2 : decide ((n : Int) ≥ 3) = false := decide_eq_false Zk
 have h3 : (3 : Int) > (n : Int) := by omega
 go_enter Tryz.func20, Tryz.ntmps20
 go_wp2_with fail
 refine HF.out.mono ?_
 rintro e w1 ⟨rfl, rfl⟩
 go_wp2
 go_ret2
 exact ⟨rfl, rfl⟩
end Go.Proofs.YtfmjnmglagdcdaaGreatDoor.X
end
end
