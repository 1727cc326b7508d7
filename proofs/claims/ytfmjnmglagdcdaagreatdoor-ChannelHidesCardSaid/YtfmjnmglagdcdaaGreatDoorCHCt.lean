/- Add and Drop: what a call of each does to a book. -/
import Derived.Test.YtfmjnmglagdcdaaGreatDoorCHWords
import Derived.Test.YtfmjnmglagdcdaaGreatDoorCHCa
import Derived.Test.YtfmjnmglagdcdaaGreatDoorCHCs
import Derived.Test.YtfmjnmglagdcdaaGreatDoorCHCk
import Derived.Test.YtfmjnmglagdcdaaGreatDoorCHCl
namespace Go.Proofs.YtfmjnmglagdcdaaGreatDoor.X
open Go.RowKit Go.Lib Go.Shelf Go.Yw.PrintWords Go.Yw.PrintLast Go.Yw.PrintMore
set_option linter.unusedVariables false
set_option linter.unusedSimpArgs false
def Then (w : World) (M : Nat → Prop) (bb : Nat) (s' : Bk) (w' : World) : Prop := ∃ M', (∀ k, M' k → M k ∨ w.heap.size ≤ k) ∧ BookAt w' M' bb s' ∧ Kept w w' M ∧ ∀ B, (∀ k, M k → B ≤ k) → B ≤ w.heap.size → Below B w w'
theorem Then.of_below {w w' : World} {M : Nat → Prop} {bb : Nat} {s : Bk} (h : BookAt w M bb s) (hb : Below w.heap.size w w') : Then w M bb s w' := ⟨M, fun k hk => .inl hk, h.below hb, Kept.of_below hb M, fun B _ hB => hb.mono hB⟩
def addR (s : Bk) (i : Nat) (c : Ch) (n : Nat) (u : ByteArray) : Int × Bk :=
 if (keyP u).2 ≠ 0 then ((keyP u).2, s) else if Lib.containsS (c.l n) (keyP u).1 = true then (0, s) else if (c.l n).length = 64 then (5, s) else (0, s.setL i n (c.l n ++ [(keyP u).1]))
theorem Ymg {w : World} {M : Nat → Prop} {ow : Nat → Nat × Nat} {p : ChP} {c : Ch} (h : ChAt w M ow p c) (n : Nat) (hn : n < 3) : w.cell? ⟨p.cb, 2 + n, none⟩ = some (p.v n) := (Yf h.blk (2 + n)).trans (Yqh c p n hn)
theorem Ycd (w : World) (p : Addr) (v : Value) : (w.setCell p v).heap.size = w.heap.size := by simp [World.setCell]
def AddPost (w : World) (M : Nat → Prop) (bb : Nat) (r : Int × Bk) (e : Ending) (w' : World) : Prop := e = .returned (.int .i64 r.1) ∧ Then w M bb r.2 w'
set_option maxHeartbeats 4000000 in
set_option maxRecDepth 100000 in
theorem add_calls {w : World} {M : Nat → Prop} {bb : Nat} {s : Bk} {sv : Value} {ps : List ChP} {ow : Nat → Nat × Nat} (h : BookO w M bb s sv ps ow) (hE : EnvOk w) (hsz : s.l.length ≤ 1000000) (uid : ByteArray) (p : ChP) (c : Ch) (hp : ps[Yoa s.l uid]? = some p) (hc : s.l[Yoa s.l uid]? = some c)
  (n : Nat) (hn : n < 3) (hl : (c.l n).length ≤ 64) (u : ByteArray) (hu : u.size ≤ 1000000000) :
  Calls Tryz.prog 8 #[.pointer (some ⟨bb, 0, none⟩), .string uid, .int .i64 (n : Int), .string u] w fun e w' => AddPost w M bb (addR s (Yoa s.l uid) c n u) e w' := by
 have HL := Ya.mk (Ysi h hsz uid p hp n hn)
 have H := Ya.mk h
 have HE := Ya.mk hE
 have HP := Ya.mk hp
 have HC := Ya.mk hc
 have HU := Ya.mk hu
 have HN := Ya.mk (And.intro hn hl)
 clear h hE hp hc hu hn hl hsz
 go_enter Tryz.func8, Tryz.ntmps8
 go_wp2_with fail
 refine HL.out.mono ?_
 rintro e w0 ⟨rfl, rfl⟩
 go_wp2_with fail
 refine (Yol u HU.out w HE.out).mono ?_
 rintro e w1 ⟨rfl, hb⟩
 have HB := Ya.mk hb
 have H1 := Ya.mk (H.out.below hb)
 clear hb
 by_cases hk : (keyP u).2 = 0
 ·have d1 : ((keyP u).2 != 0) = false := by rw [hk]; rfl
  have HK := Ya.mk hk
  have hch := H1.out.chs _ p c HP.out HC.out
  have hcell := Ymg hch n HN.out.1
  have HCH := Ya.mk hch
  obtain ⟨A, cap, hv, hcap⟩ := Yeb (hch.own n HN.out.1).2
  rw [hv] at hcell
  have HV := Ya.mk hv
  clear hch hv hk
  go_wp2_with fail
  have hcs := Yrn (HCH.out.own n HN.out.1) (Nat.le_trans HN.out.2 Zq) (keyP u).1
  rw [HV.out] at hcs
  refine hcs.mono ?_
  clear hcs
  rintro e w2 ⟨rfl, rfl⟩
  cases hct : Lib.containsS (c.l n) (keyP u).1 with
  | true =>
   have HCT := Ya.mk hct
   clear hct
   go_wp2
   go_ret
   have e1 : addR s (Yoa s.l uid) c n u = (0, s) := by unfold addR; rw [if_neg (fun h => h HK.out), if_pos HCT.out]
   rw [e1]
   exact ⟨rfl, Then.of_below ⟨_, _, _, H.out⟩ HB.out⟩
  | false =>
   have HCT := Ya.mk hct
   clear hct
   by_cases hl64 : (c.l n).length = 64
   ·have d2 : (((c.l n).length : Int) == 64) = true := by rw [hl64]; rfl
    have HL6 := Ya.mk hl64
    clear hl64
    go_wp2
    go_ret
    have e1 : addR s (Yoa s.l uid) c n u = (5, s) := by unfold addR; rw [if_neg (fun h => h HK.out), if_neg (by rw [HCT.out]; decide), if_pos HL6.out]
    rw [e1]
    exact ⟨rfl, Then.of_below ⟨_, _, _, H.out⟩ HB.out⟩
   ·have d2 : (((c.l n).length : Int) == 64) = false := beq_eq_false_iff_ne.2 Zk
    have HL6 := Ya.mk hl64
    clear hl64
    have hown := (HCH.out.own n HN.out.1).2
    rw [HV.out] at hown
    have HO := Ya.mk hown
    clear hown
    have HSZ := Ya.mk (show (c.l n).length ≤ 1000000 from Nat.le_trans HN.out.2 Zq)
    have HK2 := Ya.mk HK.out
    go_wp2_with (at_builtin; refine app_one rfl (.tmp 46) (.tmp 48) 28 9 (.string ByteArray.empty) 16 rfl Tryz.underlying28 Zg rfl (.slice A (c.l n).length cap) (c.l n).length ((c.l n).map Value.string) (.string (keyP u).1) rfl rfl rfl HO.out HSZ.out Zq ?_; intro v1 w3 hown1 hg1 hat1; obtain ⟨A1, cap1, rfl, hcap1⟩ := Yeb hown1; have HO1 := Ya.mk hown1; have HG1 := Ya.mk hg1; have HA1 := Ya.mk hat1; clear hown1 hg1 hat1; have hblk3 : w3.heap[p.cb]? = some (.cells (Yzg c p) 62 (0, 0)) := (HG1.out.block p.cb (Yx HCH.out.blk) (by rw [← HV.out]; intro he; obtain ⟨cells, h2⟩ := Yva (HCH.out.own n HN.out.1).2 p.cb he.symm; rw [HCH.out.blk] at h2; injection h2 with h2; injection h2 with _ h2 _; exact absurd h2 Zq)).trans HCH.out.blk; have HB3 := Ya.mk hblk3; have hcell3 := (Yf hblk3 (2 + n)).trans ((Yqh c p n HN.out.1).trans (congrArg some HV.out)); have hfz3 := Yc hblk3 (2 + n); clear hblk3 hcell)
    go_ret
    have hw3 : w1.heap.size ≤ w3.heap.size := HG1.out.size
    have hz1 := HB.out.size
    have e1 : addR s (Yoa s.l uid) c n u = (0, s.setL (Yoa s.l uid) n (c.l n ++ [(keyP u).1])) := by unfold addR; rw [if_neg (fun h => h HK.out), if_neg (by rw [HCT.out]; decide), if_neg HL6.out]
    rw [e1]
    have hlen : (c.l n ++ [(keyP u).1]).length = (c.l n).length + 1 := by rw [List.length_append]; rfl
    have hset : ∀ k, k ≠ p.cb → (w3.setCell ⟨p.cb, 2 + n, none⟩ (.slice A1 ((c.l n).length + 1) cap1)).heap[k]? = w3.heap[k]? := fun k hk => Below.heap_setCell w3 ⟨p.cb, 2 + n, none⟩ _ k hk
    have hown : ∀ k, (Value.slice A (c.l n).length cap).ownBlock = some k → M k ∧ k < w1.heap.size := fun k hk => by
     rw [← HV.out] at hk
     obtain ⟨cells, h2⟩ := Yva (HCH.out.own n HN.out.1).2 k hk
     exact ⟨((HCH.out.own n HN.out.1).1 k hk).1, Yx h2⟩
    have hnew : ∀ k, (Value.slice A1 ((c.l n).length + 1) cap1).ownBlock = some k → k ≠ p.cb := by
     intro k hk e
     obtain ⟨cells, h2⟩ := Yva HO1.out k hk
     rw [e, HB3.out] at h2
     injection h2 with h2
     injection h2 with _ h2 _
     exact absurd h2 Zq
    have hturn := BookO.turned (w3 := w3.setCell ⟨p.cb, 2 + n, none⟩ (.slice A1 ((c.l n).length + 1) cap1)) H1.out HP.out HC.out HN.out.1 (v := .slice A1 ((c.l n).length + 1) cap1) (l := c.l n ++ [(keyP u).1])
     (Yfd HB3.out (2 + n) _ (Ywi c p n HN.out.1 _ _))
     (Ylc (by rw [List.map_append, hlen]; exact HO1.out) (fun k hk => hset k (hnew k hk)))
     (by rw [HV.out]; exact HA1.out)
     (fun k hk h1 h2 => (hset k h1).trans (HG1.out.block k hk (by rw [← HV.out]; exact h2)))
    refine ⟨rfl, _, fun k hk => ?_, ⟨_, _, _, hturn⟩, ?_, fun B hM hB => (below_grown (HB.out.mono hB) HG1.out (fun k hk => hM k (hown k hk).1) Zk).setCell (p := ⟨p.cb, 2 + n, none⟩) (hM p.cb HCH.out.mem) _⟩
    ·rcases hk with hk | hk
     ·exact .inl hk
     ·exact .inr Zk
    ·refine ⟨by rw [Ycd]; omega, fun k hk hm => ?_⟩
     rw [hset k (fun e => hm (e ▸ HCH.out.mem)), HG1.out.block k Zk (fun e => hm (hown k e.symm).1)]
     exact HB.out.block k hk
 ·have d1 : ((keyP u).2 != 0) = true := bne_iff_ne.2 hk
  have HK := Ya.mk hk
  clear hk
  go_wp2
  go_ret
  have e1 : addR s (Yoa s.l uid) c n u = ((keyP u).2, s) := by unfold addR; rw [if_pos HK.out]
  rw [e1]
  exact ⟨rfl, Then.of_below ⟨_, _, _, H.out⟩ HB.out⟩
end Go.Proofs.YtfmjnmglagdcdaaGreatDoor.X
