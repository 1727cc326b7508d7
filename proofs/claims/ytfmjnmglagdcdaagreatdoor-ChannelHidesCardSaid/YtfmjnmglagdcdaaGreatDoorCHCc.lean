/- Create: what a call of it does. -/
import Derived.Test.YtfmjnmglagdcdaaGreatDoorCHWords
import Derived.Test.YtfmjnmglagdcdaaGreatDoorCHCh
import Derived.Test.YtfmjnmglagdcdaaGreatDoorCHX4
import Derived.Deep.QuietTactic
import Derived.BigQuiet
namespace Go.Proofs.YtfmjnmglagdcdaaGreatDoor.X
open Go.RowKit Go.Lib Go.Shelf Go.Yw.PrintWords Go.Yw.PrintLast Go.Yw.PrintMore
set_option linter.unusedVariables false
set_option linter.unusedSimpArgs false
theorem Ytp (q : Nat) (d n : ByteArray) (b1 b2 : Nat) (W : World) (h1 : W.cell? ⟨b1, 0, none⟩ = some (.pointer none)) (h2 : W.cell? ⟨b2, 0, none⟩ = some (.string n)) (hd : W.cell? ⟨q, 1, none⟩ = some (.string d)) :
  Calls Tryz.prog 50 #[.pointer (some ⟨q, 0, none⟩), .pointer (some ⟨b1, 0, none⟩), .pointer (some ⟨b2, 0, none⟩)] W fun e w' => e = .returned (.bool (d.toList == n.toList)) ∧ Below W.heap.size W w' := by
 go_enter Tryz.func50, Tryz.ntmps50
 go_wp2
 go_quiet (fail)
 go_wp2
 go_ret
 exact ⟨rfl, below_drewN' (Below.refl _ _) _⟩
theorem zip_at {ps : List ChP} {l : List Ch} (i : Nat) (x : ChP × Ch) (h : (ps.zip l)[i]? = some x) : ps[i]? = some x.1 ∧ l[i]? = some x.2 := by
 rw [List.getElem?_zip_eq_some] at h
 exact h
theorem zip_any {ps : List ChP} {l : List Ch} (hl : ps.length = l.length) (q : Ch → Bool) : (ps.zip l).any (fun x => q x.2) = l.any q := by
 have h : (ps.zip l).map Prod.snd = l := List.map_snd_zip Zk
 rw [← h, List.any_map]
 rw [h]
 rfl
def Ynf (s : Bk) (nb : Bool) (name : ByteArray) : Int := if nb = false then 3 else if s.l.any (fun c => c.name.toList == name.toList) = true then 7 else 0
set_option maxHeartbeats 4000000 in
theorem Yhn {w : World} {M : Nat → Prop} {bb : Nat} {s : Bk} {sv : Value} {ps : List ChP} {ow : Nat → Nat × Nat} (h : BookO w M bb s sv ps ow) (hE : EnvOk w) (hsz : s.l.length ≤ 1000000) (name : ByteArray) (nb : Bool) (k : Nat) (hnb : Yhc.f k name = some nb) :
  Calls Tryz.prog 34 #[.pointer (some ⟨bb, 0, none⟩), .string name, .pointer none] w fun e w' => e = .returned (.int .i64 (Ynf s nb name)) ∧ Below w.heap.size w w' := by
 obtain ⟨W, hW⟩ : ∃ W, W = (w.alloc (.cells #[.string name] 9)).alloc (.cells #[.pointer none] 59) := ⟨_, rfl⟩
 have s1 := Yz w (.cells #[.string name] 9)
 have hb : Below w.heap.size w W := by rw [hW]; exact ((Below.refl _ _).alloc (Nat.le_refl _) _).alloc (by rw [s1]; omega) _
 have b1 := Yca (heap_alloc_new w (.cells #[.string name] 9)) (.cells #[.pointer none] 59)
 have b2 := heap_alloc_new (w.alloc (.cells #[.string name] 9)) (.cells #[.pointer none] 59)
 rw [s1] at b2
 rw [← hW] at b1 b2
 have HB := Ya.mk hb
 have HE := Ya.mk hE
 have H1 := Ya.mk (h.below hb)
 have B1 := Ya.mk b1
 have B2 := Ya.mk b2
 have HW := Ya.mk hW
 have HN := Ya.mk hnb
 have eg := enters_of Tryz.func50 Zg rfl
 have EG := Ya.mk eg
 have hc1 : W.cell? ⟨w.heap.size, 0, none⟩ = some (.string name) := (Yf b1 0).trans rfl
 have HC1 := Ya.mk hc1
 have hmf : ∀ (fn : Fn) (first cap : Array Value) (w : World), (Instr.makeFunc fn first cap).run Tryz.prog w = .ok (.func fn first cap) w := fun _ _ _ _ => rfl
 clear hb h hE b1 b2 hnb eg s1
 go_enter Tryz.func34, Tryz.ntmps34
 clear hW hc1
 go_wp2_with fail
 rw [← HW.out]
 refine (Yhc.calls k name nb W (HE.out.below HB.out) HN.out).mono ?_
 rintro e w2 ⟨rfl, hb2⟩
 have HB2 := Ya.mk hb2
 clear hb2
 cases nb with
 | false =>
  go_wp2
  go_ret
  exact ⟨rfl, HB.out.trans (HB2.out.mono HB.out.size)⟩
 | true =>
  have h2 := H1.out.below HB2.out
  have H2 := Ya.mk h2
  obtain ⟨A, cap, hsv, hcap⟩ := Yeb h2.row
  have hc2 := h2.sv_cell
  rw [hsv] at hc2
  have HSV := Ya.mk hsv
  clear h2 hsv
  go_wp2_with fail
  have hlen : (ps.zip s.l).length = s.l.length := by rw [List.length_zip, H1.out.len]; omega
  have hany := Yio (fun x : ChP × Ch => ptrV x.1) (fun x => x.2.name.toList == name.toList) (ps.zip s.l) 50 #[.pointer (some ⟨w.heap.size + 1, 0, none⟩), .pointer (some ⟨w.heap.size, 0, none⟩)] EG.out A cap w2 (by rw [hlen]; exact hcap) (by rw [hlen]; exact hsz) (fun i x hx => by
   obtain ⟨h3, h4⟩ := zip_at i x hx
   have h5 := (List.getElem?_eq_some_iff.1 h4).1
   obtain ⟨g, cap2, e1, _, e2, _⟩ := Yvd H2.out.row Zk
   rw [HSV.out] at e1
   injection e1 with e1 _ _
   exact ⟨g, e1, e2 i _ (by rw [List.getElem?_map, h3]; rfl)⟩) (fun W3 x hx hW3 => by
   obtain ⟨i, hi⟩ := List.mem_iff_getElem?.1 hx
   obtain ⟨h3, h4⟩ := zip_at i x hi
   have hch := H2.out.chs i _ _ h3 h4
   have hW4 := HB2.out.trans (hW3.mono HB2.out.size)
   exact Ytp x.1.cb x.2.name name (w.heap.size + 1) (w.heap.size) W3 ((hW4.cell (p := ⟨w.heap.size + 1, 0, none⟩) (Yx B2.out)).trans ((Yf B2.out 0).trans rfl)) ((hW4.cell (p := ⟨w.heap.size, 0, none⟩) (Yx B1.out)).trans HC1.out) ((hW3.cell (p := ⟨x.1.cb, 1, none⟩) (Yx hch.blk)).trans ((Yf hch.blk 1).trans rfl)))
  rw [hlen, zip_any H1.out.len (fun c => c.name.toList == name.toList)] at hany
  have HA := Ya.mk hany
  clear hany hc2
  cases hq : s.l.any (fun c => c.name.toList == name.toList) with
  | true =>
   have HQ := Ya.mk hq
   have hx := HA.out
   rw [hq] at hx
   clear hq
   refine hx.mono ?_
   clear hx
   rintro e w3 ⟨rfl, hb3⟩
   have HB3 := Ya.mk (HB.out.trans ((HB2.out.trans (hb3.mono HB2.out.size)).mono HB.out.size))
   clear hb3
   go_wp2
   go_ret
   have e1 : Ynf s true name = 7 := by unfold Ynf; rw [if_neg Zq, if_pos HQ.out]
   rw [e1]
   exact ⟨rfl, HB3.out⟩
  | false =>
   have HQ := Ya.mk hq
   have hx := HA.out
   rw [hq] at hx
   clear hq
   refine hx.mono ?_
   clear hx
   rintro e w3 ⟨rfl, hb3⟩
   have HB3 := Ya.mk (HB.out.trans ((HB2.out.trans (hb3.mono HB2.out.size)).mono HB.out.size))
   clear hb3
   go_wp2
   go_ret
   have e1 : Ynf s true name = 0 := by unfold Ynf; rw [if_neg Zq, if_neg (by rw [HQ.out]; decide)]
   rw [e1]
   exact ⟨rfl, HB3.out⟩
theorem BookO.snoc {w w6 : World} {M : Nat → Prop} {bb : Nat} {s : Bk} {sv : Value} {ps : List ChP} {ow : Nat → Nat × Nat} (h : BookO w M bb s sv ps ow) {made : Int} {sv1 : Value} {q : Nat} {c : Ch} (hc0 : ∀ j, j < 3 → c.l j = [])
  (hblk : w6.heap[bb]? = some (.cells #[.int .i64 made, sv1] 54 (0, 0)))
  (hrow : w6.ownsRow 0 59 1 sv1 (s.l.length + 1) (ps.map ptrV ++ [.pointer (some ⟨q, 0, none⟩)]))
  (hq : w6.heap[q]? = some (.cells #[.string c.uid, .string c.name, .slice none 0 0, .slice none 0 0, .slice none 0 0] 62 (0, 0)))
  (hfresh : w.heap.size ≤ q)
  (hat : sv1.ownBlock = sv.ownBlock ∨ ∃ b, sv1.ownBlock = some b ∧ w.heap.size ≤ b)
  (hkeep : ∀ k, k < w.heap.size → k ≠ bb → some k ≠ sv.ownBlock → w6.heap[k]? = w.heap[k]?) :
  BookO w6 (fun k => M k ∨ w.heap.size ≤ k) bb { made := made, l := s.l ++ [c] } sv1 (ps ++ [⟨q, fun _ => .slice none 0 0⟩]) ow := by
 have hty : ∀ {k t t2 : Nat} {cs cs2 : Array Value}, w.heap[k]? = some (.cells cs t (0, 0)) → w.heap[k]? = some (.cells cs2 t2 (0, 0)) → t = t2 := by
  intro k t t2 cs cs2 h1 h2
  rw [h1] at h2
  injection h2 with h2
  injection h2 with _ h2 _
 have hsv : ∀ {k t : Nat} {cs : Array Value}, w.heap[k]? = some (.cells cs t (0, 0)) → t ≠ 59 → some k ≠ sv.ownBlock := by
  intro k t cs hk ht he
  obtain ⟨cells, h2⟩ := Yva h.row k he.symm
  exact ht (hty hk h2)
 have hK : ∀ {k t : Nat} {cs : Array Value}, w.heap[k]? = some (.cells cs t (0, 0)) → t ≠ 59 → t ≠ 54 → w6.heap[k]? = w.heap[k]? := by
  intro k t cs hk h1 h2
  exact hkeep k (Yx hk) (fun e => h2 (hty hk (e ▸ h.blk))) (hsv hk h1)
 have hold : ∀ (i : Nat) (p : ChP) (d : Ch), ps[i]? = some p → s.l[i]? = some d → ChAt w6 (fun k => M k ∨ w.heap.size ≤ k) ow p d := by
  intro i p d hp hd
  have h1 := h.chs i p d hp hd
  refine ⟨.inl h1.mem, (hK h1.blk Zq Zq).trans h1.blk, fun j hj => ⟨fun k hk => ⟨.inl ((h1.own j hj).1 k hk).1, ((h1.own j hj).1 k hk).2⟩, Ylc (h1.own j hj).2 (fun k hk => ?_)⟩⟩
  obtain ⟨cells, h2⟩ := Yva (h1.own j hj).2 k hk
  exact hK h2 Zq Zq
 refine ⟨.inl h.mem, hblk, fun k hk => ?_, ?_, ?_, ?_, ?_⟩
 ·rcases hat with h1 | ⟨b, h1, h2⟩
  ·exact .inl (h.okv k (h1 ▸ hk))
  ·rw [h1] at hk
   injection hk with hk
   exact .inr (hk ▸ h2)
 ·show w6.ownsRow 0 _ 1 sv1 (s.l ++ [c]).length ((ps ++ [_]).map ptrV)
  rw [List.length_append, List.map_append]
  exact hrow
 ·show (ps ++ [_]).length = (s.l ++ [c]).length
  rw [List.length_append, List.length_append, h.len]; rfl
 ·rw [List.map_append, List.nodup_append]
  refine ⟨h.nodup, Zy, fun a ha b hb e => ?_⟩
  obtain rfl : b = q := by simpa using hb
  subst e
  obtain ⟨p, hp, rfl⟩ := List.mem_map.1 ha
  obtain ⟨i, hi⟩ := List.mem_iff_getElem?.1 hp
  have hlt := (List.getElem?_eq_some_iff.1 hi).1
  have h1 := h.chs i p _ hi (List.getElem?_eq_getElem (by rw [← h.len]; exact hlt))
  have := Yx h1.blk
  omega
 ·intro i p d hp hd
  have hd' : (s.l ++ [c])[i]? = some d := hd
  rw [List.getElem?_append] at hp hd'
  rw [h.len] at hp
  by_cases hi : i < s.l.length
  ·rw [if_pos hi] at hp hd'
   exact hold i p d hp hd'
  ·rw [if_neg hi] at hp hd'
   have h0 : i - s.l.length = 0 := by
    have := (List.getElem?_eq_some_iff.1 hd').1
    simp at this
    omega
   rw [h0] at hp hd'
   obtain rfl := Option.some.inj hp
   obtain rfl := Option.some.inj hd'
   exact ⟨.inr hfresh, hq, fun j hj => ⟨fun k hk => by simp [Value.ownBlock] at hk, by rw [hc0 j hj]; exact ⟨rfl, .inl ⟨rfl, rfl⟩⟩⟩⟩
end Go.Proofs.YtfmjnmglagdcdaaGreatDoor.X
