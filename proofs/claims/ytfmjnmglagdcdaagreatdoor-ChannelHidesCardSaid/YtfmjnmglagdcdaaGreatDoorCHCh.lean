/- Texts of this seat's proof that belong together. -/
import Derived.Test.YtfmjnmglagdcdaaGreatDoorCHWords
import Derived.Test.YtfmjnmglagdcdaaGreatDoorCHCt
import Derived.Test.YtfmjnmglagdcdaaGreatDoorCHH0b
import Derived.Test.YtfmjnmglagdcdaaGreatDoorCHShelf
section
namespace Go.Proofs.YtfmjnmglagdcdaaGreatDoor.X
open Go.RowKit Go.Lib Go.Shelf Go.Yw.PrintWords Go.Yw.PrintLast Go.Yw.PrintMore
set_option linter.unusedVariables false
set_option linter.unusedSimpArgs false
def Yxh (w : World) (l : List ByteArray) (e : Ending) (w' : World) : Prop := ∃ A cap, e = .returned (.tuple #[.slice A l.length cap, .int .i64 0]) ∧ w'.ownsRow w.heap.size 9 1 (.slice A l.length cap) l.length (l.map Value.string) ∧ Below w.heap.size w w'
set_option maxHeartbeats 4000000 in
theorem Ypn {w : World} {M : Nat → Prop} {bb : Nat} {s : Bk} {sv : Value} {ps : List ChP} {ow : Nat → Nat × Nat} (h : BookO w M bb s sv ps ow) (hsz : s.l.length ≤ 1000000) (uid : ByteArray) (p : ChP) (c : Ch) (hp : ps[Yoa s.l uid]? = some p) (hc : s.l[Yoa s.l uid]? = some c)
  (n : Nat) (hn : n < 3) (hl : (c.l n).length ≤ 64) :
  Calls Tryz.prog 11 #[.pointer (some ⟨bb, 0, none⟩), .string uid, .int .i64 (n : Int)] w fun e w' => Yxh w (c.l n) e w' := by
 have HL := Ya.mk (Ysi h hsz uid p hp n hn)
 have hch := h.chs _ p c hp hc
 have hcell := Ymg hch n hn
 have HO := Ya.mk (hch.own n hn)
 have HN := Ya.mk (And.intro hn hl)
 obtain ⟨A, cap, hv, hcap⟩ := Yeb (hch.own n hn).2
 rw [hv] at hcell
 have HV := Ya.mk hv
 clear h hp hc hn hl hsz hch hv
 go_enter Tryz.func11, Tryz.ntmps11
 go_wp2_with fail
 refine HL.out.mono ?_
 rintro e w0 ⟨rfl, rfl⟩
 go_wp2_with fail
 have hcl := Ytm HO.out (Nat.le_trans HN.out.2 Zq)
 rw [HV.out] at hcl
 refine hcl.mono ?_
 clear hcl
 rintro e w1 ⟨v', rfl, ho, hb⟩
 obtain ⟨A1, cap1, rfl, _⟩ : ∃ A1 cap1, v' = .slice A1 (c.l n).length cap1 ∧ True := by
  rcases ho with ⟨_, ⟨rfl, h0⟩ | ⟨g, c2, cur, rfl, _⟩⟩
  ·exact ⟨none, 0, by rw [h0], trivial⟩
  ·exact ⟨_, _, rfl, trivial⟩
 have HO1 := Ya.mk ho
 have HB1 := Ya.mk hb
 clear ho hb
 go_wp2
 go_ret2
 exact ⟨A1, cap1, rfl, HO1.out, HB1.out⟩
theorem Ysn (x u : ByteArray) (tb : Nat) (W : World) (hE : EnvOk W) (hx : x.size ≤ 1000000000) (hu : u.size ≤ 1000000000) (h : W.cell? ⟨tb, 9, none⟩ = some (.string u)) :
  Calls Tryz.prog 24 #[.string x, .pointer (some ⟨tb, 0, none⟩)] W fun e w' => e = .returned (.bool (Yef x u)) ∧ Below W.heap.size W w' := by
 have HC := Ya.mk (Yzn x u hx hu W hE)
 go_enter Tryz.func24, Tryz.ntmps24
 go_wp2_with fail
 refine HC.out.mono ?_
 rintro e w1 ⟨rfl, hb⟩
 have HB := Ya.mk hb
 clear hb
 go_wp2
 go_ret
 exact ⟨rfl, HB.out⟩
def hidB (c : Ch) (u : ByteArray) : Bool := (c.l 1).any (fun x => Yef x u) || (c.l 2).any (fun x => Yef x u)
set_option maxHeartbeats 4000000 in
theorem Ypp {w : World} {M : Nat → Prop} {bb : Nat} {s : Bk} {sv : Value} {ps : List ChP} {ow : Nat → Nat × Nat} (h : BookO w M bb s sv ps ow) (hne : 0 < s.l.length) (hsz : s.l.length ≤ 1000000) (uid : ByteArray) (hi : ¬ Yoa s.l uid < s.l.length) (es : Array Value) :
  Calls Tryz.prog 9 #[.pointer (some ⟨bb, 0, none⟩), .string uid, .agg es] w fun e w' => e = .returned (.bool false) ∧ Below w.heap.size w w' := by
 have hb := (Below.refl w.heap.size w).alloc (Nat.le_refl _) (.cells es 30)
 have HF := Ya.mk (Ypl (h.below hb) hne hsz uid hi)
 have HB := Ya.mk hb
 clear h hi hb
 go_enter Tryz.func9, Tryz.ntmps9
 go_wp2_with fail
 refine HF.out.mono ?_
 rintro e w1 ⟨rfl, rfl⟩
 go_wp2
 go_ret
 exact ⟨rfl, HB.out⟩
set_option maxHeartbeats 4000000 in
theorem Yan {w : World} {M : Nat → Prop} {bb : Nat} {s : Bk} {sv : Value} {ps : List ChP} {ow : Nat → Nat × Nat} (h : BookO w M bb s sv ps ow) (hE : EnvOk w) (hsz : s.l.length ≤ 1000000) (uid : ByteArray) (p : ChP) (c : Ch) (hp : ps[Yoa s.l uid]? = some p) (hc : s.l[Yoa s.l uid]? = some c)
  (hl : ∀ n, n < 3 → (c.l n).length ≤ 64 ∧ ∀ x ∈ c.l n, x.size ≤ 1000000000) (es : Array Value) (u : ByteArray) (hu : u.size ≤ 1000000000) (he : es[9]? = some (.string u)) :
  Calls Tryz.prog 9 #[.pointer (some ⟨bb, 0, none⟩), .string uid, .agg es] w fun e w' => e = .returned (.bool (hidB c u)) ∧ Below w.heap.size w w' := by
 have hb := (Below.refl w.heap.size w).alloc (Nat.le_refl _) (.cells es 30)
 have HF := Ya.mk (Yri (h.below hb) hsz uid p hp)
 have H := Ya.mk h
 have H1 := Ya.mk (h.below hb)
 have HBx := Ya.mk ((Yf (heap_alloc_new w (.cells es 30)) 9).trans he)
 have HB := Ya.mk hb
 have HE := Ya.mk hE
 have HP := Ya.mk hp
 have HC := Ya.mk hc
 have HL := Ya.mk hl
 have HU := Ya.mk hu
 have hch := (h.below hb).chs _ p c hp hc
 have hcell1 := Ymg hch 1 Zq
 have hcell2 := Ymg hch 2 Zq
 obtain ⟨A1, cap1, hv1, _⟩ := Yeb (hch.own 1 Zq).2
 obtain ⟨A2, cap2, hv2, _⟩ := Yeb (hch.own 2 Zq).2
 rw [hv1] at hcell1
 rw [hv2] at hcell2
 have HV := Ya.mk (And.intro hv1 hv2)
 have HCH := Ya.mk hch
 have eg := enters_of Tryz.func24 Zg rfl
 have EG := Ya.mk eg
 have hmf : ∀ (fn : Fn) (first cap : Array Value) (w : World), (Instr.makeFunc fn first cap).run Tryz.prog w = .ok (.func fn first cap) w := fun _ _ _ _ => rfl
 have hsize := Yz w (.cells es 30)
 have HSZ := Ya.mk hsize
 clear h hp hc hE hl hu he hb hch hv1 hv2 eg hsize
 go_enter Tryz.func9, Tryz.ntmps9
 go_wp2_with fail
 refine HF.out.mono ?_
 rintro e w1 ⟨rfl, rfl⟩
 go_wp2_with fail
 have hany : ∀ (W : World) (j : Nat), (j = 1 ∨ j = 2) → Below (w.alloc (.cells es 30)).heap.size (w.alloc (.cells es 30)) W → Calls Tryz.prog 26 #[p.v j, .func (.func 24) #[] #[.pointer (some ⟨w.heap.size, 0, none⟩)]] W fun e w' => e = .returned (.bool ((c.l j).any (fun x => Yef x u))) ∧ Below W.heap.size W w' := by
  intro W j hj hW
  have hj3 : j < 3 := by omega
  refine OwnTx.any ((HCH.out.own j hj3).move (fun k _ hk => hW.block k hk)) (Nat.le_trans (HL.out j hj3).1 Zq) _ _ _ EG.out (fun W2 x hx hW2 => ?_)
  have hW3 := hW.trans (hW2.mono hW.size)
  exact Ysn x u w.heap.size W2 ((HE.out.below HB.out).below hW3) ((HL.out j hj3).2 x hx) HU.out ((hW3.cell (p := ⟨w.heap.size, 9, none⟩) (by rw [HSZ.out]; show w.heap.size < _; omega)).trans HBx.out)
 have HA := Ya.mk hany
 clear hany
 have h1 := HA.out _ 1 (.inl rfl) (Below.refl _ _)
 rw [HV.out.1] at h1
 cases hq1 : (c.l 1).any (fun x => Yef x u) with
 | true =>
  rw [hq1] at h1
  have HQ1 := Ya.mk hq1
  have HX1 := Ya.mk h1
  clear h1 hq1 hcell2
  refine HX1.out.mono ?_
  rintro e w2 ⟨rfl, hb2⟩
  have HB2 := Ya.mk (HB.out.trans (hb2.mono HB.out.size))
  clear hb2
  go_wp2
  go_ret
  have e1 : hidB c u = true := by unfold hidB; rw [HQ1.out]; rfl
  rw [e1]
  exact ⟨rfl, HB2.out⟩
 | false =>
  rw [hq1] at h1
  have HQ1 := Ya.mk hq1
  have HX1 := Ya.mk h1
  clear h1 hq1
  refine HX1.out.mono ?_
  rintro e w2 ⟨rfl, hb2⟩
  have hcell3 := (hb2.cell (p := ⟨p.cb, 2 + 2, none⟩) (lt_of_cell hcell2)).trans hcell2
  have h2 := HA.out w2 2 (.inr rfl) hb2
  rw [HV.out.2] at h2
  have HX2 := Ya.mk h2
  have HB2 := Ya.mk (HB.out.trans (hb2.mono HB.out.size))
  clear hb2 hcell1 hcell2 h2
  go_wp2_with fail
  refine HX2.out.mono ?_
  rintro e w3 ⟨rfl, hb3⟩
  have HB3 := Ya.mk (HB2.out.trans (hb3.mono HB2.out.size))
  clear hb3
  go_wp2
  go_ret
  have e1 : hidB c u = (c.l 2).any (fun x => Yef x u) := by unfold hidB; rw [HQ1.out]; rfl
  rw [e1]
  exact ⟨rfl, HB3.out⟩
def Yhb : ByteArray := ⟨#[110, 111, 116, 105, 102, 105, 99, 97, 116, 105, 111, 110, 115]⟩
def newBk : Bk := { made := 0, l := [{ uid := Yhb, name := Yhb, l := fun _ => [] }] }
def NewPost (w : World) (e : Ending) (w' : World) : Prop := ∃ bb, e = .returned (.pointer (some ⟨bb, 0, none⟩)) ∧ BookAt w' (fun k => w.heap.size ≤ k) bb newBk ∧ Below w.heap.size w w'
def newC : Obj := .cells #[.string Yhb, .string Yhb, .slice none 0 0, .slice none 0 0, .slice none 0 0] 62
def newP (k : Nat) : Obj := .cells #[.pointer (some ⟨k, 0, none⟩)] 59
def newB (k : Nat) : Obj := .cells #[.int .i64 0, .slice (some ⟨k, 0, none⟩) 1 1] 54
theorem book_new (w : World) : BookO (((w.alloc newC).alloc (newP w.heap.size)).alloc (newB (w.heap.size + 1))) (fun k => w.heap.size ≤ k) (w.heap.size + 1 + 1) newBk (.slice (some ⟨w.heap.size + 1, 0, none⟩) 1 1) [⟨w.heap.size, fun _ => .slice none 0 0⟩] (fun _ => (0, 0)) := by
 have s1 := Yz w newC
 have s2 := Yz (w.alloc newC) (newP w.heap.size)
 have h1 := Yca (Yca (heap_alloc_new w newC) (newP w.heap.size)) (newB (w.heap.size + 1))
 have h2 := Yca (heap_alloc_new (w.alloc newC) (newP w.heap.size)) (newB (w.heap.size + 1))
 have h3 := heap_alloc_new ((w.alloc newC).alloc (newP w.heap.size)) (newB (w.heap.size + 1))
 rw [s1] at h2
 rw [s2, s1] at h3
 refine ⟨by show w.heap.size ≤ _; omega, h3, fun k hk => ?_, ⟨rfl, .inr ⟨_, 1, _, rfl, Nat.zero_le _, h2, Nat.le_refl _, by unfold maxLen; decide, rfl, rfl⟩⟩, rfl, Zy, fun i p c hp hc => ?_⟩
 ·obtain rfl : w.heap.size + 1 = k := by simpa [Value.ownBlock] using hk
  show w.heap.size ≤ _
  omega
 ·cases i with
  | succ i => simp at hp
  | zero =>
   obtain rfl : (⟨w.heap.size, fun _ => .slice none 0 0⟩ : ChP) = p := Option.some.inj hp
   obtain rfl : (⟨Yhb, Yhb, fun _ => []⟩ : Ch) = c := Option.some.inj hc
   exact ⟨Nat.le_refl _, h1, fun j hj => ⟨fun k hk => by simp [Value.ownBlock] at hk, rfl, .inl ⟨rfl, rfl⟩⟩⟩
set_option maxHeartbeats 4000000 in
theorem new_calls (w : World) : Calls Tryz.prog 7 #[] w fun e w' => NewPost w e w' := by
 go_enter Tryz.func7, Tryz.ntmps7
 go_wp2
 go_ret
 exact ⟨w.heap.size + 1 + 1, rfl, ⟨_, _, _, book_new w⟩, (((Below.refl _ _).alloc (Nat.le_refl _) _).alloc Zoa _).alloc (by rw [Yz, Yz]; omega) _⟩
end Go.Proofs.YtfmjnmglagdcdaaGreatDoor.X
end
section
namespace Go.Proofs.YtfmjnmglagdcdaaGreatDoor.X
open Go.RowKit Go.Lib Go.Shelf Go.Yw.PrintWords Go.Yw.PrintLast Go.Yw.PrintMore
set_option linter.unusedVariables false
set_option linter.unusedSimpArgs false
def Ynl : ByteArray := ⟨#[239, 191, 189]⟩
def Yyl (s : ByteArray) (i : Nat) : Bool := decide ((Utf8.decode s i).1 = 65533) && !(Lib.hasPrefix (s.extract i s.size).data.toList Ynl.data.toList)
def Yse (s : ByteArray) : Nat → Nat → Bool
 | 0, _ => true
 | g + 1, i => if i < s.size then (if Yyl s i = true then false else Yse s g (i + (Utf8.decode s i).2)) else true
def isTextB (s : ByteArray) : Bool := Yse s s.size 0
def Yud.f (a0 : ByteArray) : Option Bool := if a0.size ≤ 140737488355328 then some (isTextB a0) else none
set_option maxHeartbeats 4000000 in
set_option maxRecDepth 100000 in
theorem Yud.calls (s : ByteArray) (r : Bool) (w : World) (hE : EnvOk w) (h : Yud.f s = some r) :
  Calls Tryz.prog 63 #[.string s] w fun e w' => e = .returned (.bool r) ∧ Below w.heap.size w w' := by
 unfold Yud.f at h
 by_cases hs : s.size ≤ 140737488355328
 ·rw [if_pos hs] at h
  have HR := Ya.mk (Option.some.inj h)
  clear hE h
  go_enter Tryz.func63, Tryz.ntmps63
  go_wp2
  go_loopg [3, 4, 7] s.size (fun g _ _ _ wx => ∃ i : Nat, i ≤ s.size ∧ s.size ≤ i + g ∧ wx.heap[w.heap.size]? = some (.stringIter s i) ∧ Ya (Below w.heap.size w wx) ∧ Ya (Yse s g i = r))
  case atStart => exact ⟨0, Zk, Zk, World.iter_heap w s 0, ⟨(Below.refl _ _).alloc (Nat.le_refl _) _⟩, HR⟩
  case round =>
   obtain ⟨i, hi1, hig, hit, HB, HT⟩ := hrel
   by_cases hi : i < s.size
   ·cases gk with
    | zero => omega
    | succ g =>
     have hnx := fun ty => Lib.run_next_any_at (P := Tryz.prog) wr w.heap.size s i ty hit hi
     have hd1 := decode_le s i
     have hwd : 1 ≤ (Utf8.decode s i).2 := Lib.decode_width_pos s i hi
     have hit2 := Lib.iterAt_heap wr w.heap.size s i (i + (Utf8.decode s i).2) hit
     have HB2 := Ya.mk (Lib.below_iterAt HB.out (k := w.heap.size) (Nat.le_refl _) s (i + (Utf8.decode s i).2))
     obtain ⟨W1, hW1⟩ : ∃ W1, W1 = wr.iterAt w.heap.size s (i + (Utf8.decode s i).2) := ⟨_, rfl⟩
     rw [← hW1] at hnx hit2 HB2
     have hle : Ya (i + (Utf8.decode s i).2 ≤ s.size) := ⟨by
      rcases Nat.lt_or_ge (s.get! i).toNat 128 with h' | h'
      ·rw [decode_ascii s i hi (by rw [← get!_at s i hi]; exact h')]; exact hi
      ·exact (Ylf s i hi h').1⟩
     have ht : Yse s (g + 1) i = if Yyl s i = true then false else Yse s g (i + (Utf8.decode s i).2) := by rw [Yse, if_pos hi]
     have hbad : Yyl s i = (decide ((Utf8.decode s i).1 = 65533) && !(Lib.hasPrefix (s.extract i s.size).data.toList Ynl.data.toList)) := rfl
     have HT2 := Ya.mk (ht.symm.trans HT.out)
     obtain ⟨c, hc⟩ : ∃ c, c = (Utf8.decode s i).1 := ⟨_, rfl⟩
     obtain ⟨n, hn⟩ : ∃ n, n = (Utf8.decode s i).2 := ⟨_, rfl⟩
     rw [← hc] at hnx hd1 hbad
     rw [← hn] at hit2 hle hwd HT2
     have HI2 := Ya.mk hit2
     have HLt := Ya.mk (show w.heap.size < W1.heap.size from (Array.getElem?_eq_some_iff.1 hit2).1)
     clear hit2 hW1 hit HB hc hn ht HT
     have hfin : ∀ (W2 : World), W2 = W1 → Yyl s i = false → ∃ i2 : Nat, i2 ≤ s.size ∧ s.size ≤ i2 + g ∧ W2.heap[w.heap.size]? = some (.stringIter s i2) ∧ Ya (Below w.heap.size w W2) ∧ Ya (Yse s g i2 = r) := by
      intro W2 hW2 hb
      subst hW2
      have h2 := HT2.out
      rw [if_neg (by rw [hb]; decide)] at h2
      exact ⟨i + n, hle.out, Zk, HI2.out, HB2, ⟨h2⟩⟩
     have HF := Ya.mk hfin
     clear hfin
     by_cases he : c = 65533
     ·have he1 : ((c : Int) == 65533) = true := by rw [he]; rfl
      have he2 : (decide ((c : Int) = 65533)) = true := by rw [he]; rfl
      have hb2 : Yyl s i = !(Lib.hasPrefix (s.extract i s.size).data.toList Ynl.data.toList) := by rw [hbad, he]; simp
      have HBad := Ya.mk hb2
      clear he hbad hb2
      cases hp : Lib.hasPrefix (s.extract i s.size).data.toList Ynl.data.toList with
      | true =>
       have HP := Ya.mk hp
       clear hp
       go_wp2_with fail
       refine (Tryz.strings_HasPrefix _ Ynl _).mono ?_
       rintro e w2 ⟨rfl, rfl⟩
       rw [HP.out]
       go_wp2
       go_roundg g
       case measure => omega
       case rel => exact HF.out _ rfl (by rw [HBad.out, HP.out]; rfl)
      | false =>
       have HP := Ya.mk hp
       clear hp
       go_wp2_with fail
       refine (Tryz.strings_HasPrefix _ Ynl _).mono ?_
       rintro e w2 ⟨rfl, rfl⟩
       rw [HP.out]
       go_wp2
       go_ret
       refine ⟨?_, HB2.out⟩
       have h2 := HT2.out
       rw [if_pos (by rw [HBad.out, HP.out]; rfl)] at h2
       rw [← h2]
       rfl
     ·have he1 : ((c : Int) == 65533) = false := beq_eq_false_iff_ne.2 Zk
      have he2 : (decide ((c : Int) = 65533)) = false := decide_eq_false Zk
      have HBad := Ya.mk (show Yyl s i = false by rw [hbad, decide_eq_false he]; rfl)
      clear he hbad
      go_wp2
      go_roundg g
      case measure => omega
      case rel => exact HF.out _ rfl HBad.out
   ·obtain rfl : i = s.size := by omega
    have hnx := fun ty => Lib.run_next_end_at (P := Tryz.prog) wr w.heap.size s s.size ty hit (Nat.lt_irrefl _)
    have HT2 := Ya.mk (show r = true by
     have h2 := HT.out
     cases gk with
     | zero => exact h2.symm
     | succ g => rw [Yse, if_neg (Nat.lt_irrefl _)] at h2; exact h2.symm)
    clear HT
    go_wp2
    go_ret
    exact ⟨by rw [HT2.out]; rfl, HB.out⟩
 ·rw [if_neg hs] at h; cases h
end Go.Proofs.YtfmjnmglagdcdaaGreatDoor.X
end
