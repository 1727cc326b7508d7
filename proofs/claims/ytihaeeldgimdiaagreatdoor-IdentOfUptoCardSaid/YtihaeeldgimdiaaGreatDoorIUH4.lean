import Derived.Test.YtihaeeldgimdiaaGreatDoorIUH3b
import Derived.Test.YtihaeeldgimdiaaGreatDoorIUX5
import Derived.Laws.CopyOwn
set_option linter.all false
section
namespace Go.Proofs.YtihaeeldgimdiaaGreatDoor.X
open Go.RowKit Go.Lib Go.Shelf Go.Yw.PrintWords Go.Yw.PrintLast Go.Yw.PrintMore
def Yjc (e : Int) : Y × Y × Int × Y × Y × Y × Bool × Bool × Int := (⟨#[]⟩, ⟨#[]⟩, 0, ⟨#[]⟩, ⟨#[]⟩, ⟨#[]⟩, false, false, e)
def Ygf.f (k : Nat) (a0 : Y) : Option (Y × Y × Int × Y × Y × Y × Bool × Bool × Int) :=
 (Ygh.f a0).bind fun c =>
  if (c.size : Int) > 2048 then some (Yjc 5) else
   (Yq.f k c ⟨#[]⟩ ⟨#[]⟩ 0 ⟨#[]⟩ ⟨#[]⟩ ⟨#[]⟩ false false).bind fun x =>
    if ¬ x.1 = 0 then some (Yjc x.1) else
     (Yre.f k x.2.1 x.2.2.1 x.2.2.2.1 x.2.2.2.2.1 x.2.2.2.2.2.1 x.2.2.2.2.2.2.1 x.2.2.2.2.2.2.2.1 x.2.2.2.2.2.2.2.2.1 x.2.2.2.2.2.2.2.2.2).bind fun y =>
      if ¬ y.1 = 0 then some (Yjc y.1) else
       (Yge.f y.2.1 y.2.2.1 y.2.2.2.1 y.2.2.2.2.1 y.2.2.2.2.2.1 y.2.2.2.2.2.2.1 y.2.2.2.2.2.2.2.1 y.2.2.2.2.2.2.2.2.1 y.2.2.2.2.2.2.2.2.2).bind fun z =>
        (Yff.f k z.2.1 z.2.2.1 z.2.2.2.1 z.2.2.2.2.1 z.2.2.2.2.2.1 z.2.2.2.2.2.2.1 z.2.2.2.2.2.2.2.1 z.2.2.2.2.2.2.2.2).bind fun t =>
         if (t.size : Int) > 2048 then some (Yjc 5) else some (z.2.1, z.2.2.1, z.2.2.2.1, z.2.2.2.2.1, z.2.2.2.2.2.1, z.2.2.2.2.2.2.1, z.2.2.2.2.2.2.2.1, z.2.2.2.2.2.2.2.2, 0)
theorem Ygo {w w' : World} {g b : Nat} {o : Obj} (h : w.heap[b]? = some o) (k : KeepBut w w' g none) (hne : b ≠ g) : w'.heap[b]? = some o := k.blk h hne Zq
theorem Ycb {w w' : World} {b : Nat} {o : Obj} (h : w.heap[b]? = some o) (k : Below w.heap.size w w') : w'.heap[b]? = some o := by
 rw [k.block _ (Array.getElem?_eq_some_iff.1 h).1]; exact h
theorem Yta {P : Program} {fn : Func} {p u : Tmp} {ty : TypeId} (h : fn.results = #[.cell p ty, .tmp u]) (tmps : Array Value) (w : World) (g : Nat) (t : TypeId) (cs : Array Value) (fr : Nat × Nat) (d : TypeDesc)
  (hp : tmps.getD p undef = .pointer (some ⟨g, 0, none⟩)) (hg : w.heap[g]? = some (.cells cs t fr))
  (hu : P.underlying ty = some d) (hd : (match d with | .struct _ | .array _ _ => true | _ => false) = true) (hi : (P.info? ty).map (·.size) = some cs.size) :
  (results fn tmps).run P w = .ok (.tuple #[.agg cs, tmps.getD u undef]) w := by
 have hp' : tmps[p]?.getD undef = .pointer (some ⟨g, 0, none⟩) := by simpa using hp
 rw [results_cell_tmp h]
 simp [hp', asAddr, run_loadVar_row w g t ty cs fr d hg hu hd hi, Result.andThen]
abbrev urlZ : Array Value := #[.string ⟨#[]⟩, .string ⟨#[]⟩, .int .i64 0, .string ⟨#[]⟩, .string ⟨#[]⟩, .string ⟨#[]⟩, .bool false, .bool false]
theorem Yqc (a b : Y) (c : Int) (d e f : Y) (g h : Bool) : ((#[.string a, .string b, .int .i64 c, .string d, .string e, .string f, .bool g, .bool h] : Array Value).all (·.oneCell')) = true := by
 simp [Value.oneCell']
set_option maxHeartbeats 8000000 in
set_option maxRecDepth 100000 in
theorem Ygf.calls (k : Nat) (a0 r1 r2 : Y) (r3 : Int) (r4 r5 r6 : Y) (r7 r8 : Bool) (r9 : Int) (w : World) (hE : EnvOk w) (h : Ygf.f k a0 = some (r1, r2, r3, r4, r5, r6, r7, r8, r9)) :
  Calls Tryz.prog 26 #[.string a0] w fun e w' => e = .returned (.tuple #[.agg #[.string r1, .string r2, .int .i64 r3, .string r4, .string r5, .string r6, .bool r7, .bool r8], .int .i64 r9]) ∧ Below w.heap.size w w' := by
 unfold Ygf.f at h
 obtain ⟨c, hc, h⟩ := Option.bind_eq_some_iff.1 h
 have HC := Ya.mk hc
 have HE := Ya.mk hE
 have HH := Ya.mk h
 have cV := Tryz.underlying46
 have bJ : (Tryz.prog.info? 46).map (·.size) = some 8 := by kernel_rfl
 clear hc hE h
 go_enter Tryz.func26, Tryz.ntmps26
 go_wp2_with fail
 refine (Ygh.calls a0 c _ (HE.out.below ((Below.refl _ _).alloc (Ks _) _)) HC.out).mono ?_
 rintro e w1 ⟨rfl, qY⟩
 have hr := Ycb (heap_alloc_new w (.cells #[.string ⟨#[]⟩, .string ⟨#[]⟩, .int .i64 0, .string ⟨#[]⟩, .string ⟨#[]⟩, .string ⟨#[]⟩, .bool false, .bool false] 46)) qY
 have hY := Ya.mk (((Below.refl w.heap.size w).alloc (Ks _) (.cells #[.string ⟨#[]⟩, .string ⟨#[]⟩, .int .i64 0, .string ⟨#[]⟩, .string ⟨#[]⟩, .string ⟨#[]⟩, .bool false, .bool false] 46)).trans (qY.mono Zq))
 have HL1 := Ya.mk (show w.heap.size < w1.heap.size from (Array.getElem?_eq_some_iff.1 hr).1)
 have HI1 := Ya.mk (IsS75.new w w1 c ⟨#[]⟩ ⟨#[]⟩ 0 ⟨#[]⟩ ⟨#[]⟩ ⟨#[]⟩ false false hY.out)
 have rM := Ya.mk (Yja hr (.cells #[.string c, .string ⟨#[]⟩, .string ⟨#[]⟩, .int .i64 0, .string ⟨#[]⟩, .string ⟨#[]⟩, .string ⟨#[]⟩, .bool false, .bool false] 75))
 have HBA := Ya.mk (hY.out.alloc hY.out.size (.cells #[.string c, .string ⟨#[]⟩, .string ⟨#[]⟩, .int .i64 0, .string ⟨#[]⟩, .string ⟨#[]⟩, .string ⟨#[]⟩, .bool false, .bool false] 75))
 clear hr qY
 have hld := Ysb HI1.out.1
 by_cases hlen : (c.size : Int) > 2048
 ·have hd : decide ((2048 : Int) < (c.size : Int)) = true := Kn hlen
  have hh := HH.out
  rw [if_pos hlen] at hh
  simp only [Yjc, Kz, Kaa] at hh
  obtain ⟨rfl, rfl, rfl, rfl, rfl, rfl, rfl, rfl, rfl⟩ := hh
  go_wp2_with (refine wpList_store_row rfl 46 (.tmp 2) (.tmp 19) rfl w.heap.size _ rfl rfl 46 _ rM.out bJ rfl (Yqc _ _ _ _ _ _ _ _) ?_)
  refine bodyPost_ret (v := ?v1) ?hr1 ?hd1 ?_
  case hr1 => refine Yta (p := 2) (u := 3) (ty := 46) ?_ _ _ w.heap.size 46 urlZ (0, 0) _ ?_ (setRow_heap _ _ _ _ _ _ rM.out) cV rfl bJ <;> rfl
  case hd1 => rfl
  exact ⟨rfl, below_setRow HBA.out (Ks _) _⟩
 ·have hd : decide ((2048 : Int) < (c.size : Int)) = false := Ko hlen
  have hh := HH.out
  rw [if_neg hlen] at hh
  clear HH
  obtain ⟨⟨x1, x2, x3, x4, x5, x6, x7, x8, x9, x10⟩, hx, hh⟩ := Option.bind_eq_some_iff.1 hh
  have HX := Ya.mk hx
  have HH := Ya.mk hh
  clear hx hh
  go_wp2_with fail
  clear hld hd
  obtain ⟨g, hgg⟩ : ∃ n, n = w1.heap.size := ⟨_, rfl⟩
  rw [← hgg] at HI1 HL1 ⊢
  clear hgg
  obtain ⟨w2, hw⟩ : ∃ W, W = w1.alloc (.cells #[.string c, .string ⟨#[]⟩, .string ⟨#[]⟩, .int .i64 0, .string ⟨#[]⟩, .string ⟨#[]⟩, .string ⟨#[]⟩, .bool false, .bool false] 75) := ⟨_, rfl⟩
  rw [← hw] at HI1 rM HBA ⊢
  clear hw
  refine (Yq.calls k g _ _ _ _ _ _ _ _ _ _ _ _ _ _ _ _ _ _ _ w _ HE.out HI1.out HBA.out HX.out).mono ?_
  rintro e w3 ⟨rfl, hix, hbx, hkx⟩
  have nY := Ya.mk hix
  have cZ := Ya.mk hbx
  have wG := Ya.mk (Ygo rM.out hkx (Nat.ne_of_lt HL1.out))
  clear hix hbx hkx HI1 HBA rM
  by_cases he1 : x1 = 0
  ·subst he1
   have hh := HH.out
   rw [if_neg Zq] at hh
   clear HH
   obtain ⟨⟨y1, y2, y3, y4, y5, y6, y7, y8, y9, y10⟩, hy, hh⟩ := Option.bind_eq_some_iff.1 hh
   have HY := Ya.mk hy
   have HH := Ya.mk hh
   clear hy hh
   go_wp2_with fail
   refine (Yre.calls k g _ _ _ _ _ _ _ _ _ _ _ _ _ _ _ _ _ _ _ w _ HE.out nY.out cZ.out HY.out).mono ?_
   rintro e w4 ⟨rfl, hix, hbx, hkx⟩
   have vJ := Ya.mk hix
   have cU := Ya.mk hbx
   have jO := Ya.mk (Ygo wG.out hkx (Nat.ne_of_lt HL1.out))
   clear hix hbx hkx nY cZ wG
   by_cases he2 : y1 = 0
   ·subst he2
    have hh := HH.out
    rw [if_neg Zq] at hh
    clear HH
    obtain ⟨⟨z1, z2, z3, z4, z5, z6, z7, z8, z9⟩, hz, hh⟩ := Option.bind_eq_some_iff.1 hh
    obtain ⟨t, ht, hh⟩ := Option.bind_eq_some_iff.1 hh
    have HZ := Ya.mk hz
    have HT := Ya.mk ht
    have HH := Ya.mk hh
    clear hz hh ht
    go_wp2_with fail
    refine (Yge.calls g _ _ _ _ _ _ _ _ _ _ _ _ _ _ _ _ _ _ w _ HE.out vJ.out cU.out HZ.out).mono ?_
    rintro e w5 ⟨rfl, hix, hbx, hkx⟩
    have nZ := Ya.mk hix
    have cH := Ya.mk hbx
    have yQ := Ya.mk (Ygo jO.out hkx (Nat.ne_of_lt HL1.out))
    clear hix hbx hkx vJ cU jO
    have fL := Ydc nZ.out.1
    have gU := Yhc nZ.out.1
    have lS := Yec nZ.out.1
    have kT := Yzb nZ.out.1
    have kS := Yac nZ.out.1
    have mZ := Yvb nZ.out.1
    have lQ := Ybc nZ.out.1
    have hc8 := Yub nZ.out.1
    go_wp2_with fail
    clear fL gU lS kT kS mZ lQ hc8
    refine (Yff.calls k _ _ _ _ _ _ _ _ _ _ (HE.out.below cH.out) HT.out).mono ?_
    rintro e w6 ⟨rfl, hbx⟩
    have zM := Ya.mk (nZ.out.below hbx)
    have jG := Ya.mk (cH.out.trans (hbx.mono cH.out.size))
    have HR6 := Ya.mk (Ycb yQ.out hbx)
    clear hbx nZ cH yQ
    by_cases hlt : (t.size : Int) > 2048
    ·have hd : decide ((2048 : Int) < (t.size : Int)) = true := Kn hlt
     have hh := HH.out
     rw [if_pos hlt] at hh
     simp only [Yjc, Kz, Kaa] at hh
     obtain ⟨rfl, rfl, rfl, rfl, rfl, rfl, rfl, rfl, rfl⟩ := hh
     go_wp2_with (refine wpList_store_row rfl 46 (.tmp 2) (.tmp 41) rfl w.heap.size _ rfl rfl 46 _ HR6.out bJ rfl (Yqc _ _ _ _ _ _ _ _) ?_)
     refine bodyPost_ret (v := ?v2) ?hr2 ?hd2 ?_
     case hr2 => refine Yta (p := 2) (u := 3) (ty := 46) ?_ _ _ w.heap.size 46 urlZ (0, 0) _ ?_ (setRow_heap _ _ _ _ _ _ HR6.out) cV rfl bJ <;> rfl
     case hd2 => rfl
     exact ⟨rfl, below_setRow jG.out (Ks _) _⟩
    ·have hd : decide ((2048 : Int) < (t.size : Int)) = false := Ko hlt
     have hh := HH.out
     rw [if_neg hlt] at hh
     simp only [Kz, Kaa] at hh
     obtain ⟨rfl, rfl, rfl, rfl, rfl, rfl, rfl, rfl, rfl⟩ := hh
     have fL := Ydc zM.out.1
     have gU := Yhc zM.out.1
     have lS := Yec zM.out.1
     have kT := Yzb zM.out.1
     have kS := Yac zM.out.1
     have mZ := Yvb zM.out.1
     have lQ := Ybc zM.out.1
     have hc8 := Yub zM.out.1
     go_wp2_with (refine wpList_store_row rfl 46 (.tmp 2) (.tmp 45) rfl w.heap.size _ rfl rfl 46 _ HR6.out bJ rfl (Yqc _ _ _ _ _ _ _ _) ?_)
     refine bodyPost_ret (v := ?v3) ?hr3 ?hd3 ?_
     case hr3 => refine Yta (p := 2) (u := 3) (ty := 46) ?_ _ _ w.heap.size 46 #[.string z2, .string z3, .int .i64 z4, .string z5, .string z6, .string z7, .bool z8, .bool z9] (0, 0) _ ?_ (setRow_heap _ _ _ _ _ _ HR6.out) cV rfl bJ <;> rfl
     case hd3 => rfl
     exact ⟨rfl, below_setRow jG.out (Ks _) _⟩
   ·have hh := HH.out
    rw [if_pos he2] at hh
    simp only [Yjc, Kz, Kaa] at hh
    obtain ⟨rfl, rfl, rfl, rfl, rfl, rfl, rfl, rfl, rfl⟩ := hh
    have hd : decide (y1 = 0) = false := Ko he2
    go_wp2_with (refine wpList_store_row rfl 46 (.tmp 2) (.tmp 30) rfl w.heap.size _ rfl rfl 46 _ jO.out bJ rfl (Yqc _ _ _ _ _ _ _ _) ?_)
    refine bodyPost_ret (v := ?v4) ?hr4 ?hd4 ?_
    case hr4 => refine Yta (p := 2) (u := 3) (ty := 46) ?_ _ _ w.heap.size 46 urlZ (0, 0) _ ?_ (setRow_heap _ _ _ _ _ _ jO.out) cV rfl bJ <;> rfl
    case hd4 => rfl
    exact ⟨rfl, below_setRow cU.out (Ks _) _⟩
  ·have hh := HH.out
   rw [if_pos he1] at hh
   simp only [Yjc, Kz, Kaa] at hh
   obtain ⟨rfl, rfl, rfl, rfl, rfl, rfl, rfl, rfl, rfl⟩ := hh
   have hd : decide (x1 = 0) = false := Ko he1
   go_wp2_with (refine wpList_store_row rfl 46 (.tmp 2) (.tmp 24) rfl w.heap.size _ rfl rfl 46 _ wG.out bJ rfl (Yqc _ _ _ _ _ _ _ _) ?_)
   refine bodyPost_ret (v := ?v5) ?hr5 ?hd5 ?_
   case hr5 => refine Yta (p := 2) (u := 3) (ty := 46) ?_ _ _ w.heap.size 46 urlZ (0, 0) _ ?_ (setRow_heap _ _ _ _ _ _ wG.out) cV rfl bJ <;> rfl
   case hd5 => rfl
   exact ⟨rfl, below_setRow cZ.out (Ks _) _⟩
end Go.Proofs.YtihaeeldgimdiaaGreatDoor.X
end
section
namespace Go.Proofs.YtihaeeldgimdiaaGreatDoor.X
open Go.RowKit Go.Lib Go.Shelf Go.Yw.PrintWords Go.Yw.PrintLast Go.Yw.PrintMore
theorem pathL_le (l : List UInt8) : (Ysj l).length ≤ 3 * l.length + 4 := by
 have h : ∀ (ps out : List (List UInt8)), tot (Yuc ps out) ≤ tot out + room ps := by
  intro ps
  induction ps with
  | nil => intro out; simp [Yuc, room]
  | cons p ps ih =>
   intro out
   rw [Yuc]
   have h1 := ih (Yad ps.isEmpty out p)
   have h2 := Yuh ps.isEmpty out p
   simp only [room, List.map_cons, List.sum_cons] at h1 ⊢
   omega
 have h1 := h (Yfe l) []
 have h2 := Yzh l
 have h3 := Ywm (Yuc (Yfe l) [])
 have h4 : tot [] = 0 := rfl
 unfold Ysj
 rw [List.length_cons]
 omega
end Go.Proofs.YtihaeeldgimdiaaGreatDoor.X
end
