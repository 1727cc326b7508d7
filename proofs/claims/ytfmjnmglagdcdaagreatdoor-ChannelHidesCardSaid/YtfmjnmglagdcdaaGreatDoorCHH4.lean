/- url.Parse and url.Tail: a parser of the call's own, its parts one behind the other. -/
import Derived.Test.YtfmjnmglagdcdaaGreatDoorCHWords
import Derived.Test.YtfmjnmglagdcdaaGreatDoorCHH3b
import Derived.Test.YtfmjnmglagdcdaaGreatDoorCHX5
import Derived.Test.YtfmjnmglagdcdaaGreatDoorCHX3
import Derived.Laws.ResultCell
import Derived.Laws.CopyOwn
import Derived.Outline
namespace Go.Proofs.YtfmjnmglagdcdaaGreatDoor.X
open Go.RowKit Go.Lib Go.Shelf Go.Yw.PrintWords Go.Yw.PrintLast Go.Yw.PrintMore
set_option linter.unusedVariables false
set_option linter.unusedSimpArgs false
def Yac (e : Int) : ByteArray × ByteArray × Int × ByteArray × ByteArray × ByteArray × Bool × Bool × Int := (⟨#[]⟩, ⟨#[]⟩, 0, ⟨#[]⟩, ⟨#[]⟩, ⟨#[]⟩, false, false, e)
def Yxa.f (k : Nat) (a0 : ByteArray) : Option (ByteArray × ByteArray × Int × ByteArray × ByteArray × ByteArray × Bool × Bool × Int) :=
 (Yle.f a0).bind fun c =>
  if (c.size : Int) > 2048 then some (Yac 5) else
   (Yj.f k c ⟨#[]⟩ ⟨#[]⟩ 0 ⟨#[]⟩ ⟨#[]⟩ ⟨#[]⟩ false false).bind fun x =>
    if ¬ x.1 = 0 then some (Yac x.1) else
     (Yfc.f k x.2.1 x.2.2.1 x.2.2.2.1 x.2.2.2.2.1 x.2.2.2.2.2.1 x.2.2.2.2.2.2.1 x.2.2.2.2.2.2.2.1 x.2.2.2.2.2.2.2.2.1 x.2.2.2.2.2.2.2.2.2).bind fun y =>
      if ¬ y.1 = 0 then some (Yac y.1) else
       (Yyb.f y.2.1 y.2.2.1 y.2.2.2.1 y.2.2.2.2.1 y.2.2.2.2.2.1 y.2.2.2.2.2.2.1 y.2.2.2.2.2.2.2.1 y.2.2.2.2.2.2.2.2.1 y.2.2.2.2.2.2.2.2.2).bind fun z =>
        (Ymc.f k z.2.1 z.2.2.1 z.2.2.2.1 z.2.2.2.2.1 z.2.2.2.2.2.1 z.2.2.2.2.2.2.1 z.2.2.2.2.2.2.2.1 z.2.2.2.2.2.2.2.2).bind fun t =>
         if (t.size : Int) > 2048 then some (Yac 5) else some (z.2.1, z.2.2.1, z.2.2.2.1, z.2.2.2.2.1, z.2.2.2.2.2.1, z.2.2.2.2.2.2.1, z.2.2.2.2.2.2.2.1, z.2.2.2.2.2.2.2.2, 0)
theorem Yuj {w w' : World} {g b : Nat} {o : Obj} (h : w.heap[b]? = some o) (k : KeepBut w w' g none) (hne : b ≠ g) : w'.heap[b]? = some o := k.blk h hne Zy
theorem Yua {w w' : World} {b : Nat} {o : Obj} (h : w.heap[b]? = some o) (k : Below w.heap.size w w') : w'.heap[b]? = some o := by
 rw [k.block _ (Array.getElem?_eq_some_iff.1 h).1]; exact h
theorem Yad {P : Program} {fn : Func} {p u : Tmp} {ty : TypeId} (h : fn.results = #[.cell p ty, .tmp u]) (tmps : Array Value) (w : World) (g : Nat) (t : TypeId) (cs : Array Value) (fr : Nat × Nat) (d : TypeDesc)
  (hp : tmps.getD p undef = .pointer (some ⟨g, 0, none⟩)) (hg : w.heap[g]? = some (.cells cs t fr))
  (hu : P.underlying ty = some d) (hd : (match d with | .struct _ | .array _ _ => true | _ => false) = true) (hi : (P.info? ty).map (·.size) = some cs.size) :
  (results fn tmps).run P w = .ok (.tuple #[.agg cs, tmps.getD u undef]) w := by
 have hp' : tmps[p]?.getD undef = .pointer (some ⟨g, 0, none⟩) := by simpa using hp
 rw [results_cell_tmp h]
 simp [hp', asAddr, run_loadVar_row w g t ty cs fr d hg hu hd hi, Result.andThen]
abbrev urlZ : Array Value := #[.string ⟨#[]⟩, .string ⟨#[]⟩, .int .i64 0, .string ⟨#[]⟩, .string ⟨#[]⟩, .string ⟨#[]⟩, .bool false, .bool false]
theorem Yni (a b : ByteArray) (c : Int) (d e f : ByteArray) (g h : Bool) : ((#[.string a, .string b, .int .i64 c, .string d, .string e, .string f, .bool g, .bool h] : Array Value).all (·.oneCell')) = true := by
 simp [Value.oneCell']
set_option maxHeartbeats 8000000 in
set_option maxRecDepth 100000 in
theorem Yxa.calls (k : Nat) (a0 : ByteArray) (r1 r2 : ByteArray) (r3 : Int) (r4 r5 r6 : ByteArray) (r7 r8 : Bool) (r9 : Int) (w : World) (hE : EnvOk w) (h : Yxa.f k a0 = some (r1, r2, r3, r4, r5, r6, r7, r8, r9)) :
  Calls Tryz.prog 37 #[.string a0] w fun e w' => e = .returned (.tuple #[.agg #[.string r1, .string r2, .int .i64 r3, .string r4, .string r5, .string r6, .bool r7, .bool r8], .int .i64 r9]) ∧ Below w.heap.size w w' := by
 unfold Yxa.f at h
 obtain ⟨c, hc, h⟩ := Option.bind_eq_some_iff.1 h
 have HC := Ya.mk hc
 have HE := Ya.mk hE
 have HH := Ya.mk h
 have hu81 := Tryz.underlying81
 have hi81 : (Tryz.prog.info? 81).map (·.size) = some 8 := by kernel_rfl
 clear hc hE h
 go_enter Tryz.func37, Tryz.ntmps37
 go_wp2_with fail
 refine (Yle.calls a0 c _ (HE.out.below ((Below.refl _ _).alloc (Nat.le_refl _) _)) HC.out).mono ?_
 rintro e w1 ⟨rfl, hb1⟩
 have hr := Yua (heap_alloc_new w (.cells #[.string ⟨#[]⟩, .string ⟨#[]⟩, .int .i64 0, .string ⟨#[]⟩, .string ⟨#[]⟩, .string ⟨#[]⟩, .bool false, .bool false] 81)) hb1
 have HB1 := Ya.mk (((Below.refl w.heap.size w).alloc (Nat.le_refl _) (.cells #[.string ⟨#[]⟩, .string ⟨#[]⟩, .int .i64 0, .string ⟨#[]⟩, .string ⟨#[]⟩, .string ⟨#[]⟩, .bool false, .bool false] 81)).trans (hb1.mono Zy))
 have HL1 := Ya.mk (show w.heap.size < w1.heap.size from (Array.getElem?_eq_some_iff.1 hr).1)
 have HI1 := Ya.mk (IsS101.new w w1 c ⟨#[]⟩ ⟨#[]⟩ 0 ⟨#[]⟩ ⟨#[]⟩ ⟨#[]⟩ false false HB1.out)
 have HR1 := Ya.mk (Yca hr (.cells #[.string c, .string ⟨#[]⟩, .string ⟨#[]⟩, .int .i64 0, .string ⟨#[]⟩, .string ⟨#[]⟩, .string ⟨#[]⟩, .bool false, .bool false] 101))
 have HBA := Ya.mk (HB1.out.alloc HB1.out.size (.cells #[.string c, .string ⟨#[]⟩, .string ⟨#[]⟩, .int .i64 0, .string ⟨#[]⟩, .string ⟨#[]⟩, .string ⟨#[]⟩, .bool false, .bool false] 101))
 clear hr hb1
 have hld := Yy HI1.out.1
 by_cases hlen : (c.size : Int) > 2048
 ·have hd : decide ((2048 : Int) < (c.size : Int)) = true := decide_eq_true hlen
  have hh := HH.out
  rw [if_pos hlen] at hh
  simp only [Yac, Option.some.injEq, Prod.mk.injEq] at hh
  obtain ⟨rfl, rfl, rfl, rfl, rfl, rfl, rfl, rfl, rfl⟩ := hh
  go_wp2_with (refine wpList_store_row rfl 81 (.tmp 2) (.tmp 19) rfl w.heap.size _ rfl rfl 81 _ HR1.out hi81 rfl (Yni _ _ _ _ _ _ _ _) ?_)
  refine bodyPost_ret (v := ?v1) ?hr1 ?hd1 ?_
  case hr1 => refine Yad (p := 2) (u := 3) (ty := 81) ?_ _ _ w.heap.size 81 urlZ (0, 0) _ ?_ (setRow_heap _ _ _ _ _ _ HR1.out) hu81 rfl hi81 <;> rfl
  case hd1 => rfl
  exact ⟨rfl, below_setRow HBA.out (Nat.le_refl _) _⟩
 ·have hd : decide ((2048 : Int) < (c.size : Int)) = false := decide_eq_false hlen
  have hh := HH.out
  rw [if_neg hlen] at hh
  clear HH
  obtain ⟨⟨x1, x2, x3, x4, x5, x6, x7, x8, x9, x10⟩, hx, hh⟩ := Option.bind_eq_some_iff.1 hh
  have HX := Ya.mk hx
  have HH := Ya.mk hh
  clear hx hh
  go_wp2_with fail
  clear hld hd
  obtain ⟨g, hgg⟩ : ∃ n, n = w1.heap.size := ⟨_, rfl⟩
  rw [← hgg] at HI1 HL1 ⊢
  clear hgg
  obtain ⟨w2, hw⟩ : ∃ W, W = w1.alloc (.cells #[.string c, .string ⟨#[]⟩, .string ⟨#[]⟩, .int .i64 0, .string ⟨#[]⟩, .string ⟨#[]⟩, .string ⟨#[]⟩, .bool false, .bool false] 101) := ⟨_, rfl⟩
  rw [← hw] at HI1 HR1 HBA ⊢
  clear hw
  refine (Yj.calls k g _ _ _ _ _ _ _ _ _ _ _ _ _ _ _ _ _ _ _ w _ HE.out HI1.out HBA.out HX.out).mono ?_
  rintro e w3 ⟨rfl, hix, hbx, hkx⟩
  have HI3 := Ya.mk hix
  have HB3 := Ya.mk hbx
  have HR3 := Ya.mk (Yuj HR1.out hkx (Nat.ne_of_lt HL1.out))
  clear hix hbx hkx HI1 HBA HR1
  by_cases he1 : x1 = 0
  ·subst he1
   have hh := HH.out
   rw [if_neg Zy] at hh
   clear HH
   obtain ⟨⟨y1, y2, y3, y4, y5, y6, y7, y8, y9, y10⟩, hy, hh⟩ := Option.bind_eq_some_iff.1 hh
   have HY := Ya.mk hy
   have HH := Ya.mk hh
   clear hy hh
   go_wp2_with fail
   refine (Yfc.calls k g _ _ _ _ _ _ _ _ _ _ _ _ _ _ _ _ _ _ _ w _ HE.out HI3.out HB3.out HY.out).mono ?_
   rintro e w4 ⟨rfl, hix, hbx, hkx⟩
   have HI4 := Ya.mk hix
   have HB4 := Ya.mk hbx
   have HR4 := Ya.mk (Yuj HR3.out hkx (Nat.ne_of_lt HL1.out))
   clear hix hbx hkx HI3 HB3 HR3
   by_cases he2 : y1 = 0
   ·subst he2
    have hh := HH.out
    rw [if_neg Zy] at hh
    clear HH
    obtain ⟨⟨z1, z2, z3, z4, z5, z6, z7, z8, z9⟩, hz, hh⟩ := Option.bind_eq_some_iff.1 hh
    obtain ⟨t, ht, hh⟩ := Option.bind_eq_some_iff.1 hh
    have HZ := Ya.mk hz
    have HT := Ya.mk ht
    have HH := Ya.mk hh
    clear hz hh ht
    go_wp2_with fail
    refine (Yyb.calls g _ _ _ _ _ _ _ _ _ _ _ _ _ _ _ _ _ _ w _ HE.out HI4.out HB4.out HZ.out).mono ?_
    rintro e w5 ⟨rfl, hix, hbx, hkx⟩
    have HI5 := Ya.mk hix
    have HB5 := Ya.mk hbx
    have HR5 := Ya.mk (Yuj HR4.out hkx (Nat.ne_of_lt HL1.out))
    clear hix hbx hkx HI4 HB4 HR4
    have hc1 := Yia HI5.out.1
    have hc2 := Yja HI5.out.1
    have hc3 := Yka HI5.out.1
    have hc4 := Yga HI5.out.1
    have hc5 := Yea HI5.out.1
    have hc6 := Yaa HI5.out.1
    have hc7 := Yda HI5.out.1
    have hc8 := Yba HI5.out.1
    go_wp2_with fail
    clear hc1 hc2 hc3 hc4 hc5 hc6 hc7 hc8
    refine (Ymc.calls k _ _ _ _ _ _ _ _ _ _ (HE.out.below HB5.out) HT.out).mono ?_
    rintro e w6 ⟨rfl, hbx⟩
    have HI6 := Ya.mk (HI5.out.below hbx)
    have HB6 := Ya.mk (HB5.out.trans (hbx.mono HB5.out.size))
    have HR6 := Ya.mk (Yua HR5.out hbx)
    clear hbx HI5 HB5 HR5
    by_cases hlt : (t.size : Int) > 2048
    ·have hd : decide ((2048 : Int) < (t.size : Int)) = true := decide_eq_true hlt
     have hh := HH.out
     rw [if_pos hlt] at hh
     simp only [Yac, Option.some.injEq, Prod.mk.injEq] at hh
     obtain ⟨rfl, rfl, rfl, rfl, rfl, rfl, rfl, rfl, rfl⟩ := hh
     go_wp2_with (refine wpList_store_row rfl 81 (.tmp 2) (.tmp 41) rfl w.heap.size _ rfl rfl 81 _ HR6.out hi81 rfl (Yni _ _ _ _ _ _ _ _) ?_)
     refine bodyPost_ret (v := ?v2) ?hr2 ?hd2 ?_
     case hr2 => refine Yad (p := 2) (u := 3) (ty := 81) ?_ _ _ w.heap.size 81 urlZ (0, 0) _ ?_ (setRow_heap _ _ _ _ _ _ HR6.out) hu81 rfl hi81 <;> rfl
     case hd2 => rfl
     exact ⟨rfl, below_setRow HB6.out (Nat.le_refl _) _⟩
    ·have hd : decide ((2048 : Int) < (t.size : Int)) = false := decide_eq_false hlt
     have hh := HH.out
     rw [if_neg hlt] at hh
     simp only [Option.some.injEq, Prod.mk.injEq] at hh
     obtain ⟨rfl, rfl, rfl, rfl, rfl, rfl, rfl, rfl, rfl⟩ := hh
     have hc1 := Yia HI6.out.1
     have hc2 := Yja HI6.out.1
     have hc3 := Yka HI6.out.1
     have hc4 := Yga HI6.out.1
     have hc5 := Yea HI6.out.1
     have hc6 := Yaa HI6.out.1
     have hc7 := Yda HI6.out.1
     have hc8 := Yba HI6.out.1
     go_wp2_with (refine wpList_store_row rfl 81 (.tmp 2) (.tmp 45) rfl w.heap.size _ rfl rfl 81 _ HR6.out hi81 rfl (Yni _ _ _ _ _ _ _ _) ?_)
     refine bodyPost_ret (v := ?v3) ?hr3 ?hd3 ?_
     case hr3 => refine Yad (p := 2) (u := 3) (ty := 81) ?_ _ _ w.heap.size 81 #[.string z2, .string z3, .int .i64 z4, .string z5, .string z6, .string z7, .bool z8, .bool z9] (0, 0) _ ?_ (setRow_heap _ _ _ _ _ _ HR6.out) hu81 rfl hi81 <;> rfl
     case hd3 => rfl
     exact ⟨rfl, below_setRow HB6.out (Nat.le_refl _) _⟩
   ·have hh := HH.out
    rw [if_pos he2] at hh
    simp only [Yac, Option.some.injEq, Prod.mk.injEq] at hh
    obtain ⟨rfl, rfl, rfl, rfl, rfl, rfl, rfl, rfl, rfl⟩ := hh
    have hd : decide (y1 = 0) = false := decide_eq_false he2
    go_wp2_with (refine wpList_store_row rfl 81 (.tmp 2) (.tmp 30) rfl w.heap.size _ rfl rfl 81 _ HR4.out hi81 rfl (Yni _ _ _ _ _ _ _ _) ?_)
    refine bodyPost_ret (v := ?v4) ?hr4 ?hd4 ?_
    case hr4 => refine Yad (p := 2) (u := 3) (ty := 81) ?_ _ _ w.heap.size 81 urlZ (0, 0) _ ?_ (setRow_heap _ _ _ _ _ _ HR4.out) hu81 rfl hi81 <;> rfl
    case hd4 => rfl
    exact ⟨rfl, below_setRow HB4.out (Nat.le_refl _) _⟩
  ·have hh := HH.out
   rw [if_pos he1] at hh
   simp only [Yac, Option.some.injEq, Prod.mk.injEq] at hh
   obtain ⟨rfl, rfl, rfl, rfl, rfl, rfl, rfl, rfl, rfl⟩ := hh
   have hd : decide (x1 = 0) = false := decide_eq_false he1
   go_wp2_with (refine wpList_store_row rfl 81 (.tmp 2) (.tmp 24) rfl w.heap.size _ rfl rfl 81 _ HR3.out hi81 rfl (Yni _ _ _ _ _ _ _ _) ?_)
   refine bodyPost_ret (v := ?v5) ?hr5 ?hd5 ?_
   case hr5 => refine Yad (p := 2) (u := 3) (ty := 81) ?_ _ _ w.heap.size 81 urlZ (0, 0) _ ?_ (setRow_heap _ _ _ _ _ _ HR3.out) hu81 rfl hi81 <;> rfl
   case hd5 => rfl
   exact ⟨rfl, below_setRow HB3.out (Nat.le_refl _) _⟩
end Go.Proofs.YtfmjnmglagdcdaaGreatDoor.X
