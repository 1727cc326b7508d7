import Derived.Test.YtnmglnglbdpjjaaGreatDoorUfH3b
import Derived.Laws.CopyOwn
set_option linter.all false
section
namespace Go.Proofs.YtnmglnglbdpjjaaGreatDoor.X
open Go.RowKit Go.Lib Go.Shelf Go.Yw.PrintWords Go.Yw.PrintLast Go.Yw.PrintMore
abbrev UrlT := Y × Y × Int × Y × Y × Y × Bool × Bool
def Ytb (e : Int) : Y × Y × Int × Y × Y × Y × Bool × Bool × Int := (⟨#[]⟩, ⟨#[]⟩, 0, ⟨#[]⟩, ⟨#[]⟩, ⟨#[]⟩, false, false, e)
def Yrd.f (k : Nat) (a0 : Y) : Option (Y × Y × Int × Y × Y × Y × Bool × Bool × Int) :=
 (Yxd.f a0).bind fun c =>
  if (c.size : Int) > 2048 then some (Ytb 5) else
   (Yu.f k c ⟨#[]⟩ ⟨#[]⟩ 0 ⟨#[]⟩ ⟨#[]⟩ ⟨#[]⟩ false false).bind fun x =>
    if ¬ x.1 = 0 then some (Ytb x.1) else
     (Yjf.f k x.2.1 x.2.2.1 x.2.2.2.1 x.2.2.2.2.1 x.2.2.2.2.2.1 x.2.2.2.2.2.2.1 x.2.2.2.2.2.2.2.1 x.2.2.2.2.2.2.2.2.1 x.2.2.2.2.2.2.2.2.2).bind fun y =>
      if ¬ y.1 = 0 then some (Ytb y.1) else
       (Yvd.f y.2.1 y.2.2.1 y.2.2.2.1 y.2.2.2.2.1 y.2.2.2.2.2.1 y.2.2.2.2.2.2.1 y.2.2.2.2.2.2.2.1 y.2.2.2.2.2.2.2.2.1 y.2.2.2.2.2.2.2.2.2).bind fun z =>
        (Yid.f k z.2.1 z.2.2.1 z.2.2.2.1 z.2.2.2.2.1 z.2.2.2.2.2.1 z.2.2.2.2.2.2.1 z.2.2.2.2.2.2.2.1 z.2.2.2.2.2.2.2.2).bind fun t =>
         if (t.size : Int) > 2048 then some (Ytb 5) else some (z.2.1, z.2.2.1, z.2.2.2.1, z.2.2.2.2.1, z.2.2.2.2.2.1, z.2.2.2.2.2.2.1, z.2.2.2.2.2.2.2.1, z.2.2.2.2.2.2.2.2, 0)
theorem Yom {w w' : World} {g b : Nat} {o : Obj} (h : w.heap[b]? = some o) (k : KeepBut w w' g none) (hne : b ≠ g) : w'.heap[b]? = some o := k.blk h hne Zv
theorem Yla {w w' : World} {b : Nat} {o : Obj} (h : w.heap[b]? = some o) (k : Below w.heap.size w w') : w'.heap[b]? = some o := by
 rw [k.block _ (Array.getElem?_eq_some_iff.1 h).1]; exact h
theorem Yba {P : Program} {fn : Func} {p u : Tmp} {ty : TypeId} (h : fn.results = #[.cell p ty, .tmp u]) (tmps : Array Value) (w : World) (g : Nat) (t : TypeId) (cs : Array Value) (fr : Nat × Nat) (d : TypeDesc)
  (hp : tmps.getD p undef = .pointer (some ⟨g, 0, none⟩)) (hg : w.heap[g]? = some (.cells cs t fr))
  (hu : P.underlying ty = some d) (hd : (match d with | .struct _ | .array _ _ => true | _ => false) = true) (hi : (P.info? ty).map (·.size) = some cs.size) :
  (results fn tmps).run P w = .ok (.tuple #[.agg cs, tmps.getD u undef]) w := by
 have hp' : tmps[p]?.getD undef = .pointer (some ⟨g, 0, none⟩) := by simpa using hp
 rw [results_cell_tmp h]
 simp [hp', asAddr, run_loadVar_row w g t ty cs fr d hg hu hd hi, Result.andThen]
abbrev urlZ : Array Value := #[.string ⟨#[]⟩, .string ⟨#[]⟩, .int .i64 0, .string ⟨#[]⟩, .string ⟨#[]⟩, .string ⟨#[]⟩, .bool false, .bool false]
theorem Ypb (a b : Y) (c : Int) (d e f : Y) (g h : Bool) : ((#[.string a, .string b, .int .i64 c, .string d, .string e, .string f, .bool g, .bool h] : Array Value).all (·.oneCell')) = true := by
 simp [Value.oneCell']
set_option maxHeartbeats 8000000 in
set_option maxRecDepth 100000 in
theorem Yrd.calls (k : Nat) (a0 r1 r2 : Y) (r3 : Int) (r4 r5 r6 : Y) (r7 r8 : Bool) (r9 : Int) (w : World) (hE : EnvOk w) (h : Yrd.f k a0 = some (r1, r2, r3, r4, r5, r6, r7, r8, r9)) :
  Calls Tryz.prog 15 #[.string a0] w fun e w' => e = .returned (.tuple #[.agg #[.string r1, .string r2, .int .i64 r3, .string r4, .string r5, .string r6, .bool r7, .bool r8], .int .i64 r9]) ∧ Below w.heap.size w w' := by
 unfold Yrd.f at h
 obtain ⟨c, hc, h⟩ := Option.bind_eq_some_iff.1 h
 have HC := Ya.mk hc
 have HE := Ya.mk hE
 have HH := Ya.mk h
 have bQ := Tryz.underlying25
 have bD : (Tryz.prog.info? 25).map (·.size) = some 8 := by kernel_rfl
 clear hc hE h
 go_enter Tryz.func15, Tryz.ntmps15
 go_wp2_with fail
 refine (Yxd.calls a0 c _ (HE.out.below ((Below.refl _ _).alloc (Kw _) _)) HC.out).mono ?_
 rintro e w1 ⟨rfl, lS⟩
 have hr := Yla (heap_alloc_new w (.cells #[.string ⟨#[]⟩, .string ⟨#[]⟩, .int .i64 0, .string ⟨#[]⟩, .string ⟨#[]⟩, .string ⟨#[]⟩, .bool false, .bool false] 25)) lS
 have iB := Ya.mk (((Below.refl w.heap.size w).alloc (Kw _) (.cells #[.string ⟨#[]⟩, .string ⟨#[]⟩, .int .i64 0, .string ⟨#[]⟩, .string ⟨#[]⟩, .string ⟨#[]⟩, .bool false, .bool false] 25)).trans (lS.mono Zv))
 have HL1 := Ya.mk (show w.heap.size < w1.heap.size from (Array.getElem?_eq_some_iff.1 hr).1)
 have uY := Ya.mk (IsS53.new w w1 c ⟨#[]⟩ ⟨#[]⟩ 0 ⟨#[]⟩ ⟨#[]⟩ ⟨#[]⟩ false false iB.out)
 have uU := Ya.mk (Ym hr (.cells #[.string c, .string ⟨#[]⟩, .string ⟨#[]⟩, .int .i64 0, .string ⟨#[]⟩, .string ⟨#[]⟩, .string ⟨#[]⟩, .bool false, .bool false] 53))
 have HBA := Ya.mk (iB.out.alloc iB.out.size (.cells #[.string c, .string ⟨#[]⟩, .string ⟨#[]⟩, .int .i64 0, .string ⟨#[]⟩, .string ⟨#[]⟩, .string ⟨#[]⟩, .bool false, .bool false] 53))
 clear hr lS
 have hld := Yfc uY.out.1
 by_cases hlen : (c.size : Int) > 2048
 ·have hd : decide ((2048 : Int) < (c.size : Int)) = true := Kr hlen
  have hh := HH.out
  rw [if_pos hlen] at hh
  simp only [Ytb, Kda, Kea] at hh
  obtain ⟨rfl, rfl, rfl, rfl, rfl, rfl, rfl, rfl, rfl⟩ := hh
  go_wp2_with (refine wpList_store_row rfl 25 (.tmp 2) (.tmp 19) rfl w.heap.size _ rfl rfl 25 _ uU.out bD rfl (Ypb _ _ _ _ _ _ _ _) ?_)
  refine bodyPost_ret (v := ?v1) ?hr1 ?hd1 ?_
  case hr1 => refine Yba (p := 2) (u := 3) (ty := 25) ?_ _ _ w.heap.size 25 urlZ (0, 0) _ ?_ (setRow_heap _ _ _ _ _ _ uU.out) bQ rfl bD <;> rfl
  case hd1 => rfl
  exact ⟨rfl, below_setRow HBA.out (Kw _) _⟩
 ·have hd : decide ((2048 : Int) < (c.size : Int)) = false := Ks hlen
  have hh := HH.out
  rw [if_neg hlen] at hh
  clear HH
  obtain ⟨⟨x1, x2, x3, x4, x5, x6, x7, x8, x9, x10⟩, hx, hh⟩ := Option.bind_eq_some_iff.1 hh
  have HX := Ya.mk hx
  have HH := Ya.mk hh
  clear hx hh
  go_wp2_with fail
  clear hld hd
  obtain ⟨g, hgg⟩ : ∃ n, n = w1.heap.size := ⟨_, rfl⟩
  rw [← hgg] at uY HL1 ⊢
  clear hgg
  obtain ⟨w2, hw⟩ : ∃ W, W = w1.alloc (.cells #[.string c, .string ⟨#[]⟩, .string ⟨#[]⟩, .int .i64 0, .string ⟨#[]⟩, .string ⟨#[]⟩, .string ⟨#[]⟩, .bool false, .bool false] 53) := ⟨_, rfl⟩
  rw [← hw] at uY uU HBA ⊢
  clear hw
  refine (Yu.calls k g _ _ _ _ _ _ _ _ _ _ _ _ _ _ _ _ _ _ _ w _ HE.out uY.out HBA.out HX.out).mono ?_
  rintro e w3 ⟨rfl, hix, hbx, hkx⟩
  have oE := Ya.mk hix
  have eF := Ya.mk hbx
  have HR3 := Ya.mk (Yom uU.out hkx (Nat.ne_of_lt HL1.out))
  clear hix hbx hkx uY HBA uU
  by_cases he1 : x1 = 0
  ·subst he1
   have hh := HH.out
   rw [if_neg Zv] at hh
   clear HH
   obtain ⟨⟨y1, y2, y3, y4, y5, y6, y7, y8, y9, y10⟩, hy, hh⟩ := Option.bind_eq_some_iff.1 hh
   have HY := Ya.mk hy
   have HH := Ya.mk hh
   clear hy hh
   go_wp2_with fail
   refine (Yjf.calls k g _ _ _ _ _ _ _ _ _ _ _ _ _ _ _ _ _ _ _ w _ HE.out oE.out eF.out HY.out).mono ?_
   rintro e w4 ⟨rfl, hix, hbx, hkx⟩
   have vA := Ya.mk hix
   have dL := Ya.mk hbx
   have pW := Ya.mk (Yom HR3.out hkx (Nat.ne_of_lt HL1.out))
   clear hix hbx hkx oE eF HR3
   by_cases he2 : y1 = 0
   ·subst he2
    have hh := HH.out
    rw [if_neg Zv] at hh
    clear HH
    obtain ⟨⟨z1, z2, z3, z4, z5, z6, z7, z8, z9⟩, hz, hh⟩ := Option.bind_eq_some_iff.1 hh
    obtain ⟨t, ht, hh⟩ := Option.bind_eq_some_iff.1 hh
    have HZ := Ya.mk hz
    have HT := Ya.mk ht
    have HH := Ya.mk hh
    clear hz hh ht
    go_wp2_with fail
    refine (Yvd.calls g _ _ _ _ _ _ _ _ _ _ _ _ _ _ _ _ _ _ w _ HE.out vA.out dL.out HZ.out).mono ?_
    rintro e w5 ⟨rfl, hix, hbx, hkx⟩
    have oF := Ya.mk hix
    have cM := Ya.mk hbx
    have HR5 := Ya.mk (Yom pW.out hkx (Nat.ne_of_lt HL1.out))
    clear hix hbx hkx vA dL pW
    have cB := Ymc oF.out.1
    have cN := Ync oF.out.1
    have cX := Yoc oF.out.1
    have cU := Ykc oF.out.1
    have cT := Yjc oF.out.1
    have cY := Ygc oF.out.1
    have cR := Ylc oF.out.1
    have hc8 := Yhc oF.out.1
    go_wp2_with fail
    clear cB cN cX cU cT cY cR hc8
    refine (Yid.calls k _ _ _ _ _ _ _ _ _ _ (HE.out.below cM.out) HT.out).mono ?_
    rintro e w6 ⟨rfl, hbx⟩
    have zV := Ya.mk (oF.out.below hbx)
    have jH := Ya.mk (cM.out.trans (hbx.mono cM.out.size))
    have HR6 := Ya.mk (Yla HR5.out hbx)
    clear hbx oF cM HR5
    by_cases hlt : (t.size : Int) > 2048
    ·have hd : decide ((2048 : Int) < (t.size : Int)) = true := Kr hlt
     have hh := HH.out
     rw [if_pos hlt] at hh
     simp only [Ytb, Kda, Kea] at hh
     obtain ⟨rfl, rfl, rfl, rfl, rfl, rfl, rfl, rfl, rfl⟩ := hh
     go_wp2_with (refine wpList_store_row rfl 25 (.tmp 2) (.tmp 41) rfl w.heap.size _ rfl rfl 25 _ HR6.out bD rfl (Ypb _ _ _ _ _ _ _ _) ?_)
     refine bodyPost_ret (v := ?v2) ?hr2 ?hd2 ?_
     case hr2 => refine Yba (p := 2) (u := 3) (ty := 25) ?_ _ _ w.heap.size 25 urlZ (0, 0) _ ?_ (setRow_heap _ _ _ _ _ _ HR6.out) bQ rfl bD <;> rfl
     case hd2 => rfl
     exact ⟨rfl, below_setRow jH.out (Kw _) _⟩
    ·have hd : decide ((2048 : Int) < (t.size : Int)) = false := Ks hlt
     have hh := HH.out
     rw [if_neg hlt] at hh
     simp only [Kda, Kea] at hh
     obtain ⟨rfl, rfl, rfl, rfl, rfl, rfl, rfl, rfl, rfl⟩ := hh
     have cB := Ymc zV.out.1
     have cN := Ync zV.out.1
     have cX := Yoc zV.out.1
     have cU := Ykc zV.out.1
     have cT := Yjc zV.out.1
     have cY := Ygc zV.out.1
     have cR := Ylc zV.out.1
     have hc8 := Yhc zV.out.1
     go_wp2_with (refine wpList_store_row rfl 25 (.tmp 2) (.tmp 45) rfl w.heap.size _ rfl rfl 25 _ HR6.out bD rfl (Ypb _ _ _ _ _ _ _ _) ?_)
     refine bodyPost_ret (v := ?v3) ?hr3 ?hd3 ?_
     case hr3 => refine Yba (p := 2) (u := 3) (ty := 25) ?_ _ _ w.heap.size 25 #[.string z2, .string z3, .int .i64 z4, .string z5, .string z6, .string z7, .bool z8, .bool z9] (0, 0) _ ?_ (setRow_heap _ _ _ _ _ _ HR6.out) bQ rfl bD <;> rfl
     case hd3 => rfl
     exact ⟨rfl, below_setRow jH.out (Kw _) _⟩
   ·have hh := HH.out
    rw [if_pos he2] at hh
    simp only [Ytb, Kda, Kea] at hh
    obtain ⟨rfl, rfl, rfl, rfl, rfl, rfl, rfl, rfl, rfl⟩ := hh
    have hd : decide (y1 = 0) = false := Ks he2
    go_wp2_with (refine wpList_store_row rfl 25 (.tmp 2) (.tmp 30) rfl w.heap.size _ rfl rfl 25 _ pW.out bD rfl (Ypb _ _ _ _ _ _ _ _) ?_)
    refine bodyPost_ret (v := ?v4) ?hr4 ?hd4 ?_
    case hr4 => refine Yba (p := 2) (u := 3) (ty := 25) ?_ _ _ w.heap.size 25 urlZ (0, 0) _ ?_ (setRow_heap _ _ _ _ _ _ pW.out) bQ rfl bD <;> rfl
    case hd4 => rfl
    exact ⟨rfl, below_setRow dL.out (Kw _) _⟩
  ·have hh := HH.out
   rw [if_pos he1] at hh
   simp only [Ytb, Kda, Kea] at hh
   obtain ⟨rfl, rfl, rfl, rfl, rfl, rfl, rfl, rfl, rfl⟩ := hh
   have hd : decide (x1 = 0) = false := Ks he1
   go_wp2_with (refine wpList_store_row rfl 25 (.tmp 2) (.tmp 24) rfl w.heap.size _ rfl rfl 25 _ HR3.out bD rfl (Ypb _ _ _ _ _ _ _ _) ?_)
   refine bodyPost_ret (v := ?v5) ?hr5 ?hd5 ?_
   case hr5 => refine Yba (p := 2) (u := 3) (ty := 25) ?_ _ _ w.heap.size 25 urlZ (0, 0) _ ?_ (setRow_heap _ _ _ _ _ _ HR3.out) bQ rfl bD <;> rfl
   case hd5 => rfl
   exact ⟨rfl, below_setRow eF.out (Kw _) _⟩
end Go.Proofs.YtnmglnglbdpjjaaGreatDoor.X
end
section
namespace Go.Proofs.YtnmglnglbdpjjaaGreatDoor.X
open Go.RowKit Go.Lib Go.Shelf Go.Yw.PrintWords Go.Yw.PrintLast Go.Yw.PrintMore
def okB (b : UInt8) : Bool := decide (32 < b.toNat) && (decide (b.toNat < 127) && (!Yrc.contains b && (b != 47 && b != 92)))
def okL (l : List UInt8) : Prop := ∀ b ∈ l, okB b = true
theorem okB_part (b : UInt8) : b ≠ 47 → b ≠ 92 → ∀ c ∈ Yug Yrc b, okB c = true := by
 revert b; exact Yad Zma
theorem Yip (b : UInt8) : okB b = true → Yug Yrc b = [b] ∧ Yih b = b ∧ b ≠ 47 := by
 revert b; exact Yad Zma
theorem okL_part {l : List UInt8} (h1 : 47 ∉ l) (h2 : 92 ∉ l) : okL (Yic Yrc l) := by
 intro c hc
 unfold Yic at hc
 obtain ⟨b, hb, hc⟩ := List.mem_flatMap.1 hc
 exact okB_part b (fun e => h1 (e ▸ hb)) (fun e => h2 (e ▸ hb)) c hc
theorem Yss {l : List UInt8} (h : okL l) : Yic Yrc l = l := by
 induction l with
 | nil => rfl
 | cons b l ih =>
  unfold Yic at ih ⊢
  rw [List.flatMap_cons, (Yip b (h b Zv)).1, ih (fun c hc => h c (by simp [hc]))]; rfl
theorem Yhq {l : List UInt8} (h : okL l) : Yxc l = l := by
 induction l with
 | nil => rfl
 | cons b l ih =>
  unfold Yxc at ih ⊢
  rw [List.map_cons, (Yip b (h b Zv)).2.1, ih (fun c hc => h c (by simp [hc]))]
theorem okL_47 {l : List UInt8} (h : okL l) : 47 ∉ l := fun hm => (Yip 47 (h 47 hm)).2.2 rfl
theorem slashL_92 (l : List UInt8) : 92 ∉ Yxc l := by
 unfold Yxc
 intro h
 obtain ⟨b, _, hb⟩ := List.mem_map.1 h
 revert hb
 unfold Yih
 split
 ·decide
 ·assumption
theorem Ycp (c : UInt8) (l : List UInt8) : ∀ y ∈ splitB c l, c ∉ y ∧ ∀ b ∈ y, b ∈ l := by
 induction l with
 | nil => intro y hy; simp [splitB] at hy; subst hy; simp
 | cons a l ih =>
  intro y hy
  rw [splitB] at hy
  split at hy
  ·rcases List.mem_cons.1 hy with rfl | hy
   ·simp
   ·exact ⟨(ih y hy).1, fun b hb => List.mem_cons_of_mem _ ((ih y hy).2 b hb)⟩
  ·next hne =>
   cases hs : splitB c l with
   | nil => exact absurd hs (Ytf c l)
   | cons x r =>
    rw [hs] at hy ih
    simp only [Ymf] at hy
    rcases List.mem_cons.1 hy with rfl | hy
    ·have := ih x Zv
     refine ⟨fun hm => ?_, fun b hb => ?_⟩
     ·rcases List.mem_cons.1 hm with e | hm
      ·exact hne e.symm
      ·exact this.1 hm
     ·rcases List.mem_cons.1 hb with rfl | hb
      ·simp
      ·exact List.mem_cons_of_mem _ (this.2 b hb)
    ·have := ih y (by simp [hy])
     exact ⟨this.1, fun b hb => List.mem_cons_of_mem _ (this.2 b hb)⟩
theorem Yho (c : UInt8) (x l : List UInt8) (h : c ∉ x) : ∀ y r, splitB c l = y :: r → splitB c (x ++ l) = (x ++ y) :: r := by
 induction x with
 | nil => intro y r e; exact e
 | cons a x ih =>
  intro y r e
  rw [List.cons_append, splitB, if_neg (fun e => h (by simp [e])), ih (fun hm => h (by simp [hm])) y r e]
  rfl
theorem Yrs : ∀ (r : List (List UInt8)) (x : List UInt8), (∀ y ∈ x :: r, 47 ∉ y) → splitB 47 (x ++ Lib.joinTail [47] r) = x :: r := by
 intro r
 induction r with
 | nil =>
  intro x h
  rw [Yho 47 x _ (h x Zv) [] [] rfl, List.append_nil]
 | cons y r ih =>
  intro x h
  have e : Lib.joinTail [47] (y :: r) = 47 :: (y ++ Lib.joinTail [47] r) := by simp [Lib.joinTail]
  rw [Yho 47 x _ (h x Zv) [] (y :: r) (by rw [e, splitB, if_pos rfl, ih y (fun z hz => h z (List.mem_cons_of_mem _ hz))]), List.append_nil]
def Yak (out : List (List UInt8)) : Prop := ∀ x ∈ out, okL x ∧ Yqg x = 0
theorem dotsN_nil : Yqg [] = 0 := by decide +kernel
theorem Ydu {last : Bool} {out : List (List UInt8)} {p : List UInt8} (ho : Yak out) (h1 : 47 ∉ p) (h2 : 92 ∉ p) : Yak (Ydd last out p) := by
 have hp := okL_part h1 h2
 have ht : Yak (out.take (out.length - 1)) := fun x hx => ho x (List.mem_of_mem_take hx)
 have hn : ∀ o : List (List UInt8), Yak o → Yak (o ++ [[]]) := fun o hk x hx => by
  rcases List.mem_append.1 hx with hx | hx
  ·exact hk x hx
  ·obtain rfl := List.mem_singleton.1 hx
   exact ⟨(fun b hb => by cases hb), dotsN_nil⟩
 unfold Ydd
 split
 ·next h0 =>
  intro x hx
  rcases List.mem_append.1 hx with hx | hx
  ·exact ho x hx
  ·obtain rfl := List.mem_singleton.1 hx
   exact ⟨hp, h0⟩
 ·split <;> split <;> (first | exact hn _ ht | exact hn _ ho | exact ht | exact ho)
theorem Yrp {out : List (List UInt8)} {p : List UInt8} : Ydd true out p ≠ [] := by
 unfold Ydd
 split
 ·simp
 ·rw [if_pos rfl]; simp
theorem Ylu : ∀ (ps : List (List UInt8)) (out : List (List UInt8)), Yak out → (∀ p ∈ ps, 47 ∉ p ∧ 92 ∉ p) → Yak (Ysc ps out) ∧ (ps ≠ [] → Ysc ps out ≠ []) := by
 intro ps
 induction ps with
 | nil => intro out ho _; exact ⟨ho, fun h => absurd rfl h⟩
 | cons p ps ih =>
  intro out ho hp
  rw [Ysc]
  have h := ih (Ydd ps.isEmpty out p) (Ydu ho (hp p Zv).1 (hp p Zv).2) (fun q hq => hp q (List.mem_cons_of_mem _ hq))
  refine ⟨h.1, fun _ => ?_⟩
  cases ps with
  | nil => exact Yrp
  | cons q qs => exact h.2 Zv
theorem Yer : ∀ (ps out : List (List UInt8)), Yak ps → Ysc ps out = out ++ ps := by
 intro ps
 induction ps with
 | nil => intro out _; simp [Ysc]
 | cons p ps ih =>
  intro out hp
  have h1 := hp p Zv
  rw [Ysc, Ypj (by rw [Yss h1.1]; exact h1.2), Yss h1.1, ih _ (fun x hx => hp x (List.mem_cons_of_mem _ hx))]
  simp
theorem Ycl (l : List UInt8) : (∀ p ∈ Yhd l, 47 ∉ p ∧ 92 ∉ p) ∧ Yhd l ≠ [] := by
 have hm : ∀ p ∈ splitB 47 (Yxc l), 47 ∉ p ∧ 92 ∉ p := fun p hp => ⟨(Ycp 47 _ p hp).1, fun h => slashL_92 l ((Ycp 47 _ p hp).2 92 h)⟩
 unfold Yhd
 split
 ·next h =>
  refine ⟨fun p hp => hm p (List.mem_of_mem_tail hp), fun e => ?_⟩
  have h1 : 1 < (splitB 47 (Yxc l)).length := by
   simp only [Bool.and_eq_true, decide_eq_true_eq] at h
   exact h.1
  have : (splitB 47 (Yxc l)).tail.length = 0 := by rw [e]; rfl
  rw [List.length_tail] at this; omega
 ·exact ⟨hm, Ytf _ _⟩
theorem Yjk (l : List UInt8) : ∃ x r, Yxe l = 47 :: (x ++ Lib.joinTail [47] r) ∧ Yak (x :: r) := by
 have h := Ylu (Yhd l) [] (fun _ h => by cases h) (Ycl l).1
 have h2 := h.2 (Ycl l).2
 unfold Yxe
 cases ho : Ysc (Yhd l) [] with
 | nil => exact absurd ho h2
 | cons x r => exact ⟨x, r, by rw [Lib.join_cons], by rw [← ho]; exact h.1⟩
theorem Yos {x : List UInt8} {r : List (List UInt8)} (h : Yak (x :: r)) : splitB 47 (x ++ Lib.joinTail [47] r) = x :: r := Yrs r x (fun y hy => okL_47 (h y hy).1)
theorem Ylv {x : List UInt8} {r : List (List UInt8)} (h : Yak (x :: r)) : Yxc (x ++ Lib.joinTail [47] r) = x ++ Lib.joinTail [47] r := by
 induction r generalizing x with
 | nil =>
  have : Lib.joinTail [47] [] = [] := rfl
  rw [this, List.append_nil]; exact Yhq (h x Zv).1
 | cons y r ih =>
  have e : Lib.joinTail [47] (y :: r) = 47 :: (y ++ Lib.joinTail [47] r) := by simp [Lib.joinTail]
  have e1 := ih (x := y) (fun z hz => h z (List.mem_cons_of_mem _ hz))
  have e2 := Yhq (h x Zv).1
  rw [e]
  unfold Yxc at e1 e2 ⊢
  rw [List.map_append, e2, List.map_cons, e1]; rfl
theorem Yvs (l : List UInt8) : Yxe (Yxe l) = Yxe l := by
 obtain ⟨x, r, e, h⟩ := Yjk l
 have e1 : Yhd (Yxe l) = x :: r := by
  have e2 : splitB 47 (Yxc (Yxe l)) = [] :: x :: r := by
   have e3 : Yxc (Yxe l) = 47 :: (x ++ Lib.joinTail [47] r) := by
    rw [e]
    have := Ylv h
    unfold Yxc at this ⊢
    rw [List.map_cons, this]; rfl
   rw [e3, splitB, if_pos rfl, Yos h]
  unfold Yhd
  rw [e2]
  simp
 have e2 : Yxe (Yxe l) = 47 :: Lib.join (Ysc (Yhd (Yxe l)) []) [47] := rfl
 rw [e2, e1, Yer _ _ h, List.nil_append, Lib.join_cons, e]
theorem pathL_le (l : List UInt8) : (Yxe l).length ≤ 3 * l.length + 4 := by
 have h : ∀ (ps out : List (List UInt8)), tot (Ysc ps out) ≤ tot out + room ps := by
  intro ps
  induction ps with
  | nil => intro out; simp [Ysc, room]
  | cons p ps ih =>
   intro out
   rw [Ysc]
   have h1 := ih (Ydd ps.isEmpty out p)
   have h2 := Yji ps.isEmpty out p
   simp only [room, List.map_cons, List.sum_cons] at h1 ⊢
   omega
 have h1 := h (Yhd l) []
 have h2 := Yoi l
 have h3 := Ytn (Ysc (Yhd l) [])
 have h4 : tot [] = 0 := rfl
 unfold Yxe
 rw [List.length_cons]
 omega
end Go.Proofs.YtnmglnglbdpjjaaGreatDoor.X
end
