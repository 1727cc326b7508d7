/- Printed by a program of ours: functions as plain Lean, and what a call of each does. -/
import Derived.Test.YtnmglnglbdpjjaaGreatDoorUlWords
import Derived.Test.YtnmglnglbdpjjaaGreatDoorUlX0
import Derived.Test.YtnmglnglbdpjjaaGreatDoorUlX2
namespace Go.Proofs.YtnmglnglbdpjjaaGreatDoor.X
open Go.RowKit Go.Yw.PrintWords Go.Yw.PrintLast Go.Yw.PrintMore
attribute [local go_sem] Yxd Yae Yoe Yqe Yld Yjd Yyd Yzd
set_option linter.unusedVariables false
set_option linter.unusedSimpArgs false
set_option maxHeartbeats 8000000
set_option maxRecDepth 100000
def Yid.f (k : Nat) (aE aJ : ByteArray) (aN : Int) (aG aM aK : ByteArray) (aU aV : Bool) : Option (ByteArray) := (Yye.f k aE aJ aN aG aM aK aU aV).bind fun dW => (if dW.size + aG.size ≤ 9223372036854775807 then (if aU = true then (if 1 + aM.size ≤ 9223372036854775807 then (if (dW ++ aG).size + ((⟨#[63]⟩ : ByteArray) ++ aM).size ≤ 9223372036854775807 then (if aV = true then (if 1 + aK.size ≤ 9223372036854775807 then (if ((dW ++ aG) ++ ((⟨#[63]⟩ : ByteArray) ++ aM)).size + ((⟨#[35]⟩ : ByteArray) ++ aK).size ≤ 9223372036854775807 then (some (((dW ++ aG) ++ ((⟨#[63]⟩ : ByteArray) ++ aM)) ++ ((⟨#[35]⟩ : ByteArray) ++ aK))) else (none)) else (none)) else (some ((dW ++ aG) ++ ((⟨#[63]⟩ : ByteArray) ++ aM)))) else (none)) else (none)) else (if aV = true then (if 1 + aK.size ≤ 9223372036854775807 then (if (dW ++ aG).size + ((⟨#[35]⟩ : ByteArray) ++ aK).size ≤ 9223372036854775807 then (some ((dW ++ aG) ++ ((⟨#[35]⟩ : ByteArray) ++ aK))) else (none)) else (none)) else (some (dW ++ aG)))) else (none))
theorem Yid.calls (k : Nat) (aE aJ : ByteArray) (aN : Int) (aG aM aK : ByteArray) (aU aV : Bool) (r : ByteArray) (w : World) (hE : EnvOk w) (h : Yid.f k aE aJ aN aG aM aK aU aV = some r) :
  Calls Tryz.prog 26 #[.agg #[.string aE, .string aJ, .int .i64 aN, .string aG, .string aM, .string aK, .bool aU, .bool aV]] w fun e w' => e = .returned (.string r) ∧ Below w.heap.size w w' := by
 have bQ := Tryz.underlying25
 have HE := Ya.mk hE
 clear hE
 have HB := Ya.mk (Below.refl w.heap.size w)
 have H : ((Yye.f k aE aJ aN aG aM aK aU aV).bind fun dW => (if dW.size + aG.size ≤ 9223372036854775807 then (if aU = true then (if 1 + aM.size ≤ 9223372036854775807 then (if (dW ++ aG).size + ((⟨#[63]⟩ : ByteArray) ++ aM).size ≤ 9223372036854775807 then (if aV = true then (if 1 + aK.size ≤ 9223372036854775807 then (if ((dW ++ aG) ++ ((⟨#[63]⟩ : ByteArray) ++ aM)).size + ((⟨#[35]⟩ : ByteArray) ++ aK).size ≤ 9223372036854775807 then (some (((dW ++ aG) ++ ((⟨#[63]⟩ : ByteArray) ++ aM)) ++ ((⟨#[35]⟩ : ByteArray) ++ aK))) else (none)) else (none)) else (some ((dW ++ aG) ++ ((⟨#[63]⟩ : ByteArray) ++ aM)))) else (none)) else (none)) else (if aV = true then (if 1 + aK.size ≤ 9223372036854775807 then (if (dW ++ aG).size + ((⟨#[35]⟩ : ByteArray) ++ aK).size ≤ 9223372036854775807 then (some ((dW ++ aG) ++ ((⟨#[35]⟩ : ByteArray) ++ aK))) else (none)) else (none)) else (some (dW ++ aG)))) else (none))) = some r := h
 clear h
 replace H := Option.bind_eq_some_iff.mp H
 obtain ⟨dW, dV, H⟩ := H
 try dsimp -simprocs only at H
 have A2 := Ya.mk dV
 clear dV
 by_cases c3 : dW.size + aG.size ≤ 9223372036854775807
 rotate_left
 ·rw [if_neg c3] at H
  exact absurd H Zv
 rw [if_pos c3] at H
 have cB := eq_true c3
 have fV : decide (dW.size + aG.size ≤ 9223372036854775807) = true := decide_eq_true c3
 try have aAx : (9223372036854775807 < dW.size + aG.size) = False := eq_false (Nat.not_lt.2 c3)
 by_cases c4 : aU = true
 rotate_left
 ·replace c4 := Bool.eq_false_iff.mpr c4
  subst c4
  rw [if_neg (show ¬ (false = true) by decide)] at H
  by_cases eO : aV = true
  rotate_left
  ·replace eO := Bool.eq_false_iff.mpr eO
   subst eO
   rw [if_neg (show ¬ (false = true) by decide)] at H
   obtain rfl := Option.some.inj H
   go_enter Tryz.func26, Tryz.ntmps26
   try go_wp2_with (first | ((with_reducible refine Yad (N := 1) rfl ?_); refine Yzc ?hg (N := 1) ?hd (cs := #[.string aE, .string aJ, .int .i64 aN, .string aG, .string aM, .string aK, .bool false, .bool false]) (t := 25) ?hr ?_; (case hd => rfl); (case hg => rfl); (case hr => first | (go_simp; done) | (go_simp; rfl)); intro bH hg w25 hbox hb; have aH := Ya.mk (Yt Za hb); have aR := Ya.mk (hbox); have bK := Ya.mk ((by rw [hg]; exact (Yia Za) : w.heap.size ≤ bH)); have dM := Ya.mk ((by rw [hg]; exact (Yia Za) : w.heap.size ≤ bH)); clear HB; have HB := aH; have aI := aR; have aAy := bK; have vT := dM; clear aH aR bK dM; clear hb hbox hg))
   have aH := Ya.mk (Yp aI.out)
   have aR := Ya.mk (Yc HB.out)
   clear aI
   clear HB
   have aI := aH
   have HB := aR
   clear aH aR
   refine Yig (n := 6) (S := fun w' => w'.cell? ⟨bH, 0, none⟩ = some (.string aE) ∧ w'.cell? ⟨bH, 1, none⟩ = some (.string aJ) ∧ w'.cell? ⟨bH, 2, none⟩ = some (.int .i64 aN) ∧ w'.cell? ⟨bH, 3, none⟩ = some (.string aG) ∧ w'.cell? ⟨bH, 4, none⟩ = some (.string aM) ∧ w'.cell? ⟨bH, 5, none⟩ = some (.string aK) ∧ w'.cell? ⟨bH, 6, none⟩ = some (.bool false) ∧ w'.cell? ⟨bH, 7, none⟩ = some (.bool false)) (ds := []) #[false, false, false, false, false, false] Zi rfl rfl ⟨(Yf aI.out 0).trans rfl, (Yf aI.out 1).trans rfl, (Yf aI.out 2).trans rfl, (Yf aI.out 3).trans rfl, (Yf aI.out 4).trans rfl, (Yf aI.out 5).trans rfl, (Yf aI.out 6).trans rfl, (Yf aI.out 7).trans rfl⟩ (fun hHeld => ?_)
   generalize w25.drew = w26 at aI HB hHeld ⊢
   refine Ybb (i := 2) (N := some 6) (v := ?_) (a' := ?_) #[false, false, true, false, false, false] rfl rfl Zi (fun _ _ _ h => h) (Or.inl ⟨Zga, ?_⟩) ?_ ?_
   rotate_left
   ·exact Zxb
   rotate_left
   ·exact Zyb
   refine Ypf (i := 0) (N := some 4) (v := ?_) (a' := ?_) #[true, false, true, false, false, false] rfl rfl Zi (fun _ _ _ h => h) (Or.inl ⟨Zga, ?_⟩) hHeld ?_ ?_
   rotate_left
   ·exact Zzb
   rotate_left
   ·exact Zyb
   refine Ypf (i := 3) (N := some 7) (v := ?_) (a' := ?_) #[true, false, true, true, false, false] rfl rfl Zi (fun _ _ _ h => h) (Or.inl ⟨Zga, ?_⟩) hHeld ?_ ?_
   rotate_left
   ·exact Zzb
   rotate_left
   ·exact Zyb
   refine one_ (i := 1) (N := some 5) #[true, true, true, true, false, false] rfl rfl Zi Zda (fun K hK => ?_)
   refine Yyh Tryz.func29 Zi rfl #[.agg #[.string aE, .string aJ, .int .i64 aN, .string aG, .string aM, .string aK, .bool false, .bool false]] Zga rfl rfl Zb ?_
   with_reducible refine (Yye.calls k aE aJ aN aG aM aK false false dW _ ?side1 A2.out).mono ?_
   (case side1 => first | exact HE.out | exact EnvOk.below HE.out Zs)
   rintro e w27 ⟨rfl, hb⟩
   refine ⟨_, rfl, ?_⟩
   have aH := Ya.mk (Ykb (g := bH) (o := .cells #[.string aE, .string aJ, .int .i64 aN, .string aG, .string aM, .string aK, .bool false, .bool false] 25 (0, 0)) Zqa hb)
   have aR := Ya.mk (Yt Zs hb)
   clear aI
   clear HB
   have aI := aH
   have HB := aR
   clear aH aR
   (try clear hb)
   (try clear bU)
   (try clear hk)
   (try clear hi)
   refine hK.out _ _ ⟨(Yf aI.out 0).trans rfl, (Yf aI.out 1).trans rfl, (Yf aI.out 2).trans rfl, (Yf aI.out 3).trans rfl, (Yf aI.out 4).trans rfl, (Yf aI.out 5).trans rfl, (Yf aI.out 6).trans rfl, (Yf aI.out 7).trans rfl⟩ (fun hHeld => ?_)
   clear hK K
   refine Ylh (a' := ?_) ?_ ?_
   rotate_left
   ·show Act.put _ (some 5) _ = _
    simp only [Act.put, List.setIfInBounds_toArray, List.set_cons_zero, List.set_cons_succ, Yca, Yga]
    rfl
   refine Ybb (i := 4) (N := some 8) (v := ?_) (a' := ?_) #[true, true, true, true, true, false] rfl rfl Zi (fun _ _ _ h => h) (Or.inl ⟨Zga, ?_⟩) ?_ ?_
   rotate_left
   ·exact Zxb
   rotate_left
   ·exact Zyb
   refine Ybb (i := 5) (N := some 3) (v := ?_) (a' := ?_) #[true, true, true, true, true, true] rfl rfl Zi (fun _ _ _ h => h) (Or.inl ⟨Zga, ?_⟩) ?_ ?_
   rotate_left
   ·exact Zxb
   rotate_left
   ·exact Zyb
   refine Yrh Zi ?_
   have aKT : w27.cell? ⟨bH, 0, none⟩ = some (.string aE) := (Yf aI.out 0).trans rfl
   have aKU : w27.cell? ⟨bH, 1, none⟩ = some (.string aJ) := (Yf aI.out 1).trans rfl
   have aKV : w27.cell? ⟨bH, 2, none⟩ = some (.int .i64 aN) := (Yf aI.out 2).trans rfl
   have aKW : w27.cell? ⟨bH, 3, none⟩ = some (.string aG) := (Yf aI.out 3).trans rfl
   have aKX : w27.cell? ⟨bH, 4, none⟩ = some (.string aM) := (Yf aI.out 4).trans rfl
   have aKY : w27.cell? ⟨bH, 5, none⟩ = some (.string aK) := (Yf aI.out 5).trans rfl
   have aKZ : w27.cell? ⟨bH, 6, none⟩ = some (.bool false) := (Yf aI.out 6).trans rfl
   have aLa : w27.cell? ⟨bH, 7, none⟩ = some (.bool false) := (Yf aI.out 7).trans rfl
   have aLb := Ye aI.out 0
   have aLc := Ye aI.out 1
   have aLd := Ye aI.out 2
   have aLe := Ye aI.out 3
   have aLf := Ye aI.out 4
   have aLg := Ye aI.out 5
   have aLh := Ye aI.out 6
   have aLi := Ye aI.out 7
   try go_wp2
   go_ret
   exact ⟨Zl, Zs⟩
  subst eO
  rw [if_pos rfl] at H
  by_cases iI : 1 + aK.size ≤ 9223372036854775807
  rotate_left
  ·rw [if_neg iI] at H
   exact absurd H Zv
  rw [if_pos iI] at H
  have jZ := eq_true iI
  have pL : decide (1 + aK.size ≤ 9223372036854775807) = true := decide_eq_true iI
  try have aHD : (9223372036854775807 < 1 + aK.size) = False := eq_false (Nat.not_lt.2 iI)
  by_cases gV : (dW ++ aG).size + ((⟨#[35]⟩ : ByteArray) ++ aK).size ≤ 9223372036854775807
  rotate_left
  ·rw [if_neg gV] at H
   exact absurd H Zv
  rw [if_pos gV] at H
  have kA := eq_true gV
  have sT : decide ((dW ++ aG).size + ((⟨#[35]⟩ : ByteArray) ++ aK).size ≤ 9223372036854775807) = true := decide_eq_true gV
  try have aWv : (9223372036854775807 < (dW ++ aG).size + ((⟨#[35]⟩ : ByteArray) ++ aK).size) = False := eq_false (Nat.not_lt.2 gV)
  obtain rfl := Option.some.inj H
  go_enter Tryz.func26, Tryz.ntmps26
  try go_wp2_with (first | ((with_reducible refine Yad (N := 1) rfl ?_); refine Yzc ?hg (N := 1) ?hd (cs := #[.string aE, .string aJ, .int .i64 aN, .string aG, .string aM, .string aK, .bool false, .bool true]) (t := 25) ?hr ?_; (case hd => rfl); (case hg => rfl); (case hr => first | (go_simp; done) | (go_simp; rfl)); intro bH hg w21 hbox hb; have aH := Ya.mk (Yt Za hb); have aR := Ya.mk (hbox); have bK := Ya.mk ((by rw [hg]; exact (Yia Za) : w.heap.size ≤ bH)); have dM := Ya.mk ((by rw [hg]; exact (Yia Za) : w.heap.size ≤ bH)); clear HB; have HB := aH; have aI := aR; have aAy := bK; have vT := dM; clear aH aR bK dM; clear hb hbox hg))
  have aH := Ya.mk (Yp aI.out)
  have aR := Ya.mk (Yc HB.out)
  clear aI
  clear HB
  have aI := aH
  have HB := aR
  clear aH aR
  refine Yig (n := 6) (S := fun w' => w'.cell? ⟨bH, 0, none⟩ = some (.string aE) ∧ w'.cell? ⟨bH, 1, none⟩ = some (.string aJ) ∧ w'.cell? ⟨bH, 2, none⟩ = some (.int .i64 aN) ∧ w'.cell? ⟨bH, 3, none⟩ = some (.string aG) ∧ w'.cell? ⟨bH, 4, none⟩ = some (.string aM) ∧ w'.cell? ⟨bH, 5, none⟩ = some (.string aK) ∧ w'.cell? ⟨bH, 6, none⟩ = some (.bool false) ∧ w'.cell? ⟨bH, 7, none⟩ = some (.bool true)) (ds := []) #[false, false, false, false, false, false] Zi rfl rfl ⟨(Yf aI.out 0).trans rfl, (Yf aI.out 1).trans rfl, (Yf aI.out 2).trans rfl, (Yf aI.out 3).trans rfl, (Yf aI.out 4).trans rfl, (Yf aI.out 5).trans rfl, (Yf aI.out 6).trans rfl, (Yf aI.out 7).trans rfl⟩ (fun hHeld => ?_)
  generalize w21.drew = w22 at aI HB hHeld ⊢
  refine Ybb (i := 2) (N := some 6) (v := ?_) (a' := ?_) #[false, false, true, false, false, false] rfl rfl Zi (fun _ _ _ h => h) (Or.inl ⟨Zga, ?_⟩) ?_ ?_
  rotate_left
  ·exact Zxb
  rotate_left
  ·exact Zyb
  refine Ypf (i := 0) (N := some 4) (v := ?_) (a' := ?_) #[true, false, true, false, false, false] rfl rfl Zi (fun _ _ _ h => h) (Or.inl ⟨Zga, ?_⟩) hHeld ?_ ?_
  rotate_left
  ·exact Zzb
  rotate_left
  ·exact Zyb
  refine Ypf (i := 3) (N := some 7) (v := ?_) (a' := ?_) #[true, false, true, true, false, false] rfl rfl Zi (fun _ _ _ h => h) (Or.inl ⟨Zga, ?_⟩) hHeld ?_ ?_
  rotate_left
  ·exact Zzb
  rotate_left
  ·exact Zyb
  refine one_ (i := 1) (N := some 5) #[true, true, true, true, false, false] rfl rfl Zi Zda (fun K hK => ?_)
  refine Yyh Tryz.func29 Zi rfl #[.agg #[.string aE, .string aJ, .int .i64 aN, .string aG, .string aM, .string aK, .bool false, .bool true]] Zga rfl rfl Zb ?_
  with_reducible refine (Yye.calls k aE aJ aN aG aM aK false true dW _ ?side1 A2.out).mono ?_
  (case side1 => first | exact HE.out | exact EnvOk.below HE.out Zs)
  rintro e oT ⟨rfl, hb⟩
  refine ⟨_, rfl, ?_⟩
  have aH := Ya.mk (Ykb (g := bH) (o := .cells #[.string aE, .string aJ, .int .i64 aN, .string aG, .string aM, .string aK, .bool false, .bool true] 25 (0, 0)) Zqa hb)
  have aR := Ya.mk (Yt Zs hb)
  clear aI
  clear HB
  have aI := aH
  have HB := aR
  clear aH aR
  (try clear hb)
  (try clear bU)
  (try clear hk)
  (try clear hi)
  refine hK.out _ _ ⟨(Yf aI.out 0).trans rfl, (Yf aI.out 1).trans rfl, (Yf aI.out 2).trans rfl, (Yf aI.out 3).trans rfl, (Yf aI.out 4).trans rfl, (Yf aI.out 5).trans rfl, (Yf aI.out 6).trans rfl, (Yf aI.out 7).trans rfl⟩ (fun hHeld => ?_)
  clear hK K
  refine Ylh (a' := ?_) ?_ ?_
  rotate_left
  ·show Act.put _ (some 5) _ = _
   simp only [Act.put, List.setIfInBounds_toArray, List.set_cons_zero, List.set_cons_succ, Yca, Yga]
   rfl
  refine Ybb (i := 4) (N := some 8) (v := ?_) (a' := ?_) #[true, true, true, true, true, false] rfl rfl Zi (fun _ _ _ h => h) (Or.inl ⟨Zga, ?_⟩) ?_ ?_
  rotate_left
  ·exact Zxb
  rotate_left
  ·exact Zyb
  refine Ybb (i := 5) (N := some 3) (v := ?_) (a' := ?_) #[true, true, true, true, true, true] rfl rfl Zi (fun _ _ _ h => h) (Or.inl ⟨Zga, ?_⟩) ?_ ?_
  rotate_left
  ·exact Zxb
  rotate_left
  ·exact Zyb
  refine Yrh Zi ?_
  have aCU : oT.cell? ⟨bH, 0, none⟩ = some (.string aE) := (Yf aI.out 0).trans rfl
  have aCV : oT.cell? ⟨bH, 1, none⟩ = some (.string aJ) := (Yf aI.out 1).trans rfl
  have aCW : oT.cell? ⟨bH, 2, none⟩ = some (.int .i64 aN) := (Yf aI.out 2).trans rfl
  have aCX : oT.cell? ⟨bH, 3, none⟩ = some (.string aG) := (Yf aI.out 3).trans rfl
  have aCY : oT.cell? ⟨bH, 4, none⟩ = some (.string aM) := (Yf aI.out 4).trans rfl
  have aCZ : oT.cell? ⟨bH, 5, none⟩ = some (.string aK) := (Yf aI.out 5).trans rfl
  have aDa : oT.cell? ⟨bH, 6, none⟩ = some (.bool false) := (Yf aI.out 6).trans rfl
  have aDb : oT.cell? ⟨bH, 7, none⟩ = some (.bool true) := (Yf aI.out 7).trans rfl
  have aDc := Ye aI.out 0
  have aDd := Ye aI.out 1
  have aDe := Ye aI.out 2
  have aDf := Ye aI.out 3
  have aDg := Ye aI.out 4
  have aDh := Ye aI.out 5
  have aDi := Ye aI.out 6
  have aDj := Ye aI.out 7
  try go_wp2
  go_ret
  exact ⟨Zl, Zs⟩
 subst c4
 rw [if_pos rfl] at H
 by_cases c5 : 1 + aM.size ≤ 9223372036854775807
 rotate_left
 ·rw [if_neg c5] at H
  exact absurd H Zv
 rw [if_pos c5] at H
 have dI := eq_true c5
 have qK : decide (1 + aM.size ≤ 9223372036854775807) = true := decide_eq_true c5
 try have aUP : (9223372036854775807 < 1 + aM.size) = False := eq_false (Nat.not_lt.2 c5)
 by_cases c6 : (dW ++ aG).size + ((⟨#[63]⟩ : ByteArray) ++ aM).size ≤ 9223372036854775807
 rotate_left
 ·rw [if_neg c6] at H
  exact absurd H Zv
 rw [if_pos c6] at H
 have dN := eq_true c6
 have iX : decide ((dW ++ aG).size + ((⟨#[63]⟩ : ByteArray) ++ aM).size ≤ 9223372036854775807) = true := decide_eq_true c6
 try have aXB : (9223372036854775807 < (dW ++ aG).size + ((⟨#[63]⟩ : ByteArray) ++ aM).size) = False := eq_false (Nat.not_lt.2 c6)
 by_cases c7 : aV = true
 rotate_left
 ·replace c7 := Bool.eq_false_iff.mpr c7
  subst c7
  rw [if_neg (show ¬ (false = true) by decide)] at H
  obtain rfl := Option.some.inj H
  go_enter Tryz.func26, Tryz.ntmps26
  try go_wp2_with (first | ((with_reducible refine Yad (N := 1) rfl ?_); refine Yzc ?hg (N := 1) ?hd (cs := #[.string aE, .string aJ, .int .i64 aN, .string aG, .string aM, .string aK, .bool true, .bool false]) (t := 25) ?hr ?_; (case hd => rfl); (case hg => rfl); (case hr => first | (go_simp; done) | (go_simp; rfl)); intro bH hg w14 hbox hb; have aH := Ya.mk (Yt Za hb); have aR := Ya.mk (hbox); have bK := Ya.mk ((by rw [hg]; exact (Yia Za) : w.heap.size ≤ bH)); have dM := Ya.mk ((by rw [hg]; exact (Yia Za) : w.heap.size ≤ bH)); clear HB; have HB := aH; have aI := aR; have aAy := bK; have vT := dM; clear aH aR bK dM; clear hb hbox hg))
  have aH := Ya.mk (Yp aI.out)
  have aR := Ya.mk (Yc HB.out)
  clear aI
  clear HB
  have aI := aH
  have HB := aR
  clear aH aR
  refine Yig (n := 6) (S := fun w' => w'.cell? ⟨bH, 0, none⟩ = some (.string aE) ∧ w'.cell? ⟨bH, 1, none⟩ = some (.string aJ) ∧ w'.cell? ⟨bH, 2, none⟩ = some (.int .i64 aN) ∧ w'.cell? ⟨bH, 3, none⟩ = some (.string aG) ∧ w'.cell? ⟨bH, 4, none⟩ = some (.string aM) ∧ w'.cell? ⟨bH, 5, none⟩ = some (.string aK) ∧ w'.cell? ⟨bH, 6, none⟩ = some (.bool true) ∧ w'.cell? ⟨bH, 7, none⟩ = some (.bool false)) (ds := []) #[false, false, false, false, false, false] Zi rfl rfl ⟨(Yf aI.out 0).trans rfl, (Yf aI.out 1).trans rfl, (Yf aI.out 2).trans rfl, (Yf aI.out 3).trans rfl, (Yf aI.out 4).trans rfl, (Yf aI.out 5).trans rfl, (Yf aI.out 6).trans rfl, (Yf aI.out 7).trans rfl⟩ (fun hHeld => ?_)
  generalize w14.drew = w15 at aI HB hHeld ⊢
  refine Ybb (i := 2) (N := some 6) (v := ?_) (a' := ?_) #[false, false, true, false, false, false] rfl rfl Zi (fun _ _ _ h => h) (Or.inl ⟨Zga, ?_⟩) ?_ ?_
  rotate_left
  ·exact Zxb
  rotate_left
  ·exact Zyb
  refine Ypf (i := 0) (N := some 4) (v := ?_) (a' := ?_) #[true, false, true, false, false, false] rfl rfl Zi (fun _ _ _ h => h) (Or.inl ⟨Zga, ?_⟩) hHeld ?_ ?_
  rotate_left
  ·exact Zzb
  rotate_left
  ·exact Zyb
  refine Ypf (i := 3) (N := some 7) (v := ?_) (a' := ?_) #[true, false, true, true, false, false] rfl rfl Zi (fun _ _ _ h => h) (Or.inl ⟨Zga, ?_⟩) hHeld ?_ ?_
  rotate_left
  ·exact Zzb
  rotate_left
  ·exact Zyb
  refine one_ (i := 1) (N := some 5) #[true, true, true, true, false, false] rfl rfl Zi Zda (fun K hK => ?_)
  refine Yyh Tryz.func29 Zi rfl #[.agg #[.string aE, .string aJ, .int .i64 aN, .string aG, .string aM, .string aK, .bool true, .bool false]] Zga rfl rfl Zb ?_
  with_reducible refine (Yye.calls k aE aJ aN aG aM aK true false dW _ ?side1 A2.out).mono ?_
  (case side1 => first | exact HE.out | exact EnvOk.below HE.out Zs)
  rintro e w16 ⟨rfl, hb⟩
  refine ⟨_, rfl, ?_⟩
  have aH := Ya.mk (Ykb (g := bH) (o := .cells #[.string aE, .string aJ, .int .i64 aN, .string aG, .string aM, .string aK, .bool true, .bool false] 25 (0, 0)) Zqa hb)
  have aR := Ya.mk (Yt Zs hb)
  clear aI
  clear HB
  have aI := aH
  have HB := aR
  clear aH aR
  (try clear hb)
  (try clear bU)
  (try clear hk)
  (try clear hi)
  refine hK.out _ _ ⟨(Yf aI.out 0).trans rfl, (Yf aI.out 1).trans rfl, (Yf aI.out 2).trans rfl, (Yf aI.out 3).trans rfl, (Yf aI.out 4).trans rfl, (Yf aI.out 5).trans rfl, (Yf aI.out 6).trans rfl, (Yf aI.out 7).trans rfl⟩ (fun hHeld => ?_)
  clear hK K
  refine Ylh (a' := ?_) ?_ ?_
  rotate_left
  ·show Act.put _ (some 5) _ = _
   simp only [Act.put, List.setIfInBounds_toArray, List.set_cons_zero, List.set_cons_succ, Yca, Yga]
   rfl
  refine Ybb (i := 4) (N := some 8) (v := ?_) (a' := ?_) #[true, true, true, true, true, false] rfl rfl Zi (fun _ _ _ h => h) (Or.inl ⟨Zga, ?_⟩) ?_ ?_
  rotate_left
  ·exact Zxb
  rotate_left
  ·exact Zyb
  refine Ybb (i := 5) (N := some 3) (v := ?_) (a' := ?_) #[true, true, true, true, true, true] rfl rfl Zi (fun _ _ _ h => h) (Or.inl ⟨Zga, ?_⟩) ?_ ?_
  rotate_left
  ·exact Zxb
  rotate_left
  ·exact Zyb
  refine Yrh Zi ?_
  have aLj : w16.cell? ⟨bH, 0, none⟩ = some (.string aE) := (Yf aI.out 0).trans rfl
  have aLk : w16.cell? ⟨bH, 1, none⟩ = some (.string aJ) := (Yf aI.out 1).trans rfl
  have aLl : w16.cell? ⟨bH, 2, none⟩ = some (.int .i64 aN) := (Yf aI.out 2).trans rfl
  have aLm : w16.cell? ⟨bH, 3, none⟩ = some (.string aG) := (Yf aI.out 3).trans rfl
  have aLn : w16.cell? ⟨bH, 4, none⟩ = some (.string aM) := (Yf aI.out 4).trans rfl
  have aLo : w16.cell? ⟨bH, 5, none⟩ = some (.string aK) := (Yf aI.out 5).trans rfl
  have aLp : w16.cell? ⟨bH, 6, none⟩ = some (.bool true) := (Yf aI.out 6).trans rfl
  have aLq : w16.cell? ⟨bH, 7, none⟩ = some (.bool false) := (Yf aI.out 7).trans rfl
  have aLr := Ye aI.out 0
  have aLs := Ye aI.out 1
  have aLt := Ye aI.out 2
  have aLu := Ye aI.out 3
  have aLv := Ye aI.out 4
  have aLw := Ye aI.out 5
  have aLx := Ye aI.out 6
  have aLy := Ye aI.out 7
  try go_wp2
  go_ret
  exact ⟨Zl, Zs⟩
 subst c7
 rw [if_pos rfl] at H
 by_cases c8 : 1 + aK.size ≤ 9223372036854775807
 rotate_left
 ·rw [if_neg c8] at H
  exact absurd H Zv
 rw [if_pos c8] at H
 have gQ := eq_true c8
 have iW : decide (1 + aK.size ≤ 9223372036854775807) = true := decide_eq_true c8
 try have aUO : (9223372036854775807 < 1 + aK.size) = False := eq_false (Nat.not_lt.2 c8)
 by_cases c9 : ((dW ++ aG) ++ ((⟨#[63]⟩ : ByteArray) ++ aM)).size + ((⟨#[35]⟩ : ByteArray) ++ aK).size ≤ 9223372036854775807
 rotate_left
 ·rw [if_neg c9] at H
  exact absurd H Zv
 rw [if_pos c9] at H
 have iA := eq_true c9
 have lN : decide (((dW ++ aG) ++ ((⟨#[63]⟩ : ByteArray) ++ aM)).size + ((⟨#[35]⟩ : ByteArray) ++ aK).size ≤ 9223372036854775807) = true := decide_eq_true c9
 try have zH : (9223372036854775807 < ((dW ++ aG) ++ ((⟨#[63]⟩ : ByteArray) ++ aM)).size + ((⟨#[35]⟩ : ByteArray) ++ aK).size) = False := eq_false (Nat.not_lt.2 c9)
 obtain rfl := Option.some.inj H
 go_enter Tryz.func26, Tryz.ntmps26
 try go_wp2_with (first | ((with_reducible refine Yad (N := 1) rfl ?_); refine Yzc ?hg (N := 1) ?hd (cs := #[.string aE, .string aJ, .int .i64 aN, .string aG, .string aM, .string aK, .bool true, .bool true]) (t := 25) ?hr ?_; (case hd => rfl); (case hg => rfl); (case hr => first | (go_simp; done) | (go_simp; rfl)); intro bH hg pJ hbox hb; have aH := Ya.mk (Yt Za hb); have aR := Ya.mk (hbox); have bK := Ya.mk ((by rw [hg]; exact (Yia Za) : w.heap.size ≤ bH)); have dM := Ya.mk ((by rw [hg]; exact (Yia Za) : w.heap.size ≤ bH)); clear HB; have HB := aH; have aI := aR; have aAy := bK; have vT := dM; clear aH aR bK dM; clear hb hbox hg))
 have aH := Ya.mk (Yp aI.out)
 have aR := Ya.mk (Yc HB.out)
 clear aI
 clear HB
 have aI := aH
 have HB := aR
 clear aH aR
 refine Yig (n := 6) (S := fun w' => w'.cell? ⟨bH, 0, none⟩ = some (.string aE) ∧ w'.cell? ⟨bH, 1, none⟩ = some (.string aJ) ∧ w'.cell? ⟨bH, 2, none⟩ = some (.int .i64 aN) ∧ w'.cell? ⟨bH, 3, none⟩ = some (.string aG) ∧ w'.cell? ⟨bH, 4, none⟩ = some (.string aM) ∧ w'.cell? ⟨bH, 5, none⟩ = some (.string aK) ∧ w'.cell? ⟨bH, 6, none⟩ = some (.bool true) ∧ w'.cell? ⟨bH, 7, none⟩ = some (.bool true)) (ds := []) #[false, false, false, false, false, false] Zi rfl rfl ⟨(Yf aI.out 0).trans rfl, (Yf aI.out 1).trans rfl, (Yf aI.out 2).trans rfl, (Yf aI.out 3).trans rfl, (Yf aI.out 4).trans rfl, (Yf aI.out 5).trans rfl, (Yf aI.out 6).trans rfl, (Yf aI.out 7).trans rfl⟩ (fun hHeld => ?_)
 generalize pJ.drew = w11 at aI HB hHeld ⊢
 refine Ybb (i := 2) (N := some 6) (v := ?_) (a' := ?_) #[false, false, true, false, false, false] rfl rfl Zi (fun _ _ _ h => h) (Or.inl ⟨Zga, ?_⟩) ?_ ?_
 rotate_left
 ·exact Zxb
 rotate_left
 ·exact Zyb
 refine Ypf (i := 0) (N := some 4) (v := ?_) (a' := ?_) #[true, false, true, false, false, false] rfl rfl Zi (fun _ _ _ h => h) (Or.inl ⟨Zga, ?_⟩) hHeld ?_ ?_
 rotate_left
 ·exact Zzb
 rotate_left
 ·exact Zyb
 refine Ypf (i := 3) (N := some 7) (v := ?_) (a' := ?_) #[true, false, true, true, false, false] rfl rfl Zi (fun _ _ _ h => h) (Or.inl ⟨Zga, ?_⟩) hHeld ?_ ?_
 rotate_left
 ·exact Zzb
 rotate_left
 ·exact Zyb
 refine one_ (i := 1) (N := some 5) #[true, true, true, true, false, false] rfl rfl Zi Zda (fun K hK => ?_)
 refine Yyh Tryz.func29 Zi rfl #[.agg #[.string aE, .string aJ, .int .i64 aN, .string aG, .string aM, .string aK, .bool true, .bool true]] Zga rfl rfl Zb ?_
 with_reducible refine (Yye.calls k aE aJ aN aG aM aK true true dW _ ?side1 A2.out).mono ?_
 (case side1 => first | exact HE.out | exact EnvOk.below HE.out Zs)
 rintro e uN ⟨rfl, hb⟩
 refine ⟨_, rfl, ?_⟩
 have aH := Ya.mk (Ykb (g := bH) (o := .cells #[.string aE, .string aJ, .int .i64 aN, .string aG, .string aM, .string aK, .bool true, .bool true] 25 (0, 0)) Zqa hb)
 have aR := Ya.mk (Yt Zs hb)
 clear aI
 clear HB
 have aI := aH
 have HB := aR
 clear aH aR
 (try clear hb)
 (try clear bU)
 (try clear hk)
 (try clear hi)
 refine hK.out _ _ ⟨(Yf aI.out 0).trans rfl, (Yf aI.out 1).trans rfl, (Yf aI.out 2).trans rfl, (Yf aI.out 3).trans rfl, (Yf aI.out 4).trans rfl, (Yf aI.out 5).trans rfl, (Yf aI.out 6).trans rfl, (Yf aI.out 7).trans rfl⟩ (fun hHeld => ?_)
 clear hK K
 refine Ylh (a' := ?_) ?_ ?_
 rotate_left
 ·show Act.put _ (some 5) _ = _
  simp only [Act.put, List.setIfInBounds_toArray, List.set_cons_zero, List.set_cons_succ, Yca, Yga]
  rfl
 refine Ybb (i := 4) (N := some 8) (v := ?_) (a' := ?_) #[true, true, true, true, true, false] rfl rfl Zi (fun _ _ _ h => h) (Or.inl ⟨Zga, ?_⟩) ?_ ?_
 rotate_left
 ·exact Zxb
 rotate_left
 ·exact Zyb
 refine Ybb (i := 5) (N := some 3) (v := ?_) (a' := ?_) #[true, true, true, true, true, true] rfl rfl Zi (fun _ _ _ h => h) (Or.inl ⟨Zga, ?_⟩) ?_ ?_
 rotate_left
 ·exact Zxb
 rotate_left
 ·exact Zyb
 refine Yrh Zi ?_
 have aLz : uN.cell? ⟨bH, 0, none⟩ = some (.string aE) := (Yf aI.out 0).trans rfl
 have aLA : uN.cell? ⟨bH, 1, none⟩ = some (.string aJ) := (Yf aI.out 1).trans rfl
 have aLB : uN.cell? ⟨bH, 2, none⟩ = some (.int .i64 aN) := (Yf aI.out 2).trans rfl
 have aLC : uN.cell? ⟨bH, 3, none⟩ = some (.string aG) := (Yf aI.out 3).trans rfl
 have aLD : uN.cell? ⟨bH, 4, none⟩ = some (.string aM) := (Yf aI.out 4).trans rfl
 have aLE : uN.cell? ⟨bH, 5, none⟩ = some (.string aK) := (Yf aI.out 5).trans rfl
 have aLF : uN.cell? ⟨bH, 6, none⟩ = some (.bool true) := (Yf aI.out 6).trans rfl
 have aLG : uN.cell? ⟨bH, 7, none⟩ = some (.bool true) := (Yf aI.out 7).trans rfl
 have aLH := Ye aI.out 0
 have aLI := Ye aI.out 1
 have aLJ := Ye aI.out 2
 have aLK := Ye aI.out 3
 have aLL := Ye aI.out 4
 have aLM := Ye aI.out 5
 have aLN := Ye aI.out 6
 have aLO := Ye aI.out 7
 try go_wp2
 go_ret
 exact ⟨Zl, Zs⟩
def Yrg.f (a0 : Int) : Option (Int) := if ((a0 - 65) % 256) < 26 then (some (Go.bits .or .u8 a0 32)) else (some a0)
theorem Yrg.calls (a0 r : Int) (w : World) (hE : EnvOk w) (h : Yrg.f a0 = some r) :
  Calls Tryz.prog 91 #[.int .u8 a0] w fun e w' => e = .returned (.int .u8 r) ∧ Drawn0 w w' := by
 have HE := Ya.mk hE
 clear hE
 have H : (if ((a0 - 65) % 256) < 26 then (some (Go.bits .or .u8 a0 32)) else (some a0)) = some r := h
 clear h
 by_cases c2 : ((a0 - 65) % 256) < 26
 ·rw [if_pos c2] at H
  have eR : decide (((a0 - 65) % 256) < 26) = true := decide_eq_true c2
  clear c2
  obtain rfl := Option.some.inj H
  go_enter Tryz.func91, Tryz.ntmps91
  go_wp2
  go_ret
  exact ⟨Zf, Zh⟩
 rw [if_neg c2] at H
 have eR : decide (((a0 - 65) % 256) < 26) = false := decide_eq_false c2
 clear c2
 obtain rfl := Option.some.inj H
 go_enter Tryz.func91, Tryz.ntmps91
 go_wp2
 go_ret
 exact ⟨Zf, Zh⟩
def Ywa.f (a0 : Int) : Option (Bool) := some (decide ((((Go.bits .or .u8 a0 32) - 97) % 256) < 26))
theorem Ywa.calls (a0 : Int) (r : Bool) (w : World) (hE : EnvOk w) (h : Ywa.f a0 = some r) :
  Calls Tryz.prog 77 #[.int .u8 a0] w fun e w' => e = .returned (.bool r) ∧ Drawn0 w w' := by
 have HE := Ya.mk hE
 clear hE
 have H : (some (decide ((((Go.bits .or .u8 a0 32) - 97) % 256) < 26))) = some r := h
 clear h
 obtain rfl := Option.some.inj H
 go_enter Tryz.func77, Tryz.ntmps77
 go_wp2
 go_ret
 exact ⟨Zf, Zh⟩
def Yta.f (a0 : Int) : Option (Bool) := some (decide (((a0 - 48) % 256) < 10))
theorem Yta.calls (a0 : Int) (r : Bool) (w : World) (hE : EnvOk w) (h : Yta.f a0 = some r) :
  Calls Tryz.prog 78 #[.int .u8 a0] w fun e w' => e = .returned (.bool r) ∧ Drawn0 w w' := by
 have HE := Ya.mk hE
 clear hE
 have H : (some (decide (((a0 - 48) % 256) < 10))) = some r := h
 clear h
 obtain rfl := Option.some.inj H
 go_enter Tryz.func78, Tryz.ntmps78
 go_wp2
 go_ret
 exact ⟨Zf, Zh⟩
def Ydg.f (a0 : Int) : Option (Int × Bool) := (Yrg.f a0).bind fun gW => ((Yta.f gW).bind fun aAz => (if aAz = true then (some ((gW - 48) % 256, true)) else (if ((gW - 97) % 256) < 6 then (some (((gW - 97) % 256) + 10, true)) else (some (0, false)))))
theorem Ydg.calls (a0 r1 : Int) (r2 : Bool) (w : World) (hE : EnvOk w) (h : Ydg.f a0 = some (r1, r2)) :
  Calls Tryz.prog 121 #[.int .u8 a0] w fun e w' => e = .returned (.tuple #[.int .u32 r1, .bool r2]) ∧ Drawn0 w w' := by
 have HE := Ya.mk hE
 clear hE
 have H : ((Yrg.f a0).bind fun gW => ((Yta.f gW).bind fun aAz => (if aAz = true then (some ((gW - 48) % 256, true)) else (if ((gW - 97) % 256) < 6 then (some (((gW - 97) % 256) + 10, true)) else (some (0, false)))))) = some (r1, r2) := h
 clear h
 replace H := Option.bind_eq_some_iff.mp H
 obtain ⟨gW, dV, H⟩ := H
 try dsimp -simprocs only at H
 have A2 := Ya.mk dV
 clear dV
 replace H := Option.bind_eq_some_iff.mp H
 obtain ⟨aAz, iY, H⟩ := H
 try dsimp -simprocs only at H
 have A3 := Ya.mk iY
 clear iY
 by_cases c4 : aAz = true
 ·subst c4
  rw [if_pos rfl] at H
  simp only [Option.some.injEq, Prod.mk.injEq] at H
  obtain ⟨rfl, rfl⟩ := H
  go_enter Tryz.func121, Tryz.ntmps121
  go_wp2_with (first | ((with_reducible refine Yi (f := 91) rfl ?_); refine Yaa (some 5) rfl rfl Tryz.func91 Zi rfl #[.int .u8 a0] rfl Zb ?_; (with_reducible refine (Yrg.calls a0 gW _ ?side1 A2.out).mono ?_); (case side1 => first | exact HE.out | exact EnvOk.heap HE.out rfl); rintro e w' ⟨rfl, ⟨nd, rfl⟩⟩; refine ⟨_, rfl, ?_⟩) | ((with_reducible refine Yi (f := 78) rfl ?_); refine Yaa (some 8) rfl rfl Tryz.func78 Zi rfl #[.int .u8 gW] rfl Zb ?_; (with_reducible refine (Yta.calls gW true _ ?side1 A3.out).mono ?_); (case side1 => first | exact HE.out | exact EnvOk.heap HE.out rfl); rintro e w' ⟨rfl, ⟨nd, rfl⟩⟩; refine ⟨_, rfl, ?_⟩))
  go_ret2
  exact ⟨Zf, Zh⟩
 replace c4 := Bool.eq_false_iff.mpr c4
 subst c4
 rw [if_neg (show ¬ (false = true) by decide)] at H
 by_cases c5 : ((gW - 97) % 256) < 6
 ·rw [if_pos c5] at H
  have dI : decide (((gW - 97) % 256) < 6) = true := decide_eq_true c5
  clear c5
  simp only [Option.some.injEq, Prod.mk.injEq] at H
  obtain ⟨rfl, rfl⟩ := H
  go_enter Tryz.func121, Tryz.ntmps121
  go_wp2_with (first | ((with_reducible refine Yi (f := 91) rfl ?_); refine Yaa (some 5) rfl rfl Tryz.func91 Zi rfl #[.int .u8 a0] rfl Zb ?_; (with_reducible refine (Yrg.calls a0 gW _ ?side1 A2.out).mono ?_); (case side1 => first | exact HE.out | exact EnvOk.heap HE.out rfl); rintro e w' ⟨rfl, ⟨nd, rfl⟩⟩; refine ⟨_, rfl, ?_⟩) | ((with_reducible refine Yi (f := 78) rfl ?_); refine Yaa (some 8) rfl rfl Tryz.func78 Zi rfl #[.int .u8 gW] rfl Zb ?_; (with_reducible refine (Yta.calls gW false _ ?side1 A3.out).mono ?_); (case side1 => first | exact HE.out | exact EnvOk.heap HE.out rfl); rintro e w' ⟨rfl, ⟨nd, rfl⟩⟩; refine ⟨_, rfl, ?_⟩))
  go_ret2
  exact ⟨Zf, Zh⟩
 rw [if_neg c5] at H
 have dI : decide (((gW - 97) % 256) < 6) = false := decide_eq_false c5
 clear c5
 simp only [Option.some.injEq, Prod.mk.injEq] at H
 obtain ⟨rfl, rfl⟩ := H
 go_enter Tryz.func121, Tryz.ntmps121
 go_wp2_with (first | ((with_reducible refine Yi (f := 91) rfl ?_); refine Yaa (some 5) rfl rfl Tryz.func91 Zi rfl #[.int .u8 a0] rfl Zb ?_; (with_reducible refine (Yrg.calls a0 gW _ ?side1 A2.out).mono ?_); (case side1 => first | exact HE.out | exact EnvOk.heap HE.out rfl); rintro e w' ⟨rfl, ⟨nd, rfl⟩⟩; refine ⟨_, rfl, ?_⟩) | ((with_reducible refine Yi (f := 78) rfl ?_); refine Yaa (some 8) rfl rfl Tryz.func78 Zi rfl #[.int .u8 gW] rfl Zb ?_; (with_reducible refine (Yta.calls gW false _ ?side1 A3.out).mono ?_); (case side1 => first | exact HE.out | exact EnvOk.heap HE.out rfl); rintro e w' ⟨rfl, ⟨nd, rfl⟩⟩; refine ⟨_, rfl, ?_⟩))
 go_ret2
 exact ⟨Zf, Zh⟩
def Yed.l0 : Nat → ByteArray → Int → Bool → Int → Int → Option (Int × Int)
 | 0, _, _, _, _, _ => none
 | k + 1, x0, x4, x5, x12, x13 => if x13 < x12 then (if 0 ≤ x13 then (if x13 < (x0.size : Int) then ((Ydg.f (bt x0 x13)).bind fun aAA => (if aAA.2 = true then (if x5 = true then (Yed.l0 k x0 (Go.bits .or .u32 ((x4 * 16) % 4294967296) aAA.1) true x12 (wrap64 (x13 + 1))) else (Yed.l0 k x0 (Go.bits .or .u32 ((x4 * 16) % 4294967296) aAA.1) ((x4 / 268435456) != 0) x12 (wrap64 (x13 + 1)))) else (some (0, 3)))) else (none)) else (none)) else (if x5 = true then (some (0, 5)) else (some (x4, 0)))
def Yed.f (k : Nat) (a0 : ByteArray) : Option (Int × Int) := if a0.toList = ([] : List UInt8) then (some (0, 3)) else (Yed.l0 k a0 0 false (a0.size : Int) 0)
theorem Yed.calls (k : Nat) (a0 : ByteArray) (r1 r2 : Int) (w : World) (hE : EnvOk w) (h : Yed.f k a0 = some (r1, r2)) :
  Calls Tryz.prog 92 #[.string a0] w fun e w' => e = .returned (.tuple #[.int .u32 r1, .int .i64 r2]) ∧ Drawn0 w w' := by
 have HE := Ya.mk hE
 clear hE
 have H : (if a0.toList = ([] : List UInt8) then (some (0, 3)) else (Yed.l0 k a0 0 false (a0.size : Int) 0)) = some (r1, r2) := h
 clear h
 by_cases c2 : a0.toList = ([] : List UInt8)
 ·rw [if_pos c2] at H
  have eR : (a0.toList == ([] : List UInt8)) = true := beq_iff_eq.mpr c2
  have jY : (a0.toList != ([] : List UInt8)) = false := bne_eq_false_iff_eq.mpr c2
  clear c2
  simp only [Option.some.injEq, Prod.mk.injEq] at H
  obtain ⟨rfl, rfl⟩ := H
  go_enter Tryz.func92, Tryz.ntmps92
  go_wp2
  go_ret2
  exact ⟨Zf, Zh⟩
 rw [if_neg c2] at H
 have eR : (a0.toList == ([] : List UInt8)) = false := beq_eq_false_iff_ne.mpr c2
 have jY : (a0.toList != ([] : List UInt8)) = true := bne_iff_ne.mpr c2
 have H' := Ya.mk H
 clear H
 go_enter Tryz.func92, Tryz.ntmps92
 go_wp2
 go_loopg [4, 5, 13] k (fun kq v4 v5 v13 w' => ∃ (aA : Int) (bA : Bool) (dC : Int), v4 = .int .u32 aA ∧ v5 = .bool bA ∧ v13 = .int .i64 dC ∧ Ya (Yed.l0 kq a0 aA bA (a0.size : Int) dC = some (r1, r2)) ∧ Ya (kq ≤ k) ∧ Drawn0 w w')
 case atStart => exact ⟨(0), (false), (0), Zf, Zf, Zf, H', ⟨Nat.le_refl _⟩, Zh⟩
 case round =>
  clear H'
  try clear c2
  try clear eR
  try clear jY
  try clear p2
  obtain ⟨aA, bA, dC, rfl, rfl, rfl, HA, cU, ⟨m1, rfl⟩⟩ := hrel
  cases gk with
  | zero => exact absurd HA.out (by simp [Yed.l0])
  | succ k1 =>
   have H := HA.out
   clear HA
   simp only [Yed.l0] at H
   by_cases c3 : dC < (a0.size : Int)
   rotate_left
   ·rw [if_neg c3] at H
    have cB : decide (dC < (a0.size : Int)) = false := decide_eq_false c3
    clear c3
    by_cases dP : bA = true
    ·subst dP
     rw [if_pos rfl] at H
     simp only [Option.some.injEq, Prod.mk.injEq] at H
     obtain ⟨rfl, rfl⟩ := H
     go_wp2
     go_ret2
     exact ⟨Zf, Zh⟩
    replace dP := Bool.eq_false_iff.mpr dP
    subst dP
    rw [if_neg (show ¬ (false = true) by decide)] at H
    simp only [Option.some.injEq, Prod.mk.injEq] at H
    obtain ⟨rfl, rfl⟩ := H
    go_wp2
    go_ret2
    exact ⟨Zf, Zh⟩
   rw [if_pos c3] at H
   have cB : decide (dC < (a0.size : Int)) = true := decide_eq_true c3
   clear c3
   by_cases c4 : 0 ≤ dC
   rotate_left
   ·rw [if_neg c4] at H
    exact absurd H Zv
   rw [if_pos c4] at H
   have bX : decide (0 ≤ dC) = true := decide_eq_true c4
   clear c4
   by_cases c5 : dC < (a0.size : Int)
   rotate_left
   ·rw [if_neg c5] at H
    exact absurd H Zv
   rw [if_pos c5] at H
   have dI : decide (dC < (a0.size : Int)) = true := decide_eq_true c5
   clear c5
   replace H := Option.bind_eq_some_iff.mp H
   obtain ⟨⟨aAB, t124⟩, nU, H⟩ := H
   try dsimp -simprocs only at H
   have A7 := Ya.mk nU
   clear nU
   by_cases c8 : t124 = true
   rotate_left
   ·replace c8 := Bool.eq_false_iff.mpr c8
    subst c8
    rw [if_neg (show ¬ (false = true) by decide)] at H
    simp only [Option.some.injEq, Prod.mk.injEq] at H
    obtain ⟨rfl, rfl⟩ := H
    have p6 : 0 ≤ (dC : Int) := of_decide_eq_true Zc
    have q6 : dC < (a0.size : Int) := of_decide_eq_true Zc
    have hx6 := Yza a0 dC
    replace p6 := eq_true p6
    replace q6 := eq_true q6
    go_wp2_with (first | ((with_reducible refine Yi (f := 121) rfl ?_); refine Yaa (some 20) rfl rfl Tryz.func121 Zi rfl #[.int .u8 (bt a0 dC)] rfl Zb ?_; (with_reducible refine (Ydg.calls (bt a0 dC) aAB false _ ?side1 A7.out).mono ?_); (case side1 => first | exact HE.out | exact EnvOk.heap HE.out rfl); rintro e w' ⟨rfl, ⟨nd, rfl⟩⟩; refine ⟨_, rfl, ?_⟩))
    go_ret2
    exact ⟨Zf, Zh⟩
   subst c8
   rw [if_pos rfl] at H
   by_cases c9 : bA = true
   ·subst c9
    rw [if_pos rfl] at H
    have H' := Ya.mk H
    clear H
    have p6 : 0 ≤ (dC : Int) := of_decide_eq_true Zc
    have q6 : dC < (a0.size : Int) := of_decide_eq_true Zc
    have hx6 := Yza a0 dC
    replace p6 := eq_true p6
    replace q6 := eq_true q6
    go_wp2_with (first | ((with_reducible refine Yi (f := 121) rfl ?_); refine Yaa (some 20) rfl rfl Tryz.func121 Zi rfl #[.int .u8 (bt a0 dC)] rfl Zb ?_; (with_reducible refine (Ydg.calls (bt a0 dC) aAB true _ ?side1 A7.out).mono ?_); (case side1 => first | exact HE.out | exact EnvOk.heap HE.out rfl); rintro e w' ⟨rfl, ⟨nd, rfl⟩⟩; refine ⟨_, rfl, ?_⟩))
    go_roundg k1
    case measure => have := cU.out; omega
    case rel => exact ⟨(Go.bits .or .u32 ((aA * 16) % 4294967296) aAB), (true), (wrap64 (dC + 1)), Zf, Zf, Zf, H', ⟨Zaa⟩, Zh⟩
   replace c9 := Bool.eq_false_iff.mpr c9
   subst c9
   rw [if_neg (show ¬ (false = true) by decide)] at H
   have H' := Ya.mk H
   clear H
   have p6 : 0 ≤ (dC : Int) := of_decide_eq_true Zc
   have q6 : dC < (a0.size : Int) := of_decide_eq_true Zc
   have hx6 := Yza a0 dC
   replace p6 := eq_true p6
   replace q6 := eq_true q6
   go_wp2_with (first | ((with_reducible refine Yi (f := 121) rfl ?_); refine Yaa (some 20) rfl rfl Tryz.func121 Zi rfl #[.int .u8 (bt a0 dC)] rfl Zb ?_; (with_reducible refine (Ydg.calls (bt a0 dC) aAB true _ ?side1 A7.out).mono ?_); (case side1 => first | exact HE.out | exact EnvOk.heap HE.out rfl); rintro e w' ⟨rfl, ⟨nd, rfl⟩⟩; refine ⟨_, rfl, ?_⟩))
   go_roundg k1
   case measure => have := cU.out; omega
   case rel => exact ⟨(Go.bits .or .u32 ((aA * 16) % 4294967296) aAB), (((aA / 268435456) != 0)), (wrap64 (dC + 1)), Zf, Zf, Zf, H', ⟨Zaa⟩, Zh⟩
end Go.Proofs.YtnmglnglbdpjjaaGreatDoor.X
