/- Printed by a program of ours: functions as plain Lean, and what a call of each does. -/
import Derived.Test.YtnmglnglbdpjjaaGreatDoorUkWords
import Derived.Test.YtnmglnglbdpjjaaGreatDoorUkX0
import Derived.Test.YtnmglnglbdpjjaaGreatDoorUkX2
namespace Go.Proofs.YtnmglnglbdpjjaaGreatDoor.X
open Go.RowKit Go.Yw.PrintWords Go.Yw.PrintLast Go.Yw.PrintMore
attribute [local go_sem] Yde Yee Ywe Yve Ypd Yod Yce Ybe
set_option linter.unusedVariables false
set_option linter.unusedSimpArgs false
set_option maxHeartbeats 8000000
set_option maxRecDepth 100000
def Ysb.f (k : Nat) (aC aH : ByteArray) (aJ : Int) (aG aI aK : ByteArray) (aQ aR : Bool) : Option (ByteArray) := (Yuc.f k aC aH aJ aG aI aK aQ aR).bind fun dY => (if dY.size + aG.size ≤ 9223372036854775807 then (if aQ = true then (if 1 + aI.size ≤ 9223372036854775807 then (if (dY ++ aG).size + ((⟨#[63]⟩ : ByteArray) ++ aI).size ≤ 9223372036854775807 then (if aR = true then (if 1 + aK.size ≤ 9223372036854775807 then (if ((dY ++ aG) ++ ((⟨#[63]⟩ : ByteArray) ++ aI)).size + ((⟨#[35]⟩ : ByteArray) ++ aK).size ≤ 9223372036854775807 then (some (((dY ++ aG) ++ ((⟨#[63]⟩ : ByteArray) ++ aI)) ++ ((⟨#[35]⟩ : ByteArray) ++ aK))) else (none)) else (none)) else (some ((dY ++ aG) ++ ((⟨#[63]⟩ : ByteArray) ++ aI)))) else (none)) else (none)) else (if aR = true then (if 1 + aK.size ≤ 9223372036854775807 then (if (dY ++ aG).size + ((⟨#[35]⟩ : ByteArray) ++ aK).size ≤ 9223372036854775807 then (some ((dY ++ aG) ++ ((⟨#[35]⟩ : ByteArray) ++ aK))) else (none)) else (none)) else (some (dY ++ aG)))) else (none))
theorem Ysb.calls (k : Nat) (aC aH : ByteArray) (aJ : Int) (aG aI aK : ByteArray) (aQ aR : Bool) (r : ByteArray) (w : World) (hE : EnvOk w) (h : Ysb.f k aC aH aJ aG aI aK aQ aR = some r) :
  Calls Tryz.prog 26 #[.agg #[.string aC, .string aH, .int .i64 aJ, .string aG, .string aI, .string aK, .bool aQ, .bool aR]] w fun e w' => e = .returned (.string r) ∧ Below w.heap.size w w' := by
 have cB := Tryz.underlying25
 have HE := Ya.mk hE
 clear hE
 have HB := Ya.mk (Below.refl w.heap.size w)
 have H : ((Yuc.f k aC aH aJ aG aI aK aQ aR).bind fun dY => (if dY.size + aG.size ≤ 9223372036854775807 then (if aQ = true then (if 1 + aI.size ≤ 9223372036854775807 then (if (dY ++ aG).size + ((⟨#[63]⟩ : ByteArray) ++ aI).size ≤ 9223372036854775807 then (if aR = true then (if 1 + aK.size ≤ 9223372036854775807 then (if ((dY ++ aG) ++ ((⟨#[63]⟩ : ByteArray) ++ aI)).size + ((⟨#[35]⟩ : ByteArray) ++ aK).size ≤ 9223372036854775807 then (some (((dY ++ aG) ++ ((⟨#[63]⟩ : ByteArray) ++ aI)) ++ ((⟨#[35]⟩ : ByteArray) ++ aK))) else (none)) else (none)) else (some ((dY ++ aG) ++ ((⟨#[63]⟩ : ByteArray) ++ aI)))) else (none)) else (none)) else (if aR = true then (if 1 + aK.size ≤ 9223372036854775807 then (if (dY ++ aG).size + ((⟨#[35]⟩ : ByteArray) ++ aK).size ≤ 9223372036854775807 then (some ((dY ++ aG) ++ ((⟨#[35]⟩ : ByteArray) ++ aK))) else (none)) else (none)) else (some (dY ++ aG)))) else (none))) = some r := h
 clear h
 replace H := Option.bind_eq_some_iff.mp H
 obtain ⟨dY, dU, H⟩ := H
 try dsimp -simprocs only at H
 have A2 := Ya.mk dU
 clear dU
 by_cases c3 : dY.size + aG.size ≤ 9223372036854775807
 rotate_left
 ·rw [if_neg c3] at H
  exact absurd H Zv
 rw [if_pos c3] at H
 have cJ := eq_true c3
 have fY : decide (dY.size + aG.size ≤ 9223372036854775807) = true := decide_eq_true c3
 try have aBj : (9223372036854775807 < dY.size + aG.size) = False := eq_false (Nat.not_lt.2 c3)
 by_cases c4 : aQ = true
 rotate_left
 ·replace c4 := Bool.eq_false_iff.mpr c4
  subst c4
  rw [if_neg (show ¬ (false = true) by decide)] at H
  by_cases eQ : aR = true
  rotate_left
  ·replace eQ := Bool.eq_false_iff.mpr eQ
   subst eQ
   rw [if_neg (show ¬ (false = true) by decide)] at H
   obtain rfl := Option.some.inj H
   go_enter Tryz.func26, Tryz.ntmps26
   try go_wp2_with (first | ((with_reducible refine Ywc (N := 1) rfl ?_); refine Yrc ?hg (N := 1) ?hd (cs := #[.string aC, .string aH, .int .i64 aJ, .string aG, .string aI, .string aK, .bool false, .bool false]) (t := 25) ?hr ?_; (case hd => rfl); (case hg => rfl); (case hr => first | (go_simp; done) | (go_simp; rfl)); intro bG hg w25 hbox hb; have aM := Ya.mk (Ys Za hb); have aU := Ya.mk (hbox); have bI := Ya.mk ((by rw [hg]; exact (Yda Za) : w.heap.size ≤ bG)); have dE := Ya.mk ((by rw [hg]; exact (Yda Za) : w.heap.size ≤ bG)); clear HB; have HB := aM; have aN := aU; have aBl := bI; have xE := dE; clear aM aU bI dE; clear hb hbox hg))
   have aM := Ya.mk (Yr aN.out)
   have aU := Ya.mk (Yc HB.out)
   clear aN
   clear HB
   have aN := aM
   have HB := aU
   clear aM aU
   refine Yqh (n := 6) (S := fun w' => w'.cell? ⟨bG, 0, none⟩ = some (.string aC) ∧ w'.cell? ⟨bG, 1, none⟩ = some (.string aH) ∧ w'.cell? ⟨bG, 2, none⟩ = some (.int .i64 aJ) ∧ w'.cell? ⟨bG, 3, none⟩ = some (.string aG) ∧ w'.cell? ⟨bG, 4, none⟩ = some (.string aI) ∧ w'.cell? ⟨bG, 5, none⟩ = some (.string aK) ∧ w'.cell? ⟨bG, 6, none⟩ = some (.bool false) ∧ w'.cell? ⟨bG, 7, none⟩ = some (.bool false)) (ds := []) #[false, false, false, false, false, false] Zi rfl rfl ⟨(Yf aN.out 0).trans rfl, (Yf aN.out 1).trans rfl, (Yf aN.out 2).trans rfl, (Yf aN.out 3).trans rfl, (Yf aN.out 4).trans rfl, (Yf aN.out 5).trans rfl, (Yf aN.out 6).trans rfl, (Yf aN.out 7).trans rfl⟩ (fun hHeld => ?_)
   generalize w25.drew = w26 at aN HB hHeld ⊢
   refine Yqb (i := 2) (N := some 6) (v := ?_) (a' := ?_) #[false, false, true, false, false, false] rfl rfl Zi (fun _ _ _ h => h) (Or.inl ⟨Zja, ?_⟩) ?_ ?_
   rotate_left
   ·exact Zzb
   rotate_left
   ·exact Zac
   refine Ylf (i := 0) (N := some 4) (v := ?_) (a' := ?_) #[true, false, true, false, false, false] rfl rfl Zi (fun _ _ _ h => h) (Or.inl ⟨Zja, ?_⟩) hHeld ?_ ?_
   rotate_left
   ·exact Zbc
   rotate_left
   ·exact Zac
   refine Ylf (i := 3) (N := some 7) (v := ?_) (a' := ?_) #[true, false, true, true, false, false] rfl rfl Zi (fun _ _ _ h => h) (Or.inl ⟨Zja, ?_⟩) hHeld ?_ ?_
   rotate_left
   ·exact Zbc
   rotate_left
   ·exact Zac
   refine one_ (i := 1) (N := some 5) #[true, true, true, true, false, false] rfl rfl Zi Zea (fun K hK => ?_)
   refine Yih Tryz.func29 Zi rfl #[.agg #[.string aC, .string aH, .int .i64 aJ, .string aG, .string aI, .string aK, .bool false, .bool false]] Zja rfl rfl Zb ?_
   with_reducible refine (Yuc.calls k aC aH aJ aG aI aK false false dY _ ?side1 A2.out).mono ?_
   (case side1 => first | exact HE.out | exact EnvOk.below HE.out Zs)
   rintro e w27 ⟨rfl, hb⟩
   refine ⟨_, rfl, ?_⟩
   have aM := Ya.mk (Ydb (g := bG) (o := .cells #[.string aC, .string aH, .int .i64 aJ, .string aG, .string aI, .string aK, .bool false, .bool false] 25 (0, 0)) Zsa hb)
   have aU := Ya.mk (Ys Zs hb)
   clear aN
   clear HB
   have aN := aM
   have HB := aU
   clear aM aU
   (try clear hb)
   (try clear cC)
   (try clear hk)
   (try clear hi)
   refine hK.out _ _ ⟨(Yf aN.out 0).trans rfl, (Yf aN.out 1).trans rfl, (Yf aN.out 2).trans rfl, (Yf aN.out 3).trans rfl, (Yf aN.out 4).trans rfl, (Yf aN.out 5).trans rfl, (Yf aN.out 6).trans rfl, (Yf aN.out 7).trans rfl⟩ (fun hHeld => ?_)
   clear hK K
   refine Yxg (a' := ?_) ?_ ?_
   rotate_left
   ·show Act.put _ (some 5) _ = _
    simp only [Act.put, List.setIfInBounds_toArray, List.set_cons_zero, List.set_cons_succ, Yma, Yqa]
    rfl
   refine Yqb (i := 4) (N := some 8) (v := ?_) (a' := ?_) #[true, true, true, true, true, false] rfl rfl Zi (fun _ _ _ h => h) (Or.inl ⟨Zja, ?_⟩) ?_ ?_
   rotate_left
   ·exact Zzb
   rotate_left
   ·exact Zac
   refine Yqb (i := 5) (N := some 3) (v := ?_) (a' := ?_) #[true, true, true, true, true, true] rfl rfl Zi (fun _ _ _ h => h) (Or.inl ⟨Zja, ?_⟩) ?_ ?_
   rotate_left
   ·exact Zzb
   rotate_left
   ·exact Zac
   refine Yxi Zi ?_
   have aLC : w27.cell? ⟨bG, 0, none⟩ = some (.string aC) := (Yf aN.out 0).trans rfl
   have aLD : w27.cell? ⟨bG, 1, none⟩ = some (.string aH) := (Yf aN.out 1).trans rfl
   have aLE : w27.cell? ⟨bG, 2, none⟩ = some (.int .i64 aJ) := (Yf aN.out 2).trans rfl
   have aLF : w27.cell? ⟨bG, 3, none⟩ = some (.string aG) := (Yf aN.out 3).trans rfl
   have aLG : w27.cell? ⟨bG, 4, none⟩ = some (.string aI) := (Yf aN.out 4).trans rfl
   have aLH : w27.cell? ⟨bG, 5, none⟩ = some (.string aK) := (Yf aN.out 5).trans rfl
   have aLI : w27.cell? ⟨bG, 6, none⟩ = some (.bool false) := (Yf aN.out 6).trans rfl
   have aLJ : w27.cell? ⟨bG, 7, none⟩ = some (.bool false) := (Yf aN.out 7).trans rfl
   have aLK := Ye aN.out 0
   have aLL := Ye aN.out 1
   have aLM := Ye aN.out 2
   have aLN := Ye aN.out 3
   have aLO := Ye aN.out 4
   have aLP := Ye aN.out 5
   have aLQ := Ye aN.out 6
   have aLR := Ye aN.out 7
   try go_wp2
   go_ret
   exact ⟨Zk, Zs⟩
  subst eQ
  rw [if_pos rfl] at H
  by_cases iP : 1 + aK.size ≤ 9223372036854775807
  rotate_left
  ·rw [if_neg iP] at H
   exact absurd H Zv
  rw [if_pos iP] at H
  have kH := eq_true iP
  have qG : decide (1 + aK.size ≤ 9223372036854775807) = true := decide_eq_true iP
  try have aIm : (9223372036854775807 < 1 + aK.size) = False := eq_false (Nat.not_lt.2 iP)
  by_cases hD : (dY ++ aG).size + ((⟨#[35]⟩ : ByteArray) ++ aK).size ≤ 9223372036854775807
  rotate_left
  ·rw [if_neg hD] at H
   exact absurd H Zv
  rw [if_pos hD] at H
  have kJ := eq_true hD
  have tK : decide ((dY ++ aG).size + ((⟨#[35]⟩ : ByteArray) ++ aK).size ≤ 9223372036854775807) = true := decide_eq_true hD
  try have aXb : (9223372036854775807 < (dY ++ aG).size + ((⟨#[35]⟩ : ByteArray) ++ aK).size) = False := eq_false (Nat.not_lt.2 hD)
  obtain rfl := Option.some.inj H
  go_enter Tryz.func26, Tryz.ntmps26
  try go_wp2_with (first | ((with_reducible refine Ywc (N := 1) rfl ?_); refine Yrc ?hg (N := 1) ?hd (cs := #[.string aC, .string aH, .int .i64 aJ, .string aG, .string aI, .string aK, .bool false, .bool true]) (t := 25) ?hr ?_; (case hd => rfl); (case hg => rfl); (case hr => first | (go_simp; done) | (go_simp; rfl)); intro bG hg w21 hbox hb; have aM := Ya.mk (Ys Za hb); have aU := Ya.mk (hbox); have bI := Ya.mk ((by rw [hg]; exact (Yda Za) : w.heap.size ≤ bG)); have dE := Ya.mk ((by rw [hg]; exact (Yda Za) : w.heap.size ≤ bG)); clear HB; have HB := aM; have aN := aU; have aBl := bI; have xE := dE; clear aM aU bI dE; clear hb hbox hg))
  have aM := Ya.mk (Yr aN.out)
  have aU := Ya.mk (Yc HB.out)
  clear aN
  clear HB
  have aN := aM
  have HB := aU
  clear aM aU
  refine Yqh (n := 6) (S := fun w' => w'.cell? ⟨bG, 0, none⟩ = some (.string aC) ∧ w'.cell? ⟨bG, 1, none⟩ = some (.string aH) ∧ w'.cell? ⟨bG, 2, none⟩ = some (.int .i64 aJ) ∧ w'.cell? ⟨bG, 3, none⟩ = some (.string aG) ∧ w'.cell? ⟨bG, 4, none⟩ = some (.string aI) ∧ w'.cell? ⟨bG, 5, none⟩ = some (.string aK) ∧ w'.cell? ⟨bG, 6, none⟩ = some (.bool false) ∧ w'.cell? ⟨bG, 7, none⟩ = some (.bool true)) (ds := []) #[false, false, false, false, false, false] Zi rfl rfl ⟨(Yf aN.out 0).trans rfl, (Yf aN.out 1).trans rfl, (Yf aN.out 2).trans rfl, (Yf aN.out 3).trans rfl, (Yf aN.out 4).trans rfl, (Yf aN.out 5).trans rfl, (Yf aN.out 6).trans rfl, (Yf aN.out 7).trans rfl⟩ (fun hHeld => ?_)
  generalize w21.drew = w22 at aN HB hHeld ⊢
  refine Yqb (i := 2) (N := some 6) (v := ?_) (a' := ?_) #[false, false, true, false, false, false] rfl rfl Zi (fun _ _ _ h => h) (Or.inl ⟨Zja, ?_⟩) ?_ ?_
  rotate_left
  ·exact Zzb
  rotate_left
  ·exact Zac
  refine Ylf (i := 0) (N := some 4) (v := ?_) (a' := ?_) #[true, false, true, false, false, false] rfl rfl Zi (fun _ _ _ h => h) (Or.inl ⟨Zja, ?_⟩) hHeld ?_ ?_
  rotate_left
  ·exact Zbc
  rotate_left
  ·exact Zac
  refine Ylf (i := 3) (N := some 7) (v := ?_) (a' := ?_) #[true, false, true, true, false, false] rfl rfl Zi (fun _ _ _ h => h) (Or.inl ⟨Zja, ?_⟩) hHeld ?_ ?_
  rotate_left
  ·exact Zbc
  rotate_left
  ·exact Zac
  refine one_ (i := 1) (N := some 5) #[true, true, true, true, false, false] rfl rfl Zi Zea (fun K hK => ?_)
  refine Yih Tryz.func29 Zi rfl #[.agg #[.string aC, .string aH, .int .i64 aJ, .string aG, .string aI, .string aK, .bool false, .bool true]] Zja rfl rfl Zb ?_
  with_reducible refine (Yuc.calls k aC aH aJ aG aI aK false true dY _ ?side1 A2.out).mono ?_
  (case side1 => first | exact HE.out | exact EnvOk.below HE.out Zs)
  rintro e pQ ⟨rfl, hb⟩
  refine ⟨_, rfl, ?_⟩
  have aM := Ya.mk (Ydb (g := bG) (o := .cells #[.string aC, .string aH, .int .i64 aJ, .string aG, .string aI, .string aK, .bool false, .bool true] 25 (0, 0)) Zsa hb)
  have aU := Ya.mk (Ys Zs hb)
  clear aN
  clear HB
  have aN := aM
  have HB := aU
  clear aM aU
  (try clear hb)
  (try clear cC)
  (try clear hk)
  (try clear hi)
  refine hK.out _ _ ⟨(Yf aN.out 0).trans rfl, (Yf aN.out 1).trans rfl, (Yf aN.out 2).trans rfl, (Yf aN.out 3).trans rfl, (Yf aN.out 4).trans rfl, (Yf aN.out 5).trans rfl, (Yf aN.out 6).trans rfl, (Yf aN.out 7).trans rfl⟩ (fun hHeld => ?_)
  clear hK K
  refine Yxg (a' := ?_) ?_ ?_
  rotate_left
  ·show Act.put _ (some 5) _ = _
   simp only [Act.put, List.setIfInBounds_toArray, List.set_cons_zero, List.set_cons_succ, Yma, Yqa]
   rfl
  refine Yqb (i := 4) (N := some 8) (v := ?_) (a' := ?_) #[true, true, true, true, true, false] rfl rfl Zi (fun _ _ _ h => h) (Or.inl ⟨Zja, ?_⟩) ?_ ?_
  rotate_left
  ·exact Zzb
  rotate_left
  ·exact Zac
  refine Yqb (i := 5) (N := some 3) (v := ?_) (a' := ?_) #[true, true, true, true, true, true] rfl rfl Zi (fun _ _ _ h => h) (Or.inl ⟨Zja, ?_⟩) ?_ ?_
  rotate_left
  ·exact Zzb
  rotate_left
  ·exact Zac
  refine Yxi Zi ?_
  have aDo : pQ.cell? ⟨bG, 0, none⟩ = some (.string aC) := (Yf aN.out 0).trans rfl
  have aDp : pQ.cell? ⟨bG, 1, none⟩ = some (.string aH) := (Yf aN.out 1).trans rfl
  have aDq : pQ.cell? ⟨bG, 2, none⟩ = some (.int .i64 aJ) := (Yf aN.out 2).trans rfl
  have aDr : pQ.cell? ⟨bG, 3, none⟩ = some (.string aG) := (Yf aN.out 3).trans rfl
  have aDs : pQ.cell? ⟨bG, 4, none⟩ = some (.string aI) := (Yf aN.out 4).trans rfl
  have aDt : pQ.cell? ⟨bG, 5, none⟩ = some (.string aK) := (Yf aN.out 5).trans rfl
  have aDu : pQ.cell? ⟨bG, 6, none⟩ = some (.bool false) := (Yf aN.out 6).trans rfl
  have aDv : pQ.cell? ⟨bG, 7, none⟩ = some (.bool true) := (Yf aN.out 7).trans rfl
  have aDw := Ye aN.out 0
  have aDx := Ye aN.out 1
  have aDy := Ye aN.out 2
  have aDz := Ye aN.out 3
  have aDA := Ye aN.out 4
  have aDB := Ye aN.out 5
  have aDC := Ye aN.out 6
  have aDD := Ye aN.out 7
  try go_wp2
  go_ret
  exact ⟨Zk, Zs⟩
 subst c4
 rw [if_pos rfl] at H
 by_cases c5 : 1 + aI.size ≤ 9223372036854775807
 rotate_left
 ·rw [if_neg c5] at H
  exact absurd H Zv
 rw [if_pos c5] at H
 have dL := eq_true c5
 have rA : decide (1 + aI.size ≤ 9223372036854775807) = true := decide_eq_true c5
 try have aVy : (9223372036854775807 < 1 + aI.size) = False := eq_false (Nat.not_lt.2 c5)
 by_cases c6 : (dY ++ aG).size + ((⟨#[63]⟩ : ByteArray) ++ aI).size ≤ 9223372036854775807
 rotate_left
 ·rw [if_neg c6] at H
  exact absurd H Zv
 rw [if_pos c6] at H
 have dP := eq_true c6
 have jF : decide ((dY ++ aG).size + ((⟨#[63]⟩ : ByteArray) ++ aI).size ≤ 9223372036854775807) = true := decide_eq_true c6
 try have aYk : (9223372036854775807 < (dY ++ aG).size + ((⟨#[63]⟩ : ByteArray) ++ aI).size) = False := eq_false (Nat.not_lt.2 c6)
 by_cases c7 : aR = true
 rotate_left
 ·replace c7 := Bool.eq_false_iff.mpr c7
  subst c7
  rw [if_neg (show ¬ (false = true) by decide)] at H
  obtain rfl := Option.some.inj H
  go_enter Tryz.func26, Tryz.ntmps26
  try go_wp2_with (first | ((with_reducible refine Ywc (N := 1) rfl ?_); refine Yrc ?hg (N := 1) ?hd (cs := #[.string aC, .string aH, .int .i64 aJ, .string aG, .string aI, .string aK, .bool true, .bool false]) (t := 25) ?hr ?_; (case hd => rfl); (case hg => rfl); (case hr => first | (go_simp; done) | (go_simp; rfl)); intro bG hg w14 hbox hb; have aM := Ya.mk (Ys Za hb); have aU := Ya.mk (hbox); have bI := Ya.mk ((by rw [hg]; exact (Yda Za) : w.heap.size ≤ bG)); have dE := Ya.mk ((by rw [hg]; exact (Yda Za) : w.heap.size ≤ bG)); clear HB; have HB := aM; have aN := aU; have aBl := bI; have xE := dE; clear aM aU bI dE; clear hb hbox hg))
  have aM := Ya.mk (Yr aN.out)
  have aU := Ya.mk (Yc HB.out)
  clear aN
  clear HB
  have aN := aM
  have HB := aU
  clear aM aU
  refine Yqh (n := 6) (S := fun w' => w'.cell? ⟨bG, 0, none⟩ = some (.string aC) ∧ w'.cell? ⟨bG, 1, none⟩ = some (.string aH) ∧ w'.cell? ⟨bG, 2, none⟩ = some (.int .i64 aJ) ∧ w'.cell? ⟨bG, 3, none⟩ = some (.string aG) ∧ w'.cell? ⟨bG, 4, none⟩ = some (.string aI) ∧ w'.cell? ⟨bG, 5, none⟩ = some (.string aK) ∧ w'.cell? ⟨bG, 6, none⟩ = some (.bool true) ∧ w'.cell? ⟨bG, 7, none⟩ = some (.bool false)) (ds := []) #[false, false, false, false, false, false] Zi rfl rfl ⟨(Yf aN.out 0).trans rfl, (Yf aN.out 1).trans rfl, (Yf aN.out 2).trans rfl, (Yf aN.out 3).trans rfl, (Yf aN.out 4).trans rfl, (Yf aN.out 5).trans rfl, (Yf aN.out 6).trans rfl, (Yf aN.out 7).trans rfl⟩ (fun hHeld => ?_)
  generalize w14.drew = w15 at aN HB hHeld ⊢
  refine Yqb (i := 2) (N := some 6) (v := ?_) (a' := ?_) #[false, false, true, false, false, false] rfl rfl Zi (fun _ _ _ h => h) (Or.inl ⟨Zja, ?_⟩) ?_ ?_
  rotate_left
  ·exact Zzb
  rotate_left
  ·exact Zac
  refine Ylf (i := 0) (N := some 4) (v := ?_) (a' := ?_) #[true, false, true, false, false, false] rfl rfl Zi (fun _ _ _ h => h) (Or.inl ⟨Zja, ?_⟩) hHeld ?_ ?_
  rotate_left
  ·exact Zbc
  rotate_left
  ·exact Zac
  refine Ylf (i := 3) (N := some 7) (v := ?_) (a' := ?_) #[true, false, true, true, false, false] rfl rfl Zi (fun _ _ _ h => h) (Or.inl ⟨Zja, ?_⟩) hHeld ?_ ?_
  rotate_left
  ·exact Zbc
  rotate_left
  ·exact Zac
  refine one_ (i := 1) (N := some 5) #[true, true, true, true, false, false] rfl rfl Zi Zea (fun K hK => ?_)
  refine Yih Tryz.func29 Zi rfl #[.agg #[.string aC, .string aH, .int .i64 aJ, .string aG, .string aI, .string aK, .bool true, .bool false]] Zja rfl rfl Zb ?_
  with_reducible refine (Yuc.calls k aC aH aJ aG aI aK true false dY _ ?side1 A2.out).mono ?_
  (case side1 => first | exact HE.out | exact EnvOk.below HE.out Zs)
  rintro e w16 ⟨rfl, hb⟩
  refine ⟨_, rfl, ?_⟩
  have aM := Ya.mk (Ydb (g := bG) (o := .cells #[.string aC, .string aH, .int .i64 aJ, .string aG, .string aI, .string aK, .bool true, .bool false] 25 (0, 0)) Zsa hb)
  have aU := Ya.mk (Ys Zs hb)
  clear aN
  clear HB
  have aN := aM
  have HB := aU
  clear aM aU
  (try clear hb)
  (try clear cC)
  (try clear hk)
  (try clear hi)
  refine hK.out _ _ ⟨(Yf aN.out 0).trans rfl, (Yf aN.out 1).trans rfl, (Yf aN.out 2).trans rfl, (Yf aN.out 3).trans rfl, (Yf aN.out 4).trans rfl, (Yf aN.out 5).trans rfl, (Yf aN.out 6).trans rfl, (Yf aN.out 7).trans rfl⟩ (fun hHeld => ?_)
  clear hK K
  refine Yxg (a' := ?_) ?_ ?_
  rotate_left
  ·show Act.put _ (some 5) _ = _
   simp only [Act.put, List.setIfInBounds_toArray, List.set_cons_zero, List.set_cons_succ, Yma, Yqa]
   rfl
  refine Yqb (i := 4) (N := some 8) (v := ?_) (a' := ?_) #[true, true, true, true, true, false] rfl rfl Zi (fun _ _ _ h => h) (Or.inl ⟨Zja, ?_⟩) ?_ ?_
  rotate_left
  ·exact Zzb
  rotate_left
  ·exact Zac
  refine Yqb (i := 5) (N := some 3) (v := ?_) (a' := ?_) #[true, true, true, true, true, true] rfl rfl Zi (fun _ _ _ h => h) (Or.inl ⟨Zja, ?_⟩) ?_ ?_
  rotate_left
  ·exact Zzb
  rotate_left
  ·exact Zac
  refine Yxi Zi ?_
  have aLS : w16.cell? ⟨bG, 0, none⟩ = some (.string aC) := (Yf aN.out 0).trans rfl
  have aLT : w16.cell? ⟨bG, 1, none⟩ = some (.string aH) := (Yf aN.out 1).trans rfl
  have aLU : w16.cell? ⟨bG, 2, none⟩ = some (.int .i64 aJ) := (Yf aN.out 2).trans rfl
  have aLV : w16.cell? ⟨bG, 3, none⟩ = some (.string aG) := (Yf aN.out 3).trans rfl
  have aLW : w16.cell? ⟨bG, 4, none⟩ = some (.string aI) := (Yf aN.out 4).trans rfl
  have aLX : w16.cell? ⟨bG, 5, none⟩ = some (.string aK) := (Yf aN.out 5).trans rfl
  have aLY : w16.cell? ⟨bG, 6, none⟩ = some (.bool true) := (Yf aN.out 6).trans rfl
  have aLZ : w16.cell? ⟨bG, 7, none⟩ = some (.bool false) := (Yf aN.out 7).trans rfl
  have aMa := Ye aN.out 0
  have aMb := Ye aN.out 1
  have aMc := Ye aN.out 2
  have aMd := Ye aN.out 3
  have aMe := Ye aN.out 4
  have aMf := Ye aN.out 5
  have aMg := Ye aN.out 6
  have aMh := Ye aN.out 7
  try go_wp2
  go_ret
  exact ⟨Zk, Zs⟩
 subst c7
 rw [if_pos rfl] at H
 by_cases c8 : 1 + aK.size ≤ 9223372036854775807
 rotate_left
 ·rw [if_neg c8] at H
  exact absurd H Zv
 rw [if_pos c8] at H
 have gZ := eq_true c8
 have jE : decide (1 + aK.size ≤ 9223372036854775807) = true := decide_eq_true c8
 try have aVx : (9223372036854775807 < 1 + aK.size) = False := eq_false (Nat.not_lt.2 c8)
 by_cases c9 : ((dY ++ aG) ++ ((⟨#[63]⟩ : ByteArray) ++ aI)).size + ((⟨#[35]⟩ : ByteArray) ++ aK).size ≤ 9223372036854775807
 rotate_left
 ·rw [if_neg c9] at H
  exact absurd H Zv
 rw [if_pos c9] at H
 have iI := eq_true c9
 have oF : decide (((dY ++ aG) ++ ((⟨#[63]⟩ : ByteArray) ++ aI)).size + ((⟨#[35]⟩ : ByteArray) ++ aK).size ≤ 9223372036854775807) = true := decide_eq_true c9
 try have aBk : (9223372036854775807 < ((dY ++ aG) ++ ((⟨#[63]⟩ : ByteArray) ++ aI)).size + ((⟨#[35]⟩ : ByteArray) ++ aK).size) = False := eq_false (Nat.not_lt.2 c9)
 obtain rfl := Option.some.inj H
 go_enter Tryz.func26, Tryz.ntmps26
 try go_wp2_with (first | ((with_reducible refine Ywc (N := 1) rfl ?_); refine Yrc ?hg (N := 1) ?hd (cs := #[.string aC, .string aH, .int .i64 aJ, .string aG, .string aI, .string aK, .bool true, .bool true]) (t := 25) ?hr ?_; (case hd => rfl); (case hg => rfl); (case hr => first | (go_simp; done) | (go_simp; rfl)); intro bG hg qE hbox hb; have aM := Ya.mk (Ys Za hb); have aU := Ya.mk (hbox); have bI := Ya.mk ((by rw [hg]; exact (Yda Za) : w.heap.size ≤ bG)); have dE := Ya.mk ((by rw [hg]; exact (Yda Za) : w.heap.size ≤ bG)); clear HB; have HB := aM; have aN := aU; have aBl := bI; have xE := dE; clear aM aU bI dE; clear hb hbox hg))
 have aM := Ya.mk (Yr aN.out)
 have aU := Ya.mk (Yc HB.out)
 clear aN
 clear HB
 have aN := aM
 have HB := aU
 clear aM aU
 refine Yqh (n := 6) (S := fun w' => w'.cell? ⟨bG, 0, none⟩ = some (.string aC) ∧ w'.cell? ⟨bG, 1, none⟩ = some (.string aH) ∧ w'.cell? ⟨bG, 2, none⟩ = some (.int .i64 aJ) ∧ w'.cell? ⟨bG, 3, none⟩ = some (.string aG) ∧ w'.cell? ⟨bG, 4, none⟩ = some (.string aI) ∧ w'.cell? ⟨bG, 5, none⟩ = some (.string aK) ∧ w'.cell? ⟨bG, 6, none⟩ = some (.bool true) ∧ w'.cell? ⟨bG, 7, none⟩ = some (.bool true)) (ds := []) #[false, false, false, false, false, false] Zi rfl rfl ⟨(Yf aN.out 0).trans rfl, (Yf aN.out 1).trans rfl, (Yf aN.out 2).trans rfl, (Yf aN.out 3).trans rfl, (Yf aN.out 4).trans rfl, (Yf aN.out 5).trans rfl, (Yf aN.out 6).trans rfl, (Yf aN.out 7).trans rfl⟩ (fun hHeld => ?_)
 generalize qE.drew = w11 at aN HB hHeld ⊢
 refine Yqb (i := 2) (N := some 6) (v := ?_) (a' := ?_) #[false, false, true, false, false, false] rfl rfl Zi (fun _ _ _ h => h) (Or.inl ⟨Zja, ?_⟩) ?_ ?_
 rotate_left
 ·exact Zzb
 rotate_left
 ·exact Zac
 refine Ylf (i := 0) (N := some 4) (v := ?_) (a' := ?_) #[true, false, true, false, false, false] rfl rfl Zi (fun _ _ _ h => h) (Or.inl ⟨Zja, ?_⟩) hHeld ?_ ?_
 rotate_left
 ·exact Zbc
 rotate_left
 ·exact Zac
 refine Ylf (i := 3) (N := some 7) (v := ?_) (a' := ?_) #[true, false, true, true, false, false] rfl rfl Zi (fun _ _ _ h => h) (Or.inl ⟨Zja, ?_⟩) hHeld ?_ ?_
 rotate_left
 ·exact Zbc
 rotate_left
 ·exact Zac
 refine one_ (i := 1) (N := some 5) #[true, true, true, true, false, false] rfl rfl Zi Zea (fun K hK => ?_)
 refine Yih Tryz.func29 Zi rfl #[.agg #[.string aC, .string aH, .int .i64 aJ, .string aG, .string aI, .string aK, .bool true, .bool true]] Zja rfl rfl Zb ?_
 with_reducible refine (Yuc.calls k aC aH aJ aG aI aK true true dY _ ?side1 A2.out).mono ?_
 (case side1 => first | exact HE.out | exact EnvOk.below HE.out Zs)
 rintro e vG ⟨rfl, hb⟩
 refine ⟨_, rfl, ?_⟩
 have aM := Ya.mk (Ydb (g := bG) (o := .cells #[.string aC, .string aH, .int .i64 aJ, .string aG, .string aI, .string aK, .bool true, .bool true] 25 (0, 0)) Zsa hb)
 have aU := Ya.mk (Ys Zs hb)
 clear aN
 clear HB
 have aN := aM
 have HB := aU
 clear aM aU
 (try clear hb)
 (try clear cC)
 (try clear hk)
 (try clear hi)
 refine hK.out _ _ ⟨(Yf aN.out 0).trans rfl, (Yf aN.out 1).trans rfl, (Yf aN.out 2).trans rfl, (Yf aN.out 3).trans rfl, (Yf aN.out 4).trans rfl, (Yf aN.out 5).trans rfl, (Yf aN.out 6).trans rfl, (Yf aN.out 7).trans rfl⟩ (fun hHeld => ?_)
 clear hK K
 refine Yxg (a' := ?_) ?_ ?_
 rotate_left
 ·show Act.put _ (some 5) _ = _
  simp only [Act.put, List.setIfInBounds_toArray, List.set_cons_zero, List.set_cons_succ, Yma, Yqa]
  rfl
 refine Yqb (i := 4) (N := some 8) (v := ?_) (a' := ?_) #[true, true, true, true, true, false] rfl rfl Zi (fun _ _ _ h => h) (Or.inl ⟨Zja, ?_⟩) ?_ ?_
 rotate_left
 ·exact Zzb
 rotate_left
 ·exact Zac
 refine Yqb (i := 5) (N := some 3) (v := ?_) (a' := ?_) #[true, true, true, true, true, true] rfl rfl Zi (fun _ _ _ h => h) (Or.inl ⟨Zja, ?_⟩) ?_ ?_
 rotate_left
 ·exact Zzb
 rotate_left
 ·exact Zac
 refine Yxi Zi ?_
 have aMi : vG.cell? ⟨bG, 0, none⟩ = some (.string aC) := (Yf aN.out 0).trans rfl
 have aMj : vG.cell? ⟨bG, 1, none⟩ = some (.string aH) := (Yf aN.out 1).trans rfl
 have aMk : vG.cell? ⟨bG, 2, none⟩ = some (.int .i64 aJ) := (Yf aN.out 2).trans rfl
 have aMl : vG.cell? ⟨bG, 3, none⟩ = some (.string aG) := (Yf aN.out 3).trans rfl
 have aMm : vG.cell? ⟨bG, 4, none⟩ = some (.string aI) := (Yf aN.out 4).trans rfl
 have aMn : vG.cell? ⟨bG, 5, none⟩ = some (.string aK) := (Yf aN.out 5).trans rfl
 have aMo : vG.cell? ⟨bG, 6, none⟩ = some (.bool true) := (Yf aN.out 6).trans rfl
 have aMp : vG.cell? ⟨bG, 7, none⟩ = some (.bool true) := (Yf aN.out 7).trans rfl
 have aMq := Ye aN.out 0
 have aMr := Ye aN.out 1
 have aMs := Ye aN.out 2
 have aMt := Ye aN.out 3
 have aMu := Ye aN.out 4
 have aMv := Ye aN.out 5
 have aMw := Ye aN.out 6
 have aMx := Ye aN.out 7
 try go_wp2
 go_ret
 exact ⟨Zk, Zs⟩
def Yvg.f (a0 : Int) : Option (Int) := if ((a0 - 65) % 256) < 26 then (some (Go.bits .or .u8 a0 32)) else (some a0)
theorem Yvg.calls (a0 r : Int) (w : World) (hE : EnvOk w) (h : Yvg.f a0 = some r) :
  Calls Tryz.prog 91 #[.int .u8 a0] w fun e w' => e = .returned (.int .u8 r) ∧ Drawn0 w w' := by
 have HE := Ya.mk hE
 clear hE
 have H : (if ((a0 - 65) % 256) < 26 then (some (Go.bits .or .u8 a0 32)) else (some a0)) = some r := h
 clear h
 by_cases c2 : ((a0 - 65) % 256) < 26
 ·rw [if_pos c2] at H
  have eT : decide (((a0 - 65) % 256) < 26) = true := decide_eq_true c2
  clear c2
  obtain rfl := Option.some.inj H
  go_enter Tryz.func91, Tryz.ntmps91
  go_wp2
  go_ret
  exact ⟨Zf, Zh⟩
 rw [if_neg c2] at H
 have eT : decide (((a0 - 65) % 256) < 26) = false := decide_eq_false c2
 clear c2
 obtain rfl := Option.some.inj H
 go_enter Tryz.func91, Tryz.ntmps91
 go_wp2
 go_ret
 exact ⟨Zf, Zh⟩
def Yva.f (a0 : Int) : Option (Bool) := some (decide ((((Go.bits .or .u8 a0 32) - 97) % 256) < 26))
theorem Yva.calls (a0 : Int) (r : Bool) (w : World) (hE : EnvOk w) (h : Yva.f a0 = some r) :
  Calls Tryz.prog 77 #[.int .u8 a0] w fun e w' => e = .returned (.bool r) ∧ Drawn0 w w' := by
 have HE := Ya.mk hE
 clear hE
 have H : (some (decide ((((Go.bits .or .u8 a0 32) - 97) % 256) < 26))) = some r := h
 clear h
 obtain rfl := Option.some.inj H
 go_enter Tryz.func77, Tryz.ntmps77
 go_wp2
 go_ret
 exact ⟨Zf, Zh⟩
def Yta.f (a0 : Int) : Option (Bool) := some (decide (((a0 - 48) % 256) < 10))
theorem Yta.calls (a0 : Int) (r : Bool) (w : World) (hE : EnvOk w) (h : Yta.f a0 = some r) :
  Calls Tryz.prog 78 #[.int .u8 a0] w fun e w' => e = .returned (.bool r) ∧ Drawn0 w w' := by
 have HE := Ya.mk hE
 clear hE
 have H : (some (decide (((a0 - 48) % 256) < 10))) = some r := h
 clear h
 obtain rfl := Option.some.inj H
 go_enter Tryz.func78, Tryz.ntmps78
 go_wp2
 go_ret
 exact ⟨Zf, Zh⟩
def Yjg.f (a0 : Int) : Option (Int × Bool) := (Yvg.f a0).bind fun hF => ((Yta.f hF).bind fun aBm => (if aBm = true then (some ((hF - 48) % 256, true)) else (if ((hF - 97) % 256) < 6 then (some (((hF - 97) % 256) + 10, true)) else (some (0, false)))))
theorem Yjg.calls (a0 r1 : Int) (r2 : Bool) (w : World) (hE : EnvOk w) (h : Yjg.f a0 = some (r1, r2)) :
  Calls Tryz.prog 121 #[.int .u8 a0] w fun e w' => e = .returned (.tuple #[.int .u32 r1, .bool r2]) ∧ Drawn0 w w' := by
 have HE := Ya.mk hE
 clear hE
 have H : ((Yvg.f a0).bind fun hF => ((Yta.f hF).bind fun aBm => (if aBm = true then (some ((hF - 48) % 256, true)) else (if ((hF - 97) % 256) < 6 then (some (((hF - 97) % 256) + 10, true)) else (some (0, false)))))) = some (r1, r2) := h
 clear h
 replace H := Option.bind_eq_some_iff.mp H
 obtain ⟨hF, dU, H⟩ := H
 try dsimp -simprocs only at H
 have A2 := Ya.mk dU
 clear dU
 replace H := Option.bind_eq_some_iff.mp H
 obtain ⟨aBm, jB, H⟩ := H
 try dsimp -simprocs only at H
 have A3 := Ya.mk jB
 clear jB
 by_cases c4 : aBm = true
 ·subst c4
  rw [if_pos rfl] at H
  simp only [Option.some.injEq, Prod.mk.injEq] at H
  obtain ⟨rfl, rfl⟩ := H
  go_enter Tryz.func121, Tryz.ntmps121
  go_wp2_with (first | ((with_reducible refine Yh (f := 91) rfl ?_); refine Yba (some 5) rfl rfl Tryz.func91 Zi rfl #[.int .u8 a0] rfl Zb ?_; (with_reducible refine (Yvg.calls a0 hF _ ?side1 A2.out).mono ?_); (case side1 => first | exact HE.out | exact EnvOk.heap HE.out rfl); rintro e w' ⟨rfl, ⟨nd, rfl⟩⟩; refine ⟨_, rfl, ?_⟩) | ((with_reducible refine Yh (f := 78) rfl ?_); refine Yba (some 8) rfl rfl Tryz.func78 Zi rfl #[.int .u8 hF] rfl Zb ?_; (with_reducible refine (Yta.calls hF true _ ?side1 A3.out).mono ?_); (case side1 => first | exact HE.out | exact EnvOk.heap HE.out rfl); rintro e w' ⟨rfl, ⟨nd, rfl⟩⟩; refine ⟨_, rfl, ?_⟩))
  go_ret2
  exact ⟨Zf, Zh⟩
 replace c4 := Bool.eq_false_iff.mpr c4
 subst c4
 rw [if_neg (show ¬ (false = true) by decide)] at H
 by_cases c5 : ((hF - 97) % 256) < 6
 ·rw [if_pos c5] at H
  have dL : decide (((hF - 97) % 256) < 6) = true := decide_eq_true c5
  clear c5
  simp only [Option.some.injEq, Prod.mk.injEq] at H
  obtain ⟨rfl, rfl⟩ := H
  go_enter Tryz.func121, Tryz.ntmps121
  go_wp2_with (first | ((with_reducible refine Yh (f := 91) rfl ?_); refine Yba (some 5) rfl rfl Tryz.func91 Zi rfl #[.int .u8 a0] rfl Zb ?_; (with_reducible refine (Yvg.calls a0 hF _ ?side1 A2.out).mono ?_); (case side1 => first | exact HE.out | exact EnvOk.heap HE.out rfl); rintro e w' ⟨rfl, ⟨nd, rfl⟩⟩; refine ⟨_, rfl, ?_⟩) | ((with_reducible refine Yh (f := 78) rfl ?_); refine Yba (some 8) rfl rfl Tryz.func78 Zi rfl #[.int .u8 hF] rfl Zb ?_; (with_reducible refine (Yta.calls hF false _ ?side1 A3.out).mono ?_); (case side1 => first | exact HE.out | exact EnvOk.heap HE.out rfl); rintro e w' ⟨rfl, ⟨nd, rfl⟩⟩; refine ⟨_, rfl, ?_⟩))
  go_ret2
  exact ⟨Zf, Zh⟩
 rw [if_neg c5] at H
 have dL : decide (((hF - 97) % 256) < 6) = false := decide_eq_false c5
 clear c5
 simp only [Option.some.injEq, Prod.mk.injEq] at H
 obtain ⟨rfl, rfl⟩ := H
 go_enter Tryz.func121, Tryz.ntmps121
 go_wp2_with (first | ((with_reducible refine Yh (f := 91) rfl ?_); refine Yba (some 5) rfl rfl Tryz.func91 Zi rfl #[.int .u8 a0] rfl Zb ?_; (with_reducible refine (Yvg.calls a0 hF _ ?side1 A2.out).mono ?_); (case side1 => first | exact HE.out | exact EnvOk.heap HE.out rfl); rintro e w' ⟨rfl, ⟨nd, rfl⟩⟩; refine ⟨_, rfl, ?_⟩) | ((with_reducible refine Yh (f := 78) rfl ?_); refine Yba (some 8) rfl rfl Tryz.func78 Zi rfl #[.int .u8 hF] rfl Zb ?_; (with_reducible refine (Yta.calls hF false _ ?side1 A3.out).mono ?_); (case side1 => first | exact HE.out | exact EnvOk.heap HE.out rfl); rintro e w' ⟨rfl, ⟨nd, rfl⟩⟩; refine ⟨_, rfl, ?_⟩))
 go_ret2
 exact ⟨Zf, Zh⟩
def Yhd.l0 : Nat → ByteArray → Int → Bool → Int → Int → Option (Int × Int)
 | 0, _, _, _, _, _ => none
 | k + 1, x0, x4, x5, x12, x13 => if x13 < x12 then (if 0 ≤ x13 then (if x13 < (x0.size : Int) then ((Yjg.f (bt x0 x13)).bind fun aBn => (if aBn.2 = true then (if x5 = true then (Yhd.l0 k x0 (Go.bits .or .u32 ((x4 * 16) % 4294967296) aBn.1) true x12 (wrap64 (x13 + 1))) else (Yhd.l0 k x0 (Go.bits .or .u32 ((x4 * 16) % 4294967296) aBn.1) ((x4 / 268435456) != 0) x12 (wrap64 (x13 + 1)))) else (some (0, 3)))) else (none)) else (none)) else (if x5 = true then (some (0, 5)) else (some (x4, 0)))
def Yhd.f (k : Nat) (a0 : ByteArray) : Option (Int × Int) := if a0.toList = ([] : List UInt8) then (some (0, 3)) else (Yhd.l0 k a0 0 false (a0.size : Int) 0)
theorem Yhd.calls (k : Nat) (a0 : ByteArray) (r1 r2 : Int) (w : World) (hE : EnvOk w) (h : Yhd.f k a0 = some (r1, r2)) :
  Calls Tryz.prog 92 #[.string a0] w fun e w' => e = .returned (.tuple #[.int .u32 r1, .int .i64 r2]) ∧ Drawn0 w w' := by
 have HE := Ya.mk hE
 clear hE
 have H : (if a0.toList = ([] : List UInt8) then (some (0, 3)) else (Yhd.l0 k a0 0 false (a0.size : Int) 0)) = some (r1, r2) := h
 clear h
 by_cases c2 : a0.toList = ([] : List UInt8)
 ·rw [if_pos c2] at H
  have eT : (a0.toList == ([] : List UInt8)) = true := beq_iff_eq.mpr c2
  have kG : (a0.toList != ([] : List UInt8)) = false := bne_eq_false_iff_eq.mpr c2
  clear c2
  simp only [Option.some.injEq, Prod.mk.injEq] at H
  obtain ⟨rfl, rfl⟩ := H
  go_enter Tryz.func92, Tryz.ntmps92
  go_wp2
  go_ret2
  exact ⟨Zf, Zh⟩
 rw [if_neg c2] at H
 have eT : (a0.toList == ([] : List UInt8)) = false := beq_eq_false_iff_ne.mpr c2
 have kG : (a0.toList != ([] : List UInt8)) = true := bne_iff_ne.mpr c2
 have H' := Ya.mk H
 clear H
 go_enter Tryz.func92, Tryz.ntmps92
 go_wp2
 go_loopg [4, 5, 13] k (fun kq v4 v5 v13 w' => ∃ (aA : Int) (bA : Bool) (dF : Int), v4 = .int .u32 aA ∧ v5 = .bool bA ∧ v13 = .int .i64 dF ∧ Ya (Yhd.l0 kq a0 aA bA (a0.size : Int) dF = some (r1, r2)) ∧ Ya (kq ≤ k) ∧ Drawn0 w w')
 case atStart => exact ⟨(0), (false), (0), Zf, Zf, Zf, H', ⟨Nat.le_refl _⟩, Zh⟩
 case round =>
  clear H'
  try clear c2
  try clear eT
  try clear kG
  try clear p2
  obtain ⟨aA, bA, dF, rfl, rfl, rfl, HA, dD, ⟨m1, rfl⟩⟩ := hrel
  cases gk with
  | zero => exact absurd HA.out (by simp [Yhd.l0])
  | succ k1 =>
   have H := HA.out
   clear HA
   simp only [Yhd.l0] at H
   by_cases c3 : dF < (a0.size : Int)
   rotate_left
   ·rw [if_neg c3] at H
    have cJ : decide (dF < (a0.size : Int)) = false := decide_eq_false c3
    clear c3
    by_cases dR : bA = true
    ·subst dR
     rw [if_pos rfl] at H
     simp only [Option.some.injEq, Prod.mk.injEq] at H
     obtain ⟨rfl, rfl⟩ := H
     go_wp2
     go_ret2
     exact ⟨Zf, Zh⟩
    replace dR := Bool.eq_false_iff.mpr dR
    subst dR
    rw [if_neg (show ¬ (false = true) by decide)] at H
    simp only [Option.some.injEq, Prod.mk.injEq] at H
    obtain ⟨rfl, rfl⟩ := H
    go_wp2
    go_ret2
    exact ⟨Zf, Zh⟩
   rw [if_pos c3] at H
   have cJ : decide (dF < (a0.size : Int)) = true := decide_eq_true c3
   clear c3
   by_cases c4 : 0 ≤ dF
   rotate_left
   ·rw [if_neg c4] at H
    exact absurd H Zv
   rw [if_pos c4] at H
   have cF : decide (0 ≤ dF) = true := decide_eq_true c4
   clear c4
   by_cases c5 : dF < (a0.size : Int)
   rotate_left
   ·rw [if_neg c5] at H
    exact absurd H Zv
   rw [if_pos c5] at H
   have dL : decide (dF < (a0.size : Int)) = true := decide_eq_true c5
   clear c5
   replace H := Option.bind_eq_some_iff.mp H
   obtain ⟨⟨aBo, t124⟩, oE, H⟩ := H
   try dsimp -simprocs only at H
   have A7 := Ya.mk oE
   clear oE
   by_cases c8 : t124 = true
   rotate_left
   ·replace c8 := Bool.eq_false_iff.mpr c8
    subst c8
    rw [if_neg (show ¬ (false = true) by decide)] at H
    simp only [Option.some.injEq, Prod.mk.injEq] at H
    obtain ⟨rfl, rfl⟩ := H
    have p6 : 0 ≤ (dF : Int) := of_decide_eq_true Zc
    have q6 : dF < (a0.size : Int) := of_decide_eq_true Zc
    have hx6 := Yab a0 dF
    replace p6 := eq_true p6
    replace q6 := eq_true q6
    go_wp2_with (first | ((with_reducible refine Yh (f := 121) rfl ?_); refine Yba (some 20) rfl rfl Tryz.func121 Zi rfl #[.int .u8 (bt a0 dF)] rfl Zb ?_; (with_reducible refine (Yjg.calls (bt a0 dF) aBo false _ ?side1 A7.out).mono ?_); (case side1 => first | exact HE.out | exact EnvOk.heap HE.out rfl); rintro e w' ⟨rfl, ⟨nd, rfl⟩⟩; refine ⟨_, rfl, ?_⟩))
    go_ret2
    exact ⟨Zf, Zh⟩
   subst c8
   rw [if_pos rfl] at H
   by_cases c9 : bA = true
   ·subst c9
    rw [if_pos rfl] at H
    have H' := Ya.mk H
    clear H
    have p6 : 0 ≤ (dF : Int) := of_decide_eq_true Zc
    have q6 : dF < (a0.size : Int) := of_decide_eq_true Zc
    have hx6 := Yab a0 dF
    replace p6 := eq_true p6
    replace q6 := eq_true q6
    go_wp2_with (first | ((with_reducible refine Yh (f := 121) rfl ?_); refine Yba (some 20) rfl rfl Tryz.func121 Zi rfl #[.int .u8 (bt a0 dF)] rfl Zb ?_; (with_reducible refine (Yjg.calls (bt a0 dF) aBo true _ ?side1 A7.out).mono ?_); (case side1 => first | exact HE.out | exact EnvOk.heap HE.out rfl); rintro e w' ⟨rfl, ⟨nd, rfl⟩⟩; refine ⟨_, rfl, ?_⟩))
    go_roundg k1
    case measure => have := dD.out; omega
    case rel => exact ⟨(Go.bits .or .u32 ((aA * 16) % 4294967296) aBo), (true), (wrap64 (dF + 1)), Zf, Zf, Zf, H', ⟨Zaa⟩, Zh⟩
   replace c9 := Bool.eq_false_iff.mpr c9
   subst c9
   rw [if_neg (show ¬ (false = true) by decide)] at H
   have H' := Ya.mk H
   clear H
   have p6 : 0 ≤ (dF : Int) := of_decide_eq_true Zc
   have q6 : dF < (a0.size : Int) := of_decide_eq_true Zc
   have hx6 := Yab a0 dF
   replace p6 := eq_true p6
   replace q6 := eq_true q6
   go_wp2_with (first | ((with_reducible refine Yh (f := 121) rfl ?_); refine Yba (some 20) rfl rfl Tryz.func121 Zi rfl #[.int .u8 (bt a0 dF)] rfl Zb ?_; (with_reducible refine (Yjg.calls (bt a0 dF) aBo true _ ?side1 A7.out).mono ?_); (case side1 => first | exact HE.out | exact EnvOk.heap HE.out rfl); rintro e w' ⟨rfl, ⟨nd, rfl⟩⟩; refine ⟨_, rfl, ?_⟩))
   go_roundg k1
   case measure => have := dD.out; omega
   case rel => exact ⟨(Go.bits .or .u32 ((aA * 16) % 4294967296) aBo), (((aA / 268435456) != 0)), (wrap64 (dF + 1)), Zf, Zf, Zf, H', ⟨Zaa⟩, Zh⟩
end Go.Proofs.YtnmglnglbdpjjaaGreatDoor.X
