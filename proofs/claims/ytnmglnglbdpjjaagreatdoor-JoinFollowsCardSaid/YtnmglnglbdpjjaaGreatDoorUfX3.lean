import Derived.Test.YtnmglnglbdpjjaaGreatDoorUfX2
set_option linter.all false
namespace Go.Proofs.YtnmglnglbdpjjaaGreatDoor.X
open Go.RowKit Go.Yw.PrintWords Go.Yw.PrintLast Go.Yw.PrintMore
attribute [local go_sem] Yfe Ybe Yre Yue Yld Ykd Yee Yde
set_option maxHeartbeats 8000000
set_option maxRecDepth 100000
def Yid.f (k : Nat) (aE aJ : Y) (aN : Int) (aG aM aK : Y) (aU aV : Bool) : Option (Y) := (Yef.f k aE aJ aN aG aM aK aU aV).bind fun dX => (if dX.size + aG.size ≤ 9223372036854775807 then (if aU = true then (if 1 + aM.size ≤ 9223372036854775807 then (if (dX ++ aG).size + ((⟨#[63]⟩ : Y) ++ aM).size ≤ 9223372036854775807 then (if aV = true then (if 1 + aK.size ≤ 9223372036854775807 then (if ((dX ++ aG) ++ ((⟨#[63]⟩ : Y) ++ aM)).size + ((⟨#[35]⟩ : Y) ++ aK).size ≤ 9223372036854775807 then (some (((dX ++ aG) ++ ((⟨#[63]⟩ : Y) ++ aM)) ++ ((⟨#[35]⟩ : Y) ++ aK))) else (none)) else (none)) else (some ((dX ++ aG) ++ ((⟨#[63]⟩ : Y) ++ aM)))) else (none)) else (none)) else (if aV = true then (if 1 + aK.size ≤ 9223372036854775807 then (if (dX ++ aG).size + ((⟨#[35]⟩ : Y) ++ aK).size ≤ 9223372036854775807 then (some ((dX ++ aG) ++ ((⟨#[35]⟩ : Y) ++ aK))) else (none)) else (none)) else (some (dX ++ aG)))) else (none))
theorem Yid.calls (k : Nat) (aE aJ : Y) (aN : Int) (aG aM aK : Y) (aU aV : Bool) (r : Y) (w : World) (hE : EnvOk w) (h : Yid.f k aE aJ aN aG aM aK aU aV = some r) :
  Calls Tryz.prog 26 #[.agg #[.string aE, .string aJ, .int .i64 aN, .string aG, .string aM, .string aK, .bool aU, .bool aV]] w fun e w' => e = .returned (.string r) ∧ Below w.heap.size w w' := by
 have bQ := Tryz.underlying25
 have HE := Ya.mk hE
 clear hE
 have HB := Ya.mk (Below.refl w.heap.size w)
 have H : ((Yef.f k aE aJ aN aG aM aK aU aV).bind fun dX => (if dX.size + aG.size ≤ 9223372036854775807 then (if aU = true then (if 1 + aM.size ≤ 9223372036854775807 then (if (dX ++ aG).size + ((⟨#[63]⟩ : Y) ++ aM).size ≤ 9223372036854775807 then (if aV = true then (if 1 + aK.size ≤ 9223372036854775807 then (if ((dX ++ aG) ++ ((⟨#[63]⟩ : Y) ++ aM)).size + ((⟨#[35]⟩ : Y) ++ aK).size ≤ 9223372036854775807 then (some (((dX ++ aG) ++ ((⟨#[63]⟩ : Y) ++ aM)) ++ ((⟨#[35]⟩ : Y) ++ aK))) else (none)) else (none)) else (some ((dX ++ aG) ++ ((⟨#[63]⟩ : Y) ++ aM)))) else (none)) else (none)) else (if aV = true then (if 1 + aK.size ≤ 9223372036854775807 then (if (dX ++ aG).size + ((⟨#[35]⟩ : Y) ++ aK).size ≤ 9223372036854775807 then (some ((dX ++ aG) ++ ((⟨#[35]⟩ : Y) ++ aK))) else (none)) else (none)) else (some (dX ++ aG)))) else (none))) = some r := h
 clear h
 obtain ⟨dX, dW, H⟩ := Ku H
 try dsimp -simprocs only at H
 have A2 := Ya.mk dW
 clear dW
 by_cases c3 : dX.size + aG.size ≤ 9223372036854775807
 rotate_left
 ·rw [if_neg c3] at H
  exact absurd H Zv
 rw [if_pos c3] at H
 have cC := Kt c3
 have fX : decide (dX.size + aG.size ≤ 9223372036854775807) = true := Kr c3
 try have aAI : (9223372036854775807 < dX.size + aG.size) = False := eq_false (Nat.not_lt.2 c3)
 by_cases c4 : aU = true
 rotate_left
 ·replace c4 := Kx c4
  subst c4
  rw [if_neg (show ¬ (false = true) by decide)] at H
  by_cases eP : aV = true
  rotate_left
  ·replace eP := Kx eP
   subst eP
   rw [if_neg (show ¬ (false = true) by decide)] at H
   obtain rfl := Kv H
   go_enter Tryz.func26, Tryz.ntmps26
   try go_wp2_with (first | ((with_reducible refine Ybd (N := 1) rfl ?_); refine Yzc ?hg (N := 1) ?hd (cs := #[.string aE, .string aJ, .int .i64 aN, .string aG, .string aM, .string aK, .bool false, .bool false]) (t := 25) ?hr ?_; (case hd => rfl); (case hg => rfl); (case hr => first | (go_simp; done) | (go_simp; rfl)); intro bH hg w25 hbox hb; have aH := Ya.mk (Yt Za hb); have aR := Ya.mk (hbox); have bK := Ya.mk ((by rw [hg]; exact (Yka Za) : w.heap.size ≤ bH)); have dM := Ya.mk ((by rw [hg]; exact (Yka Za) : w.heap.size ≤ bH)); clear HB; have HB := aH; have aI := aR; have aAJ := bK; have wA := dM; clear aH aR bK dM; clear hb hbox hg))
   have aH := Ya.mk (Yp aI.out)
   have aR := Ya.mk (Yc HB.out)
   clear aI
   clear HB
   have aI := aH
   have HB := aR
   clear aH aR
   refine Ykg (n := 6) (S := fun w' => w'.cell? ⟨bH, 0, none⟩ = some (.string aE) ∧ w'.cell? ⟨bH, 1, none⟩ = some (.string aJ) ∧ w'.cell? ⟨bH, 2, none⟩ = some (.int .i64 aN) ∧ w'.cell? ⟨bH, 3, none⟩ = some (.string aG) ∧ w'.cell? ⟨bH, 4, none⟩ = some (.string aM) ∧ w'.cell? ⟨bH, 5, none⟩ = some (.string aK) ∧ w'.cell? ⟨bH, 6, none⟩ = some (.bool false) ∧ w'.cell? ⟨bH, 7, none⟩ = some (.bool false)) (ds := []) #[false, false, false, false, false, false] Zi rfl rfl ⟨(Yf aI.out 0).trans rfl, (Yf aI.out 1).trans rfl, (Yf aI.out 2).trans rfl, (Yf aI.out 3).trans rfl, (Yf aI.out 4).trans rfl, (Yf aI.out 5).trans rfl, (Yf aI.out 6).trans rfl, (Yf aI.out 7).trans rfl⟩ (fun hHeld => ?_)
   generalize w25.drew = w26 at aI HB hHeld ⊢
   refine Yya (i := 2) (N := some 6) (v := ?_) (a' := ?_) #[false, false, true, false, false, false] rfl rfl Zi (fun _ _ _ h => h) (Or.inl ⟨Zga, ?_⟩) ?_ ?_
   rotate_left
   ·exact Zyb
   rotate_left
   ·exact Zzb
   refine Ynf (i := 0) (N := some 4) (v := ?_) (a' := ?_) #[true, false, true, false, false, false] rfl rfl Zi (fun _ _ _ h => h) (Or.inl ⟨Zga, ?_⟩) hHeld ?_ ?_
   rotate_left
   ·exact Zac
   rotate_left
   ·exact Zzb
   refine Ynf (i := 3) (N := some 7) (v := ?_) (a' := ?_) #[true, false, true, true, false, false] rfl rfl Zi (fun _ _ _ h => h) (Or.inl ⟨Zga, ?_⟩) hHeld ?_ ?_
   rotate_left
   ·exact Zac
   rotate_left
   ·exact Zzb
   refine one_ (i := 1) (N := some 5) #[true, true, true, true, false, false] rfl rfl Zi Zca (fun K hK => ?_)
   refine Yvh Tryz.func29 Zi rfl #[.agg #[.string aE, .string aJ, .int .i64 aN, .string aG, .string aM, .string aK, .bool false, .bool false]] Zga rfl rfl Zb ?_
   with_reducible refine (Yef.calls k aE aJ aN aG aM aK false false dX _ ?z1 A2.out).mono ?_
   (case z1 => exact Ki)
   rintro e w27 ⟨rfl, hb⟩
   refine ⟨_, rfl, ?_⟩
   have aH := Ya.mk (Ykb (g := bH) (o := .cells #[.string aE, .string aJ, .int .i64 aN, .string aG, .string aM, .string aK, .bool false, .bool false] 25 (0, 0)) Zqa hb)
   have aR := Ya.mk (Yt Zs hb)
   clear aI
   clear HB
   have aI := aH
   have HB := aR
   clear aH aR
   (try clear hb)
   (try clear bU)
   (try clear hk)
   (try clear hi)
   refine hK.out _ _ ⟨(Yf aI.out 0).trans rfl, (Yf aI.out 1).trans rfl, (Yf aI.out 2).trans rfl, (Yf aI.out 3).trans rfl, (Yf aI.out 4).trans rfl, (Yf aI.out 5).trans rfl, (Yf aI.out 6).trans rfl, (Yf aI.out 7).trans rfl⟩ (fun hHeld => ?_)
   clear hK K
   refine Yeg (a' := ?_) ?_ ?_
   rotate_left
   ·show Act.put _ (some 5) _ = _
    simp only [Act.put, Kca, Yaa, Yda]
    rfl
   refine Yya (i := 4) (N := some 8) (v := ?_) (a' := ?_) #[true, true, true, true, true, false] rfl rfl Zi (fun _ _ _ h => h) (Or.inl ⟨Zga, ?_⟩) ?_ ?_
   rotate_left
   ·exact Zyb
   rotate_left
   ·exact Zzb
   refine Yya (i := 5) (N := some 3) (v := ?_) (a' := ?_) #[true, true, true, true, true, true] rfl rfl Zi (fun _ _ _ h => h) (Or.inl ⟨Zga, ?_⟩) ?_ ?_
   rotate_left
   ·exact Zyb
   rotate_left
   ·exact Zzb
   refine Yoh Zi ?_
   obtain ⟨aLo, aLp, aLq, aLr, aLs, aLt, aLu, aLv, aLw, aLx, aLy, aLz, aLA, aLB, aLC, aLD⟩ := Ka aI.out
   try go_wp2
   go_ret
   exact ⟨Zl, Zs⟩
  subst eP
  rw [if_pos rfl] at H
  by_cases iK : 1 + aK.size ≤ 9223372036854775807
  rotate_left
  ·rw [if_neg iK] at H
   exact absurd H Zv
  rw [if_pos iK] at H
  have kD := Kt iK
  have pP : decide (1 + aK.size ≤ 9223372036854775807) = true := Kr iK
  try have aHP : (9223372036854775807 < 1 + aK.size) = False := eq_false (Nat.not_lt.2 iK)
  by_cases gX : (dX ++ aG).size + ((⟨#[35]⟩ : Y) ++ aK).size ≤ 9223372036854775807
  rotate_left
  ·rw [if_neg gX] at H
   exact absurd H Zv
  rw [if_pos gX] at H
  have kE := Kt gX
  have sX : decide ((dX ++ aG).size + ((⟨#[35]⟩ : Y) ++ aK).size ≤ 9223372036854775807) = true := Kr gX
  try have aWQ : (9223372036854775807 < (dX ++ aG).size + ((⟨#[35]⟩ : Y) ++ aK).size) = False := eq_false (Nat.not_lt.2 gX)
  obtain rfl := Kv H
  go_enter Tryz.func26, Tryz.ntmps26
  try go_wp2_with (first | ((with_reducible refine Ybd (N := 1) rfl ?_); refine Yzc ?hg (N := 1) ?hd (cs := #[.string aE, .string aJ, .int .i64 aN, .string aG, .string aM, .string aK, .bool false, .bool true]) (t := 25) ?hr ?_; (case hd => rfl); (case hg => rfl); (case hr => first | (go_simp; done) | (go_simp; rfl)); intro bH hg w21 hbox hb; have aH := Ya.mk (Yt Za hb); have aR := Ya.mk (hbox); have bK := Ya.mk ((by rw [hg]; exact (Yka Za) : w.heap.size ≤ bH)); have dM := Ya.mk ((by rw [hg]; exact (Yka Za) : w.heap.size ≤ bH)); clear HB; have HB := aH; have aI := aR; have aAJ := bK; have wA := dM; clear aH aR bK dM; clear hb hbox hg))
  have aH := Ya.mk (Yp aI.out)
  have aR := Ya.mk (Yc HB.out)
  clear aI
  clear HB
  have aI := aH
  have HB := aR
  clear aH aR
  refine Ykg (n := 6) (S := fun w' => w'.cell? ⟨bH, 0, none⟩ = some (.string aE) ∧ w'.cell? ⟨bH, 1, none⟩ = some (.string aJ) ∧ w'.cell? ⟨bH, 2, none⟩ = some (.int .i64 aN) ∧ w'.cell? ⟨bH, 3, none⟩ = some (.string aG) ∧ w'.cell? ⟨bH, 4, none⟩ = some (.string aM) ∧ w'.cell? ⟨bH, 5, none⟩ = some (.string aK) ∧ w'.cell? ⟨bH, 6, none⟩ = some (.bool false) ∧ w'.cell? ⟨bH, 7, none⟩ = some (.bool true)) (ds := []) #[false, false, false, false, false, false] Zi rfl rfl ⟨(Yf aI.out 0).trans rfl, (Yf aI.out 1).trans rfl, (Yf aI.out 2).trans rfl, (Yf aI.out 3).trans rfl, (Yf aI.out 4).trans rfl, (Yf aI.out 5).trans rfl, (Yf aI.out 6).trans rfl, (Yf aI.out 7).trans rfl⟩ (fun hHeld => ?_)
  generalize w21.drew = w22 at aI HB hHeld ⊢
  refine Yya (i := 2) (N := some 6) (v := ?_) (a' := ?_) #[false, false, true, false, false, false] rfl rfl Zi (fun _ _ _ h => h) (Or.inl ⟨Zga, ?_⟩) ?_ ?_
  rotate_left
  ·exact Zyb
  rotate_left
  ·exact Zzb
  refine Ynf (i := 0) (N := some 4) (v := ?_) (a' := ?_) #[true, false, true, false, false, false] rfl rfl Zi (fun _ _ _ h => h) (Or.inl ⟨Zga, ?_⟩) hHeld ?_ ?_
  rotate_left
  ·exact Zac
  rotate_left
  ·exact Zzb
  refine Ynf (i := 3) (N := some 7) (v := ?_) (a' := ?_) #[true, false, true, true, false, false] rfl rfl Zi (fun _ _ _ h => h) (Or.inl ⟨Zga, ?_⟩) hHeld ?_ ?_
  rotate_left
  ·exact Zac
  rotate_left
  ·exact Zzb
  refine one_ (i := 1) (N := some 5) #[true, true, true, true, false, false] rfl rfl Zi Zca (fun K hK => ?_)
  refine Yvh Tryz.func29 Zi rfl #[.agg #[.string aE, .string aJ, .int .i64 aN, .string aG, .string aM, .string aK, .bool false, .bool true]] Zga rfl rfl Zb ?_
  with_reducible refine (Yef.calls k aE aJ aN aG aM aK false true dX _ ?z1 A2.out).mono ?_
  (case z1 => exact Ki)
  rintro e oY ⟨rfl, hb⟩
  refine ⟨_, rfl, ?_⟩
  have aH := Ya.mk (Ykb (g := bH) (o := .cells #[.string aE, .string aJ, .int .i64 aN, .string aG, .string aM, .string aK, .bool false, .bool true] 25 (0, 0)) Zqa hb)
  have aR := Ya.mk (Yt Zs hb)
  clear aI
  clear HB
  have aI := aH
  have HB := aR
  clear aH aR
  (try clear hb)
  (try clear bU)
  (try clear hk)
  (try clear hi)
  refine hK.out _ _ ⟨(Yf aI.out 0).trans rfl, (Yf aI.out 1).trans rfl, (Yf aI.out 2).trans rfl, (Yf aI.out 3).trans rfl, (Yf aI.out 4).trans rfl, (Yf aI.out 5).trans rfl, (Yf aI.out 6).trans rfl, (Yf aI.out 7).trans rfl⟩ (fun hHeld => ?_)
  clear hK K
  refine Yeg (a' := ?_) ?_ ?_
  rotate_left
  ·show Act.put _ (some 5) _ = _
   simp only [Act.put, Kca, Yaa, Yda]
   rfl
  refine Yya (i := 4) (N := some 8) (v := ?_) (a' := ?_) #[true, true, true, true, true, false] rfl rfl Zi (fun _ _ _ h => h) (Or.inl ⟨Zga, ?_⟩) ?_ ?_
  rotate_left
  ·exact Zyb
  rotate_left
  ·exact Zzb
  refine Yya (i := 5) (N := some 3) (v := ?_) (a' := ?_) #[true, true, true, true, true, true] rfl rfl Zi (fun _ _ _ h => h) (Or.inl ⟨Zga, ?_⟩) ?_ ?_
  rotate_left
  ·exact Zyb
  rotate_left
  ·exact Zzb
  refine Yoh Zi ?_
  obtain ⟨aCZ, aDa, aDb, aDc, aDd, aDe, aDf, aDg, aDh, aDi, aDj, aDk, aDl, aDm, aDn, aDo⟩ := Ka aI.out
  try go_wp2
  go_ret
  exact ⟨Zl, Zs⟩
 subst c4
 rw [if_pos rfl] at H
 by_cases c5 : 1 + aM.size ≤ 9223372036854775807
 rotate_left
 ·rw [if_neg c5] at H
  exact absurd H Zv
 rw [if_pos c5] at H
 have dI := Kt c5
 have qP : decide (1 + aM.size ≤ 9223372036854775807) = true := Kr c5
 try have aVk : (9223372036854775807 < 1 + aM.size) = False := eq_false (Nat.not_lt.2 c5)
 by_cases c6 : (dX ++ aG).size + ((⟨#[63]⟩ : Y) ++ aM).size ≤ 9223372036854775807
 rotate_left
 ·rw [if_neg c6] at H
  exact absurd H Zv
 rw [if_pos c6] at H
 have dN := Kt c6
 have jB : decide ((dX ++ aG).size + ((⟨#[63]⟩ : Y) ++ aM).size ≤ 9223372036854775807) = true := Kr c6
 try have aXW : (9223372036854775807 < (dX ++ aG).size + ((⟨#[63]⟩ : Y) ++ aM).size) = False := eq_false (Nat.not_lt.2 c6)
 by_cases c7 : aV = true
 rotate_left
 ·replace c7 := Kx c7
  subst c7
  rw [if_neg (show ¬ (false = true) by decide)] at H
  obtain rfl := Kv H
  go_enter Tryz.func26, Tryz.ntmps26
  try go_wp2_with (first | ((with_reducible refine Ybd (N := 1) rfl ?_); refine Yzc ?hg (N := 1) ?hd (cs := #[.string aE, .string aJ, .int .i64 aN, .string aG, .string aM, .string aK, .bool true, .bool false]) (t := 25) ?hr ?_; (case hd => rfl); (case hg => rfl); (case hr => first | (go_simp; done) | (go_simp; rfl)); intro bH hg w14 hbox hb; have aH := Ya.mk (Yt Za hb); have aR := Ya.mk (hbox); have bK := Ya.mk ((by rw [hg]; exact (Yka Za) : w.heap.size ≤ bH)); have dM := Ya.mk ((by rw [hg]; exact (Yka Za) : w.heap.size ≤ bH)); clear HB; have HB := aH; have aI := aR; have aAJ := bK; have wA := dM; clear aH aR bK dM; clear hb hbox hg))
  have aH := Ya.mk (Yp aI.out)
  have aR := Ya.mk (Yc HB.out)
  clear aI
  clear HB
  have aI := aH
  have HB := aR
  clear aH aR
  refine Ykg (n := 6) (S := fun w' => w'.cell? ⟨bH, 0, none⟩ = some (.string aE) ∧ w'.cell? ⟨bH, 1, none⟩ = some (.string aJ) ∧ w'.cell? ⟨bH, 2, none⟩ = some (.int .i64 aN) ∧ w'.cell? ⟨bH, 3, none⟩ = some (.string aG) ∧ w'.cell? ⟨bH, 4, none⟩ = some (.string aM) ∧ w'.cell? ⟨bH, 5, none⟩ = some (.string aK) ∧ w'.cell? ⟨bH, 6, none⟩ = some (.bool true) ∧ w'.cell? ⟨bH, 7, none⟩ = some (.bool false)) (ds := []) #[false, false, false, false, false, false] Zi rfl rfl ⟨(Yf aI.out 0).trans rfl, (Yf aI.out 1).trans rfl, (Yf aI.out 2).trans rfl, (Yf aI.out 3).trans rfl, (Yf aI.out 4).trans rfl, (Yf aI.out 5).trans rfl, (Yf aI.out 6).trans rfl, (Yf aI.out 7).trans rfl⟩ (fun hHeld => ?_)
  generalize w14.drew = w15 at aI HB hHeld ⊢
  refine Yya (i := 2) (N := some 6) (v := ?_) (a' := ?_) #[false, false, true, false, false, false] rfl rfl Zi (fun _ _ _ h => h) (Or.inl ⟨Zga, ?_⟩) ?_ ?_
  rotate_left
  ·exact Zyb
  rotate_left
  ·exact Zzb
  refine Ynf (i := 0) (N := some 4) (v := ?_) (a' := ?_) #[true, false, true, false, false, false] rfl rfl Zi (fun _ _ _ h => h) (Or.inl ⟨Zga, ?_⟩) hHeld ?_ ?_
  rotate_left
  ·exact Zac
  rotate_left
  ·exact Zzb
  refine Ynf (i := 3) (N := some 7) (v := ?_) (a' := ?_) #[true, false, true, true, false, false] rfl rfl Zi (fun _ _ _ h => h) (Or.inl ⟨Zga, ?_⟩) hHeld ?_ ?_
  rotate_left
  ·exact Zac
  rotate_left
  ·exact Zzb
  refine one_ (i := 1) (N := some 5) #[true, true, true, true, false, false] rfl rfl Zi Zca (fun K hK => ?_)
  refine Yvh Tryz.func29 Zi rfl #[.agg #[.string aE, .string aJ, .int .i64 aN, .string aG, .string aM, .string aK, .bool true, .bool false]] Zga rfl rfl Zb ?_
  with_reducible refine (Yef.calls k aE aJ aN aG aM aK true false dX _ ?z1 A2.out).mono ?_
  (case z1 => exact Ki)
  rintro e w16 ⟨rfl, hb⟩
  refine ⟨_, rfl, ?_⟩
  have aH := Ya.mk (Ykb (g := bH) (o := .cells #[.string aE, .string aJ, .int .i64 aN, .string aG, .string aM, .string aK, .bool true, .bool false] 25 (0, 0)) Zqa hb)
  have aR := Ya.mk (Yt Zs hb)
  clear aI
  clear HB
  have aI := aH
  have HB := aR
  clear aH aR
  (try clear hb)
  (try clear bU)
  (try clear hk)
  (try clear hi)
  refine hK.out _ _ ⟨(Yf aI.out 0).trans rfl, (Yf aI.out 1).trans rfl, (Yf aI.out 2).trans rfl, (Yf aI.out 3).trans rfl, (Yf aI.out 4).trans rfl, (Yf aI.out 5).trans rfl, (Yf aI.out 6).trans rfl, (Yf aI.out 7).trans rfl⟩ (fun hHeld => ?_)
  clear hK K
  refine Yeg (a' := ?_) ?_ ?_
  rotate_left
  ·show Act.put _ (some 5) _ = _
   simp only [Act.put, Kca, Yaa, Yda]
   rfl
  refine Yya (i := 4) (N := some 8) (v := ?_) (a' := ?_) #[true, true, true, true, true, false] rfl rfl Zi (fun _ _ _ h => h) (Or.inl ⟨Zga, ?_⟩) ?_ ?_
  rotate_left
  ·exact Zyb
  rotate_left
  ·exact Zzb
  refine Yya (i := 5) (N := some 3) (v := ?_) (a' := ?_) #[true, true, true, true, true, true] rfl rfl Zi (fun _ _ _ h => h) (Or.inl ⟨Zga, ?_⟩) ?_ ?_
  rotate_left
  ·exact Zyb
  rotate_left
  ·exact Zzb
  refine Yoh Zi ?_
  obtain ⟨aLE, aLF, aLG, aLH, aLI, aLJ, aLK, aLL, aLM, aLN, aLO, aLP, aLQ, aLR, aLS, aLT⟩ := Ka aI.out
  try go_wp2
  go_ret
  exact ⟨Zl, Zs⟩
 subst c7
 rw [if_pos rfl] at H
 by_cases c8 : 1 + aK.size ≤ 9223372036854775807
 rotate_left
 ·rw [if_neg c8] at H
  exact absurd H Zv
 rw [if_pos c8] at H
 have gS := Kt c8
 have jA : decide (1 + aK.size ≤ 9223372036854775807) = true := Kr c8
 try have aVj : (9223372036854775807 < 1 + aK.size) = False := eq_false (Nat.not_lt.2 c8)
 by_cases c9 : ((dX ++ aG) ++ ((⟨#[63]⟩ : Y) ++ aM)).size + ((⟨#[35]⟩ : Y) ++ aK).size ≤ 9223372036854775807
 rotate_left
 ·rw [if_neg c9] at H
  exact absurd H Zv
 rw [if_pos c9] at H
 have iC := Kt c9
 have lT : decide (((dX ++ aG) ++ ((⟨#[63]⟩ : Y) ++ aM)).size + ((⟨#[35]⟩ : Y) ++ aK).size ≤ 9223372036854775807) = true := Kr c9
 try have zO : (9223372036854775807 < ((dX ++ aG) ++ ((⟨#[63]⟩ : Y) ++ aM)).size + ((⟨#[35]⟩ : Y) ++ aK).size) = False := eq_false (Nat.not_lt.2 c9)
 obtain rfl := Kv H
 go_enter Tryz.func26, Tryz.ntmps26
 try go_wp2_with (first | ((with_reducible refine Ybd (N := 1) rfl ?_); refine Yzc ?hg (N := 1) ?hd (cs := #[.string aE, .string aJ, .int .i64 aN, .string aG, .string aM, .string aK, .bool true, .bool true]) (t := 25) ?hr ?_; (case hd => rfl); (case hg => rfl); (case hr => first | (go_simp; done) | (go_simp; rfl)); intro bH hg pN hbox hb; have aH := Ya.mk (Yt Za hb); have aR := Ya.mk (hbox); have bK := Ya.mk ((by rw [hg]; exact (Yka Za) : w.heap.size ≤ bH)); have dM := Ya.mk ((by rw [hg]; exact (Yka Za) : w.heap.size ≤ bH)); clear HB; have HB := aH; have aI := aR; have aAJ := bK; have wA := dM; clear aH aR bK dM; clear hb hbox hg))
 have aH := Ya.mk (Yp aI.out)
 have aR := Ya.mk (Yc HB.out)
 clear aI
 clear HB
 have aI := aH
 have HB := aR
 clear aH aR
 refine Ykg (n := 6) (S := fun w' => w'.cell? ⟨bH, 0, none⟩ = some (.string aE) ∧ w'.cell? ⟨bH, 1, none⟩ = some (.string aJ) ∧ w'.cell? ⟨bH, 2, none⟩ = some (.int .i64 aN) ∧ w'.cell? ⟨bH, 3, none⟩ = some (.string aG) ∧ w'.cell? ⟨bH, 4, none⟩ = some (.string aM) ∧ w'.cell? ⟨bH, 5, none⟩ = some (.string aK) ∧ w'.cell? ⟨bH, 6, none⟩ = some (.bool true) ∧ w'.cell? ⟨bH, 7, none⟩ = some (.bool true)) (ds := []) #[false, false, false, false, false, false] Zi rfl rfl ⟨(Yf aI.out 0).trans rfl, (Yf aI.out 1).trans rfl, (Yf aI.out 2).trans rfl, (Yf aI.out 3).trans rfl, (Yf aI.out 4).trans rfl, (Yf aI.out 5).trans rfl, (Yf aI.out 6).trans rfl, (Yf aI.out 7).trans rfl⟩ (fun hHeld => ?_)
 generalize pN.drew = w11 at aI HB hHeld ⊢
 refine Yya (i := 2) (N := some 6) (v := ?_) (a' := ?_) #[false, false, true, false, false, false] rfl rfl Zi (fun _ _ _ h => h) (Or.inl ⟨Zga, ?_⟩) ?_ ?_
 rotate_left
 ·exact Zyb
 rotate_left
 ·exact Zzb
 refine Ynf (i := 0) (N := some 4) (v := ?_) (a' := ?_) #[true, false, true, false, false, false] rfl rfl Zi (fun _ _ _ h => h) (Or.inl ⟨Zga, ?_⟩) hHeld ?_ ?_
 rotate_left
 ·exact Zac
 rotate_left
 ·exact Zzb
 refine Ynf (i := 3) (N := some 7) (v := ?_) (a' := ?_) #[true, false, true, true, false, false] rfl rfl Zi (fun _ _ _ h => h) (Or.inl ⟨Zga, ?_⟩) hHeld ?_ ?_
 rotate_left
 ·exact Zac
 rotate_left
 ·exact Zzb
 refine one_ (i := 1) (N := some 5) #[true, true, true, true, false, false] rfl rfl Zi Zca (fun K hK => ?_)
 refine Yvh Tryz.func29 Zi rfl #[.agg #[.string aE, .string aJ, .int .i64 aN, .string aG, .string aM, .string aK, .bool true, .bool true]] Zga rfl rfl Zb ?_
 with_reducible refine (Yef.calls k aE aJ aN aG aM aK true true dX _ ?z1 A2.out).mono ?_
 (case z1 => exact Ki)
 rintro e uS ⟨rfl, hb⟩
 refine ⟨_, rfl, ?_⟩
 have aH := Ya.mk (Ykb (g := bH) (o := .cells #[.string aE, .string aJ, .int .i64 aN, .string aG, .string aM, .string aK, .bool true, .bool true] 25 (0, 0)) Zqa hb)
 have aR := Ya.mk (Yt Zs hb)
 clear aI
 clear HB
 have aI := aH
 have HB := aR
 clear aH aR
 (try clear hb)
 (try clear bU)
 (try clear hk)
 (try clear hi)
 refine hK.out _ _ ⟨(Yf aI.out 0).trans rfl, (Yf aI.out 1).trans rfl, (Yf aI.out 2).trans rfl, (Yf aI.out 3).trans rfl, (Yf aI.out 4).trans rfl, (Yf aI.out 5).trans rfl, (Yf aI.out 6).trans rfl, (Yf aI.out 7).trans rfl⟩ (fun hHeld => ?_)
 clear hK K
 refine Yeg (a' := ?_) ?_ ?_
 rotate_left
 ·show Act.put _ (some 5) _ = _
  simp only [Act.put, Kca, Yaa, Yda]
  rfl
 refine Yya (i := 4) (N := some 8) (v := ?_) (a' := ?_) #[true, true, true, true, true, false] rfl rfl Zi (fun _ _ _ h => h) (Or.inl ⟨Zga, ?_⟩) ?_ ?_
 rotate_left
 ·exact Zyb
 rotate_left
 ·exact Zzb
 refine Yya (i := 5) (N := some 3) (v := ?_) (a' := ?_) #[true, true, true, true, true, true] rfl rfl Zi (fun _ _ _ h => h) (Or.inl ⟨Zga, ?_⟩) ?_ ?_
 rotate_left
 ·exact Zyb
 rotate_left
 ·exact Zzb
 refine Yoh Zi ?_
 obtain ⟨aLU, aLV, aLW, aLX, aLY, aLZ, aMa, aMb, aMc, aMd, aMe, aMf, aMg, aMh, aMi, aMj⟩ := Ka aI.out
 try go_wp2
 go_ret
 exact ⟨Zl, Zs⟩
def Yxg.f (a0 : Int) : Option (Int) := if ((a0 - 65) % 256) < 26 then (some (Go.bits .or .u8 a0 32)) else (some a0)
theorem Yxg.calls (a0 r : Int) (w : World) (hE : EnvOk w) (h : Yxg.f a0 = some r) :
  Calls Tryz.prog 91 #[.int .u8 a0] w fun e w' => e = .returned (.int .u8 r) ∧ Drawn0 w w' := by
 have HE := Ya.mk hE
 clear hE
 have H : (if ((a0 - 65) % 256) < 26 then (some (Go.bits .or .u8 a0 32)) else (some a0)) = some r := h
 clear h
 by_cases c2 : ((a0 - 65) % 256) < 26
 ·rw [if_pos c2] at H
  have eS : decide (((a0 - 65) % 256) < 26) = true := Kr c2
  clear c2
  obtain rfl := Kv H
  go_enter Tryz.func91, Tryz.ntmps91
  go_wp2
  go_ret
  exact ⟨Zf, Zh⟩
 rw [if_neg c2] at H
 have eS : decide (((a0 - 65) % 256) < 26) = false := Ks c2
 clear c2
 obtain rfl := Kv H
 go_enter Tryz.func91, Tryz.ntmps91
 go_wp2
 go_ret
 exact ⟨Zf, Zh⟩
def Ywa.f (a0 : Int) : Option (Bool) := some (decide ((((Go.bits .or .u8 a0 32) - 97) % 256) < 26))
theorem Ywa.calls (a0 : Int) (r : Bool) (w : World) (hE : EnvOk w) (h : Ywa.f a0 = some r) :
  Calls Tryz.prog 77 #[.int .u8 a0] w fun e w' => e = .returned (.bool r) ∧ Drawn0 w w' := by
 have HE := Ya.mk hE
 clear hE
 have H : (some (decide ((((Go.bits .or .u8 a0 32) - 97) % 256) < 26))) = some r := h
 clear h
 obtain rfl := Kv H
 go_enter Tryz.func77, Tryz.ntmps77
 go_wp2
 go_ret
 exact ⟨Zf, Zh⟩
def Yua.f (a0 : Int) : Option (Bool) := some (decide (((a0 - 48) % 256) < 10))
theorem Yua.calls (a0 : Int) (r : Bool) (w : World) (hE : EnvOk w) (h : Yua.f a0 = some r) :
  Calls Tryz.prog 78 #[.int .u8 a0] w fun e w' => e = .returned (.bool r) ∧ Drawn0 w w' := by
 have HE := Ya.mk hE
 clear hE
 have H : (some (decide (((a0 - 48) % 256) < 10))) = some r := h
 clear h
 obtain rfl := Kv H
 go_enter Tryz.func78, Tryz.ntmps78
 go_wp2
 go_ret
 exact ⟨Zf, Zh⟩
def Ygg.f (a0 : Int) : Option (Int × Bool) := (Yxg.f a0).bind fun gY => ((Yua.f gY).bind fun aAK => (if aAK = true then (some ((gY - 48) % 256, true)) else (if ((gY - 97) % 256) < 6 then (some (((gY - 97) % 256) + 10, true)) else (some (0, false)))))
theorem Ygg.calls (a0 r1 : Int) (r2 : Bool) (w : World) (hE : EnvOk w) (h : Ygg.f a0 = some (r1, r2)) :
  Calls Tryz.prog 121 #[.int .u8 a0] w fun e w' => e = .returned (.tuple #[.int .u32 r1, .bool r2]) ∧ Drawn0 w w' := by
 have HE := Ya.mk hE
 clear hE
 have H : ((Yxg.f a0).bind fun gY => ((Yua.f gY).bind fun aAK => (if aAK = true then (some ((gY - 48) % 256, true)) else (if ((gY - 97) % 256) < 6 then (some (((gY - 97) % 256) + 10, true)) else (some (0, false)))))) = some (r1, r2) := h
 clear h
 obtain ⟨gY, dW, H⟩ := Ku H
 try dsimp -simprocs only at H
 have A2 := Ya.mk dW
 clear dW
 obtain ⟨aAK, jC, H⟩ := Ku H
 try dsimp -simprocs only at H
 have A3 := Ya.mk jC
 clear jC
 by_cases c4 : aAK = true
 ·subst c4
  rw [if_pos rfl] at H
  simp only [Kda, Kea] at H
  obtain ⟨rfl, rfl⟩ := H
  go_enter Tryz.func121, Tryz.ntmps121
  go_wp2_with (first | ((with_reducible refine Yh (f := 91) rfl ?_); refine Yca (some 5) rfl rfl Tryz.func91 Zi rfl #[.int .u8 a0] rfl Zb ?_; (with_reducible refine (Yxg.calls a0 gY _ ?z1 A2.out).mono ?_); (case z1 => exact Kj); rintro e w' ⟨rfl, ⟨nd, rfl⟩⟩; refine ⟨_, rfl, ?_⟩) | ((with_reducible refine Yh (f := 78) rfl ?_); refine Yca (some 8) rfl rfl Tryz.func78 Zi rfl #[.int .u8 gY] rfl Zb ?_; (with_reducible refine (Yua.calls gY true _ ?z1 A3.out).mono ?_); (case z1 => exact Kj); rintro e w' ⟨rfl, ⟨nd, rfl⟩⟩; refine ⟨_, rfl, ?_⟩))
  go_ret2
  exact ⟨Zf, Zh⟩
 replace c4 := Kx c4
 subst c4
 rw [if_neg (show ¬ (false = true) by decide)] at H
 by_cases c5 : ((gY - 97) % 256) < 6
 ·rw [if_pos c5] at H
  have dI : decide (((gY - 97) % 256) < 6) = true := Kr c5
  clear c5
  simp only [Kda, Kea] at H
  obtain ⟨rfl, rfl⟩ := H
  go_enter Tryz.func121, Tryz.ntmps121
  go_wp2_with (first | ((with_reducible refine Yh (f := 91) rfl ?_); refine Yca (some 5) rfl rfl Tryz.func91 Zi rfl #[.int .u8 a0] rfl Zb ?_; (with_reducible refine (Yxg.calls a0 gY _ ?z1 A2.out).mono ?_); (case z1 => exact Kj); rintro e w' ⟨rfl, ⟨nd, rfl⟩⟩; refine ⟨_, rfl, ?_⟩) | ((with_reducible refine Yh (f := 78) rfl ?_); refine Yca (some 8) rfl rfl Tryz.func78 Zi rfl #[.int .u8 gY] rfl Zb ?_; (with_reducible refine (Yua.calls gY false _ ?z1 A3.out).mono ?_); (case z1 => exact Kj); rintro e w' ⟨rfl, ⟨nd, rfl⟩⟩; refine ⟨_, rfl, ?_⟩))
  go_ret2
  exact ⟨Zf, Zh⟩
 rw [if_neg c5] at H
 have dI : decide (((gY - 97) % 256) < 6) = false := Ks c5
 clear c5
 simp only [Kda, Kea] at H
 obtain ⟨rfl, rfl⟩ := H
 go_enter Tryz.func121, Tryz.ntmps121
 go_wp2_with (first | ((with_reducible refine Yh (f := 91) rfl ?_); refine Yca (some 5) rfl rfl Tryz.func91 Zi rfl #[.int .u8 a0] rfl Zb ?_; (with_reducible refine (Yxg.calls a0 gY _ ?z1 A2.out).mono ?_); (case z1 => exact Kj); rintro e w' ⟨rfl, ⟨nd, rfl⟩⟩; refine ⟨_, rfl, ?_⟩) | ((with_reducible refine Yh (f := 78) rfl ?_); refine Yca (some 8) rfl rfl Tryz.func78 Zi rfl #[.int .u8 gY] rfl Zb ?_; (with_reducible refine (Yua.calls gY false _ ?z1 A3.out).mono ?_); (case z1 => exact Kj); rintro e w' ⟨rfl, ⟨nd, rfl⟩⟩; refine ⟨_, rfl, ?_⟩))
 go_ret2
 exact ⟨Zf, Zh⟩
def Yed.l0 : Nat → Y → Int → Bool → Int → Int → Option (Int × Int)
 | 0, _, _, _, _, _ => none
 | k + 1, x0, x4, x5, x12, x13 => if x13 < x12 then (if 0 ≤ x13 then (if x13 < (x0.size : Int) then ((Ygg.f (bt x0 x13)).bind fun aAL => (if aAL.2 = true then (if x5 = true then (Yed.l0 k x0 (Go.bits .or .u32 ((x4 * 16) % 4294967296) aAL.1) true x12 (wrap64 (x13 + 1))) else (Yed.l0 k x0 (Go.bits .or .u32 ((x4 * 16) % 4294967296) aAL.1) ((x4 / 268435456) != 0) x12 (wrap64 (x13 + 1)))) else (some (0, 3)))) else (none)) else (none)) else (if x5 = true then (some (0, 5)) else (some (x4, 0)))
def Yed.f (k : Nat) (a0 : Y) : Option (Int × Int) := if a0.toList = ([] : List UInt8) then (some (0, 3)) else (Yed.l0 k a0 0 false (a0.size : Int) 0)
theorem Yed.calls (k : Nat) (a0 : Y) (r1 r2 : Int) (w : World) (hE : EnvOk w) (h : Yed.f k a0 = some (r1, r2)) :
  Calls Tryz.prog 92 #[.string a0] w fun e w' => e = .returned (.tuple #[.int .u32 r1, .int .i64 r2]) ∧ Drawn0 w w' := by
 have HE := Ya.mk hE
 clear hE
 have H : (if a0.toList = ([] : List UInt8) then (some (0, 3)) else (Yed.l0 k a0 0 false (a0.size : Int) 0)) = some (r1, r2) := h
 clear h
 by_cases c2 : a0.toList = ([] : List UInt8)
 ·rw [if_pos c2] at H
  have eS : (a0.toList == ([] : List UInt8)) = true := Kba c2
  have kC : (a0.toList != ([] : List UInt8)) = false := Ky c2
  clear c2
  simp only [Kda, Kea] at H
  obtain ⟨rfl, rfl⟩ := H
  go_enter Tryz.func92, Tryz.ntmps92
  go_wp2
  go_ret2
  exact ⟨Zf, Zh⟩
 rw [if_neg c2] at H
 have eS : (a0.toList == ([] : List UInt8)) = false := Kz c2
 have kC : (a0.toList != ([] : List UInt8)) = true := Kaa c2
 have H' := Ya.mk H
 clear H
 go_enter Tryz.func92, Tryz.ntmps92
 go_wp2
 go_loopg [4, 5, 13] k (fun kq v4 v5 v13 w' => ∃ (aA : Int) (bA : Bool) (dC : Int), v4 = .int .u32 aA ∧ v5 = .bool bA ∧ v13 = .int .i64 dC ∧ Ya (Yed.l0 kq a0 aA bA (a0.size : Int) dC = some (r1, r2)) ∧ Ya (kq ≤ k) ∧ Drawn0 w w')
 case atStart => exact ⟨(0), (false), (0), Zf, Zf, Zf, H', ⟨Kw _⟩, Zh⟩
 case round =>
  clear H'
  try clear c2
  try clear eS
  try clear kC
  try clear p2
  obtain ⟨aA, bA, dC, rfl, rfl, rfl, HA, dB, ⟨m1, rfl⟩⟩ := hrel
  cases gk with
  | zero => exact absurd HA.out (by simp [Yed.l0])
  | succ k1 =>
   have H := HA.out
   clear HA
   simp only [Yed.l0] at H
   by_cases c3 : dC < (a0.size : Int)
   rotate_left
   ·rw [if_neg c3] at H
    have cC : decide (dC < (a0.size : Int)) = false := Ks c3
    clear c3
    by_cases dP : bA = true
    ·subst dP
     rw [if_pos rfl] at H
     simp only [Kda, Kea] at H
     obtain ⟨rfl, rfl⟩ := H
     go_wp2
     go_ret2
     exact ⟨Zf, Zh⟩
    replace dP := Kx dP
    subst dP
    rw [if_neg (show ¬ (false = true) by decide)] at H
    simp only [Kda, Kea] at H
    obtain ⟨rfl, rfl⟩ := H
    go_wp2
    go_ret2
    exact ⟨Zf, Zh⟩
   rw [if_pos c3] at H
   have cC : decide (dC < (a0.size : Int)) = true := Kr c3
   clear c3
   by_cases c4 : 0 ≤ dC
   rotate_left
   ·rw [if_neg c4] at H
    exact absurd H Zv
   rw [if_pos c4] at H
   have bX : decide (0 ≤ dC) = true := Kr c4
   clear c4
   by_cases c5 : dC < (a0.size : Int)
   rotate_left
   ·rw [if_neg c5] at H
    exact absurd H Zv
   rw [if_pos c5] at H
   have dI : decide (dC < (a0.size : Int)) = true := Kr c5
   clear c5
   obtain ⟨⟨aAM, t124⟩, oA, H⟩ := Ku H
   try dsimp -simprocs only at H
   have A7 := Ya.mk oA
   clear oA
   by_cases c8 : t124 = true
   rotate_left
   ·replace c8 := Kx c8
    subst c8
    rw [if_neg (show ¬ (false = true) by decide)] at H
    simp only [Kda, Kea] at H
    obtain ⟨rfl, rfl⟩ := H
    have p6 : (0 ≤ (dC : Int)) = True := Kp
    have q6 : dC < (a0.size : Int) := Kq Zc
    have hx6 := Ybb a0 dC
    replace q6 := Kt q6
    go_wp2_with (first | ((with_reducible refine Yh (f := 121) rfl ?_); refine Yca (some 20) rfl rfl Tryz.func121 Zi rfl #[.int .u8 (bt a0 dC)] rfl Zb ?_; (with_reducible refine (Ygg.calls (bt a0 dC) aAM false _ ?z1 A7.out).mono ?_); (case z1 => exact Kj); rintro e w' ⟨rfl, ⟨nd, rfl⟩⟩; refine ⟨_, rfl, ?_⟩))
    go_ret2
    exact ⟨Zf, Zh⟩
   subst c8
   rw [if_pos rfl] at H
   by_cases c9 : bA = true
   ·subst c9
    rw [if_pos rfl] at H
    have H' := Ya.mk H
    clear H
    have p6 : (0 ≤ (dC : Int)) = True := Kp
    have q6 : dC < (a0.size : Int) := Kq Zc
    have hx6 := Ybb a0 dC
    replace q6 := Kt q6
    go_wp2_with (first | ((with_reducible refine Yh (f := 121) rfl ?_); refine Yca (some 20) rfl rfl Tryz.func121 Zi rfl #[.int .u8 (bt a0 dC)] rfl Zb ?_; (with_reducible refine (Ygg.calls (bt a0 dC) aAM true _ ?z1 A7.out).mono ?_); (case z1 => exact Kj); rintro e w' ⟨rfl, ⟨nd, rfl⟩⟩; refine ⟨_, rfl, ?_⟩))
    go_roundg k1
    case measure => have := dB.out; omega
    case rel => exact ⟨(Go.bits .or .u32 ((aA * 16) % 4294967296) aAM), (true), (wrap64 (dC + 1)), Zf, Zf, Zf, H', ⟨Zba⟩, Zh⟩
   replace c9 := Kx c9
   subst c9
   rw [if_neg (show ¬ (false = true) by decide)] at H
   have H' := Ya.mk H
   clear H
   have p6 : (0 ≤ (dC : Int)) = True := Kp
   have q6 : dC < (a0.size : Int) := Kq Zc
   have hx6 := Ybb a0 dC
   replace q6 := Kt q6
   go_wp2_with (first | ((with_reducible refine Yh (f := 121) rfl ?_); refine Yca (some 20) rfl rfl Tryz.func121 Zi rfl #[.int .u8 (bt a0 dC)] rfl Zb ?_; (with_reducible refine (Ygg.calls (bt a0 dC) aAM true _ ?z1 A7.out).mono ?_); (case z1 => exact Kj); rintro e w' ⟨rfl, ⟨nd, rfl⟩⟩; refine ⟨_, rfl, ?_⟩))
   go_roundg k1
   case measure => have := dB.out; omega
   case rel => exact ⟨(Go.bits .or .u32 ((aA * 16) % 4294967296) aAM), (((aA / 268435456) != 0)), (wrap64 (dC + 1)), Zf, Zf, Zf, H', ⟨Zba⟩, Zh⟩
end Go.Proofs.YtnmglnglbdpjjaaGreatDoor.X
