import Derived.Test.YtihaeeldgimdiaaGreatDoorIUX4
set_option linter.all false
namespace Go.Proofs.YtihaeeldgimdiaaGreatDoor.X
open Go.RowKit Go.Yw.PrintWords Go.Yw.PrintLast Go.Yw.PrintMore
attribute [local go_sem] Yxd Yvd Yze Yye Ymd Yld Yyd Ywd
set_option maxHeartbeats 8000000
set_option maxRecDepth 100000
def Yff.f (k : Nat) (aM aQ : Y) (aW : Int) (aR aV aX : Y) (bB bD : Bool) : Option (Y) := (Yef.f k aM aQ aW aR aV aX bB bD).bind fun dO => (if dO.size + aR.size ≤ 9223372036854775807 then (if bB = true then (if 1 + aV.size ≤ 9223372036854775807 then (if (dO ++ aR).size + ((⟨#[63]⟩ : Y) ++ aV).size ≤ 9223372036854775807 then (if bD = true then (if 1 + aX.size ≤ 9223372036854775807 then (if ((dO ++ aR) ++ ((⟨#[63]⟩ : Y) ++ aV)).size + ((⟨#[35]⟩ : Y) ++ aX).size ≤ 9223372036854775807 then (some (((dO ++ aR) ++ ((⟨#[63]⟩ : Y) ++ aV)) ++ ((⟨#[35]⟩ : Y) ++ aX))) else (none)) else (none)) else (some ((dO ++ aR) ++ ((⟨#[63]⟩ : Y) ++ aV)))) else (none)) else (none)) else (if bD = true then (if 1 + aX.size ≤ 9223372036854775807 then (if (dO ++ aR).size + ((⟨#[35]⟩ : Y) ++ aX).size ≤ 9223372036854775807 then (some ((dO ++ aR) ++ ((⟨#[35]⟩ : Y) ++ aX))) else (none)) else (none)) else (some (dO ++ aR)))) else (none))
theorem Yff.calls (k : Nat) (aM aQ : Y) (aW : Int) (aR aV aX : Y) (bB bD : Bool) (r : Y) (w : World) (hE : EnvOk w) (h : Yff.f k aM aQ aW aR aV aX bB bD = some r) :
  Calls Tryz.prog 48 #[.agg #[.string aM, .string aQ, .int .i64 aW, .string aR, .string aV, .string aX, .bool bB, .bool bD]] w fun e w' => e = .returned (.string r) ∧ Below w.heap.size w w' := by
 have cV := Tryz.underlying46
 have HE := Ya.mk hE
 clear hE
 have HB := Ya.mk (Below.refl w.heap.size w)
 have H : ((Yef.f k aM aQ aW aR aV aX bB bD).bind fun dO => (if dO.size + aR.size ≤ 9223372036854775807 then (if bB = true then (if 1 + aV.size ≤ 9223372036854775807 then (if (dO ++ aR).size + ((⟨#[63]⟩ : Y) ++ aV).size ≤ 9223372036854775807 then (if bD = true then (if 1 + aX.size ≤ 9223372036854775807 then (if ((dO ++ aR) ++ ((⟨#[63]⟩ : Y) ++ aV)).size + ((⟨#[35]⟩ : Y) ++ aX).size ≤ 9223372036854775807 then (some (((dO ++ aR) ++ ((⟨#[63]⟩ : Y) ++ aV)) ++ ((⟨#[35]⟩ : Y) ++ aX))) else (none)) else (none)) else (some ((dO ++ aR) ++ ((⟨#[63]⟩ : Y) ++ aV)))) else (none)) else (none)) else (if bD = true then (if 1 + aX.size ≤ 9223372036854775807 then (if (dO ++ aR).size + ((⟨#[35]⟩ : Y) ++ aX).size ≤ 9223372036854775807 then (some ((dO ++ aR) ++ ((⟨#[35]⟩ : Y) ++ aX))) else (none)) else (none)) else (some (dO ++ aR)))) else (none))) = some r := h
 clear h
 obtain ⟨dO, dX, H⟩ := Kq H
 try dsimp -simprocs only at H
 have A2 := Ya.mk dX
 clear dX
 by_cases c3 : dO.size + aR.size ≤ 9223372036854775807
 rotate_left
 ·rw [if_neg c3] at H
  exact absurd H Zq
 rw [if_pos c3] at H
 have bV := Kp c3
 have dY : decide (dO.size + aR.size ≤ 9223372036854775807) = true := Kn c3
 try have zH : (9223372036854775807 < dO.size + aR.size) = False := eq_false (Nat.not_lt.2 c3)
 by_cases c4 : bB = true
 rotate_left
 ·replace c4 := Kt c4
  subst c4
  rw [if_neg (show ¬ (false = true) by decide)] at H
  by_cases dR : bD = true
  rotate_left
  ·replace dR := Kt dR
   subst dR
   rw [if_neg (show ¬ (false = true) by decide)] at H
   obtain rfl := Kr H
   go_enter Tryz.func48, Tryz.ntmps48
   try go_wp2_with (first | ((with_reducible refine Ybd (N := 1) rfl ?_); refine Ytd ?hg (N := 1) ?hd (cs := #[.string aM, .string aQ, .int .i64 aW, .string aR, .string aV, .string aX, .bool false, .bool false]) (t := 46) ?hr ?_; (case hd => rfl); (case hg => rfl); (case hr => first | (go_simp; done) | (go_simp; rfl)); intro aZ hg w25 hbox hb; have aJ := Ya.mk (Ys Za hb); have aU := Ya.mk (hbox); have bE := Ya.mk ((by rw [hg]; exact (Yna Za) : w.heap.size ≤ aZ)); have gS := Ya.mk ((by rw [hg]; exact (Yna Za) : w.heap.size ≤ aZ)); clear HB; have HB := aJ; have aH := aU; have aBv := bE; have wX := gS; clear aJ aU bE gS; clear hb hbox hg))
   have aJ := Ya.mk (Yma aH.out)
   have aU := Ya.mk (Yc HB.out)
   clear aH
   clear HB
   have aH := aJ
   have HB := aU
   clear aJ aU
   refine Ydh (n := 6) (S := fun w' => w'.cell? ⟨aZ, 0, none⟩ = some (.string aM) ∧ w'.cell? ⟨aZ, 1, none⟩ = some (.string aQ) ∧ w'.cell? ⟨aZ, 2, none⟩ = some (.int .i64 aW) ∧ w'.cell? ⟨aZ, 3, none⟩ = some (.string aR) ∧ w'.cell? ⟨aZ, 4, none⟩ = some (.string aV) ∧ w'.cell? ⟨aZ, 5, none⟩ = some (.string aX) ∧ w'.cell? ⟨aZ, 6, none⟩ = some (.bool false) ∧ w'.cell? ⟨aZ, 7, none⟩ = some (.bool false)) (ds := []) #[false, false, false, false, false, false] Zi rfl rfl ⟨(Yf aH.out 0).trans rfl, (Yf aH.out 1).trans rfl, (Yf aH.out 2).trans rfl, (Yf aH.out 3).trans rfl, (Yf aH.out 4).trans rfl, (Yf aH.out 5).trans rfl, (Yf aH.out 6).trans rfl, (Yf aH.out 7).trans rfl⟩ (fun hHeld => ?_)
   generalize w25.drew = w26 at aH HB hHeld ⊢
   refine Yjb (i := 2) (N := some 6) (v := ?_) (a' := ?_) #[false, false, true, false, false, false] rfl rfl Zi (fun _ _ _ h => h) (Or.inl ⟨Zda, ?_⟩) ?_ ?_
   rotate_left
   ·exact Zsb
   rotate_left
   ·exact Ztb
   refine Yxf (i := 0) (N := some 4) (v := ?_) (a' := ?_) #[true, false, true, false, false, false] rfl rfl Zi (fun _ _ _ h => h) (Or.inl ⟨Zda, ?_⟩) hHeld ?_ ?_
   rotate_left
   ·exact Zvb
   rotate_left
   ·exact Ztb
   refine Yxf (i := 3) (N := some 7) (v := ?_) (a' := ?_) #[true, false, true, true, false, false] rfl rfl Zi (fun _ _ _ h => h) (Or.inl ⟨Zda, ?_⟩) hHeld ?_ ?_
   rotate_left
   ·exact Zvb
   rotate_left
   ·exact Ztb
   refine one_ (i := 1) (N := some 5) #[true, true, true, true, false, false] rfl rfl Zi Zw (fun K hK => ?_)
   refine Ydi Tryz.func80 Zi rfl #[.agg #[.string aM, .string aQ, .int .i64 aW, .string aR, .string aV, .string aX, .bool false, .bool false]] Zda rfl rfl Zb ?_
   with_reducible refine (Yef.calls k aM aQ aW aR aV aX false false dO _ ?z1 A2.out).mono ?_
   (case z1 => exact Kk)
   rintro e w27 ⟨rfl, hb⟩
   refine ⟨_, rfl, ?_⟩
   have aJ := Ya.mk (Yue (g := aZ) (o := .cells #[.string aM, .string aQ, .int .i64 aW, .string aR, .string aV, .string aX, .bool false, .bool false] 46 (0, 0)) Zga hb)
   have aU := Ya.mk (Ys Zn hb)
   clear aH
   clear HB
   have aH := aJ
   have HB := aU
   clear aJ aU
   (try clear hb)
   (try clear cJ)
   (try clear hk)
   (try clear hi)
   refine hK.out _ _ ⟨(Yf aH.out 0).trans rfl, (Yf aH.out 1).trans rfl, (Yf aH.out 2).trans rfl, (Yf aH.out 3).trans rfl, (Yf aH.out 4).trans rfl, (Yf aH.out 5).trans rfl, (Yf aH.out 6).trans rfl, (Yf aH.out 7).trans rfl⟩ (fun hHeld => ?_)
   clear hK K
   refine Yth (a' := ?_) ?_ ?_
   rotate_left
   ·show Act.put _ (some 5) _ = _
    simp only [Act.put, Ky, Yha, Yka]
    rfl
   refine Yjb (i := 4) (N := some 8) (v := ?_) (a' := ?_) #[true, true, true, true, true, false] rfl rfl Zi (fun _ _ _ h => h) (Or.inl ⟨Zda, ?_⟩) ?_ ?_
   rotate_left
   ·exact Zsb
   rotate_left
   ·exact Ztb
   refine Yjb (i := 5) (N := some 3) (v := ?_) (a' := ?_) #[true, true, true, true, true, true] rfl rfl Zi (fun _ _ _ h => h) (Or.inl ⟨Zda, ?_⟩) ?_ ?_
   rotate_left
   ·exact Zsb
   rotate_left
   ·exact Ztb
   refine Yoi Zi ?_
   obtain ⟨aUP, aUQ, aUR, aUS, aUT, aUU, aUV, aUW, aUX, aUY, aUZ, aVa, aVb, aVc, aVd, aVe⟩ := Ka aH.out
   try go_wp2
   go_ret
   exact ⟨Zk, Zn⟩
  subst dR
  rw [if_pos rfl] at H
  by_cases kE : 1 + aX.size ≤ 9223372036854775807
  rotate_left
  ·rw [if_neg kE] at H
   exact absurd H Zq
  rw [if_pos kE] at H
  have oJ := Kp kE
  have pN : decide (1 + aX.size ≤ 9223372036854775807) = true := Kn kE
  try have aKd : (9223372036854775807 < 1 + aX.size) = False := eq_false (Nat.not_lt.2 kE)
  by_cases jD : (dO ++ aR).size + ((⟨#[35]⟩ : Y) ++ aX).size ≤ 9223372036854775807
  rotate_left
  ·rw [if_neg jD] at H
   exact absurd H Zq
  rw [if_pos jD] at H
  have lG := Kp jD
  have sS : decide ((dO ++ aR).size + ((⟨#[35]⟩ : Y) ++ aX).size ≤ 9223372036854775807) = true := Kn jD
  try have aYW : (9223372036854775807 < (dO ++ aR).size + ((⟨#[35]⟩ : Y) ++ aX).size) = False := eq_false (Nat.not_lt.2 jD)
  obtain rfl := Kr H
  go_enter Tryz.func48, Tryz.ntmps48
  try go_wp2_with (first | ((with_reducible refine Ybd (N := 1) rfl ?_); refine Ytd ?hg (N := 1) ?hd (cs := #[.string aM, .string aQ, .int .i64 aW, .string aR, .string aV, .string aX, .bool false, .bool true]) (t := 46) ?hr ?_; (case hd => rfl); (case hg => rfl); (case hr => first | (go_simp; done) | (go_simp; rfl)); intro aZ hg w21 hbox hb; have aJ := Ya.mk (Ys Za hb); have aU := Ya.mk (hbox); have bE := Ya.mk ((by rw [hg]; exact (Yna Za) : w.heap.size ≤ aZ)); have gS := Ya.mk ((by rw [hg]; exact (Yna Za) : w.heap.size ≤ aZ)); clear HB; have HB := aJ; have aH := aU; have aBv := bE; have wX := gS; clear aJ aU bE gS; clear hb hbox hg))
  have aJ := Ya.mk (Yma aH.out)
  have aU := Ya.mk (Yc HB.out)
  clear aH
  clear HB
  have aH := aJ
  have HB := aU
  clear aJ aU
  refine Ydh (n := 6) (S := fun w' => w'.cell? ⟨aZ, 0, none⟩ = some (.string aM) ∧ w'.cell? ⟨aZ, 1, none⟩ = some (.string aQ) ∧ w'.cell? ⟨aZ, 2, none⟩ = some (.int .i64 aW) ∧ w'.cell? ⟨aZ, 3, none⟩ = some (.string aR) ∧ w'.cell? ⟨aZ, 4, none⟩ = some (.string aV) ∧ w'.cell? ⟨aZ, 5, none⟩ = some (.string aX) ∧ w'.cell? ⟨aZ, 6, none⟩ = some (.bool false) ∧ w'.cell? ⟨aZ, 7, none⟩ = some (.bool true)) (ds := []) #[false, false, false, false, false, false] Zi rfl rfl ⟨(Yf aH.out 0).trans rfl, (Yf aH.out 1).trans rfl, (Yf aH.out 2).trans rfl, (Yf aH.out 3).trans rfl, (Yf aH.out 4).trans rfl, (Yf aH.out 5).trans rfl, (Yf aH.out 6).trans rfl, (Yf aH.out 7).trans rfl⟩ (fun hHeld => ?_)
  generalize w21.drew = w22 at aH HB hHeld ⊢
  refine Yjb (i := 2) (N := some 6) (v := ?_) (a' := ?_) #[false, false, true, false, false, false] rfl rfl Zi (fun _ _ _ h => h) (Or.inl ⟨Zda, ?_⟩) ?_ ?_
  rotate_left
  ·exact Zsb
  rotate_left
  ·exact Ztb
  refine Yxf (i := 0) (N := some 4) (v := ?_) (a' := ?_) #[true, false, true, false, false, false] rfl rfl Zi (fun _ _ _ h => h) (Or.inl ⟨Zda, ?_⟩) hHeld ?_ ?_
  rotate_left
  ·exact Zvb
  rotate_left
  ·exact Ztb
  refine Yxf (i := 3) (N := some 7) (v := ?_) (a' := ?_) #[true, false, true, true, false, false] rfl rfl Zi (fun _ _ _ h => h) (Or.inl ⟨Zda, ?_⟩) hHeld ?_ ?_
  rotate_left
  ·exact Zvb
  rotate_left
  ·exact Ztb
  refine one_ (i := 1) (N := some 5) #[true, true, true, true, false, false] rfl rfl Zi Zw (fun K hK => ?_)
  refine Ydi Tryz.func80 Zi rfl #[.agg #[.string aM, .string aQ, .int .i64 aW, .string aR, .string aV, .string aX, .bool false, .bool true]] Zda rfl rfl Zb ?_
  with_reducible refine (Yef.calls k aM aQ aW aR aV aX false true dO _ ?z1 A2.out).mono ?_
  (case z1 => exact Kk)
  rintro e oS ⟨rfl, hb⟩
  refine ⟨_, rfl, ?_⟩
  have aJ := Ya.mk (Yue (g := aZ) (o := .cells #[.string aM, .string aQ, .int .i64 aW, .string aR, .string aV, .string aX, .bool false, .bool true] 46 (0, 0)) Zga hb)
  have aU := Ya.mk (Ys Zn hb)
  clear aH
  clear HB
  have aH := aJ
  have HB := aU
  clear aJ aU
  (try clear hb)
  (try clear cJ)
  (try clear hk)
  (try clear hi)
  refine hK.out _ _ ⟨(Yf aH.out 0).trans rfl, (Yf aH.out 1).trans rfl, (Yf aH.out 2).trans rfl, (Yf aH.out 3).trans rfl, (Yf aH.out 4).trans rfl, (Yf aH.out 5).trans rfl, (Yf aH.out 6).trans rfl, (Yf aH.out 7).trans rfl⟩ (fun hHeld => ?_)
  clear hK K
  refine Yth (a' := ?_) ?_ ?_
  rotate_left
  ·show Act.put _ (some 5) _ = _
   simp only [Act.put, Ky, Yha, Yka]
   rfl
  refine Yjb (i := 4) (N := some 8) (v := ?_) (a' := ?_) #[true, true, true, true, true, false] rfl rfl Zi (fun _ _ _ h => h) (Or.inl ⟨Zda, ?_⟩) ?_ ?_
  rotate_left
  ·exact Zsb
  rotate_left
  ·exact Ztb
  refine Yjb (i := 5) (N := some 3) (v := ?_) (a' := ?_) #[true, true, true, true, true, true] rfl rfl Zi (fun _ _ _ h => h) (Or.inl ⟨Zda, ?_⟩) ?_ ?_
  rotate_left
  ·exact Zsb
  rotate_left
  ·exact Ztb
  refine Yoi Zi ?_
  obtain ⟨aCO, aCP, aCQ, aCR, aCS, aCT, aCU, aCV, aCW, aCX, aCY, aCZ, aDa, aDb, aDc, aDd⟩ := Ka aH.out
  try go_wp2
  go_ret
  exact ⟨Zk, Zn⟩
 subst c4
 rw [if_pos rfl] at H
 by_cases c5 : 1 + aV.size ≤ 9223372036854775807
 rotate_left
 ·rw [if_neg c5] at H
  exact absurd H Zq
 rw [if_pos c5] at H
 have dG := Kp c5
 have oT : decide (1 + aV.size ≤ 9223372036854775807) = true := Kn c5
 try have aXp : (9223372036854775807 < 1 + aV.size) = False := eq_false (Nat.not_lt.2 c5)
 by_cases c6 : (dO ++ aR).size + ((⟨#[63]⟩ : Y) ++ aV).size ≤ 9223372036854775807
 rotate_left
 ·rw [if_neg c6] at H
  exact absurd H Zq
 rw [if_pos c6] at H
 have dN := Kp c6
 have lF : decide ((dO ++ aR).size + ((⟨#[63]⟩ : Y) ++ aV).size ≤ 9223372036854775807) = true := Kn c6
 try have aZY : (9223372036854775807 < (dO ++ aR).size + ((⟨#[63]⟩ : Y) ++ aV).size) = False := eq_false (Nat.not_lt.2 c6)
 by_cases c7 : bD = true
 rotate_left
 ·replace c7 := Kt c7
  subst c7
  rw [if_neg (show ¬ (false = true) by decide)] at H
  obtain rfl := Kr H
  go_enter Tryz.func48, Tryz.ntmps48
  try go_wp2_with (first | ((with_reducible refine Ybd (N := 1) rfl ?_); refine Ytd ?hg (N := 1) ?hd (cs := #[.string aM, .string aQ, .int .i64 aW, .string aR, .string aV, .string aX, .bool true, .bool false]) (t := 46) ?hr ?_; (case hd => rfl); (case hg => rfl); (case hr => first | (go_simp; done) | (go_simp; rfl)); intro aZ hg w14 hbox hb; have aJ := Ya.mk (Ys Za hb); have aU := Ya.mk (hbox); have bE := Ya.mk ((by rw [hg]; exact (Yna Za) : w.heap.size ≤ aZ)); have gS := Ya.mk ((by rw [hg]; exact (Yna Za) : w.heap.size ≤ aZ)); clear HB; have HB := aJ; have aH := aU; have aBv := bE; have wX := gS; clear aJ aU bE gS; clear hb hbox hg))
  have aJ := Ya.mk (Yma aH.out)
  have aU := Ya.mk (Yc HB.out)
  clear aH
  clear HB
  have aH := aJ
  have HB := aU
  clear aJ aU
  refine Ydh (n := 6) (S := fun w' => w'.cell? ⟨aZ, 0, none⟩ = some (.string aM) ∧ w'.cell? ⟨aZ, 1, none⟩ = some (.string aQ) ∧ w'.cell? ⟨aZ, 2, none⟩ = some (.int .i64 aW) ∧ w'.cell? ⟨aZ, 3, none⟩ = some (.string aR) ∧ w'.cell? ⟨aZ, 4, none⟩ = some (.string aV) ∧ w'.cell? ⟨aZ, 5, none⟩ = some (.string aX) ∧ w'.cell? ⟨aZ, 6, none⟩ = some (.bool true) ∧ w'.cell? ⟨aZ, 7, none⟩ = some (.bool false)) (ds := []) #[false, false, false, false, false, false] Zi rfl rfl ⟨(Yf aH.out 0).trans rfl, (Yf aH.out 1).trans rfl, (Yf aH.out 2).trans rfl, (Yf aH.out 3).trans rfl, (Yf aH.out 4).trans rfl, (Yf aH.out 5).trans rfl, (Yf aH.out 6).trans rfl, (Yf aH.out 7).trans rfl⟩ (fun hHeld => ?_)
  generalize w14.drew = w15 at aH HB hHeld ⊢
  refine Yjb (i := 2) (N := some 6) (v := ?_) (a' := ?_) #[false, false, true, false, false, false] rfl rfl Zi (fun _ _ _ h => h) (Or.inl ⟨Zda, ?_⟩) ?_ ?_
  rotate_left
  ·exact Zsb
  rotate_left
  ·exact Ztb
  refine Yxf (i := 0) (N := some 4) (v := ?_) (a' := ?_) #[true, false, true, false, false, false] rfl rfl Zi (fun _ _ _ h => h) (Or.inl ⟨Zda, ?_⟩) hHeld ?_ ?_
  rotate_left
  ·exact Zvb
  rotate_left
  ·exact Ztb
  refine Yxf (i := 3) (N := some 7) (v := ?_) (a' := ?_) #[true, false, true, true, false, false] rfl rfl Zi (fun _ _ _ h => h) (Or.inl ⟨Zda, ?_⟩) hHeld ?_ ?_
  rotate_left
  ·exact Zvb
  rotate_left
  ·exact Ztb
  refine one_ (i := 1) (N := some 5) #[true, true, true, true, false, false] rfl rfl Zi Zw (fun K hK => ?_)
  refine Ydi Tryz.func80 Zi rfl #[.agg #[.string aM, .string aQ, .int .i64 aW, .string aR, .string aV, .string aX, .bool true, .bool false]] Zda rfl rfl Zb ?_
  with_reducible refine (Yef.calls k aM aQ aW aR aV aX true false dO _ ?z1 A2.out).mono ?_
  (case z1 => exact Kk)
  rintro e w16 ⟨rfl, hb⟩
  refine ⟨_, rfl, ?_⟩
  have aJ := Ya.mk (Yue (g := aZ) (o := .cells #[.string aM, .string aQ, .int .i64 aW, .string aR, .string aV, .string aX, .bool true, .bool false] 46 (0, 0)) Zga hb)
  have aU := Ya.mk (Ys Zn hb)
  clear aH
  clear HB
  have aH := aJ
  have HB := aU
  clear aJ aU
  (try clear hb)
  (try clear cJ)
  (try clear hk)
  (try clear hi)
  refine hK.out _ _ ⟨(Yf aH.out 0).trans rfl, (Yf aH.out 1).trans rfl, (Yf aH.out 2).trans rfl, (Yf aH.out 3).trans rfl, (Yf aH.out 4).trans rfl, (Yf aH.out 5).trans rfl, (Yf aH.out 6).trans rfl, (Yf aH.out 7).trans rfl⟩ (fun hHeld => ?_)
  clear hK K
  refine Yth (a' := ?_) ?_ ?_
  rotate_left
  ·show Act.put _ (some 5) _ = _
   simp only [Act.put, Ky, Yha, Yka]
   rfl
  refine Yjb (i := 4) (N := some 8) (v := ?_) (a' := ?_) #[true, true, true, true, true, false] rfl rfl Zi (fun _ _ _ h => h) (Or.inl ⟨Zda, ?_⟩) ?_ ?_
  rotate_left
  ·exact Zsb
  rotate_left
  ·exact Ztb
  refine Yjb (i := 5) (N := some 3) (v := ?_) (a' := ?_) #[true, true, true, true, true, true] rfl rfl Zi (fun _ _ _ h => h) (Or.inl ⟨Zda, ?_⟩) ?_ ?_
  rotate_left
  ·exact Zsb
  rotate_left
  ·exact Ztb
  refine Yoi Zi ?_
  obtain ⟨aVf, aVg, aVh, aVi, aVj, aVk, aVl, aVm, aVn, aVo, aVp, aVq, aVr, aVs, aVt, aVu⟩ := Ka aH.out
  try go_wp2
  go_ret
  exact ⟨Zk, Zn⟩
 subst c7
 rw [if_pos rfl] at H
 by_cases c8 : 1 + aX.size ≤ 9223372036854775807
 rotate_left
 ·rw [if_neg c8] at H
  exact absurd H Zq
 rw [if_pos c8] at H
 have fS := Kp c8
 have jA : decide (1 + aX.size ≤ 9223372036854775807) = true := Kn c8
 try have aWR : (9223372036854775807 < 1 + aX.size) = False := eq_false (Nat.not_lt.2 c8)
 by_cases c9 : ((dO ++ aR) ++ ((⟨#[63]⟩ : Y) ++ aV)).size + ((⟨#[35]⟩ : Y) ++ aX).size ≤ 9223372036854775807
 rotate_left
 ·rw [if_neg c9] at H
  exact absurd H Zq
 rw [if_pos c9] at H
 have gN := Kp c9
 have nX : decide (((dO ++ aR) ++ ((⟨#[63]⟩ : Y) ++ aV)).size + ((⟨#[35]⟩ : Y) ++ aX).size ≤ 9223372036854775807) = true := Kn c9
 try have aBg : (9223372036854775807 < ((dO ++ aR) ++ ((⟨#[63]⟩ : Y) ++ aV)).size + ((⟨#[35]⟩ : Y) ++ aX).size) = False := eq_false (Nat.not_lt.2 c9)
 obtain rfl := Kr H
 go_enter Tryz.func48, Tryz.ntmps48
 try go_wp2_with (first | ((with_reducible refine Ybd (N := 1) rfl ?_); refine Ytd ?hg (N := 1) ?hd (cs := #[.string aM, .string aQ, .int .i64 aW, .string aR, .string aV, .string aX, .bool true, .bool true]) (t := 46) ?hr ?_; (case hd => rfl); (case hg => rfl); (case hr => first | (go_simp; done) | (go_simp; rfl)); intro aZ hg qZ hbox hb; have aJ := Ya.mk (Ys Za hb); have aU := Ya.mk (hbox); have bE := Ya.mk ((by rw [hg]; exact (Yna Za) : w.heap.size ≤ aZ)); have gS := Ya.mk ((by rw [hg]; exact (Yna Za) : w.heap.size ≤ aZ)); clear HB; have HB := aJ; have aH := aU; have aBv := bE; have wX := gS; clear aJ aU bE gS; clear hb hbox hg))
 have aJ := Ya.mk (Yma aH.out)
 have aU := Ya.mk (Yc HB.out)
 clear aH
 clear HB
 have aH := aJ
 have HB := aU
 clear aJ aU
 refine Ydh (n := 6) (S := fun w' => w'.cell? ⟨aZ, 0, none⟩ = some (.string aM) ∧ w'.cell? ⟨aZ, 1, none⟩ = some (.string aQ) ∧ w'.cell? ⟨aZ, 2, none⟩ = some (.int .i64 aW) ∧ w'.cell? ⟨aZ, 3, none⟩ = some (.string aR) ∧ w'.cell? ⟨aZ, 4, none⟩ = some (.string aV) ∧ w'.cell? ⟨aZ, 5, none⟩ = some (.string aX) ∧ w'.cell? ⟨aZ, 6, none⟩ = some (.bool true) ∧ w'.cell? ⟨aZ, 7, none⟩ = some (.bool true)) (ds := []) #[false, false, false, false, false, false] Zi rfl rfl ⟨(Yf aH.out 0).trans rfl, (Yf aH.out 1).trans rfl, (Yf aH.out 2).trans rfl, (Yf aH.out 3).trans rfl, (Yf aH.out 4).trans rfl, (Yf aH.out 5).trans rfl, (Yf aH.out 6).trans rfl, (Yf aH.out 7).trans rfl⟩ (fun hHeld => ?_)
 generalize qZ.drew = mV at aH HB hHeld ⊢
 refine Yjb (i := 2) (N := some 6) (v := ?_) (a' := ?_) #[false, false, true, false, false, false] rfl rfl Zi (fun _ _ _ h => h) (Or.inl ⟨Zda, ?_⟩) ?_ ?_
 rotate_left
 ·exact Zsb
 rotate_left
 ·exact Ztb
 refine Yxf (i := 0) (N := some 4) (v := ?_) (a' := ?_) #[true, false, true, false, false, false] rfl rfl Zi (fun _ _ _ h => h) (Or.inl ⟨Zda, ?_⟩) hHeld ?_ ?_
 rotate_left
 ·exact Zvb
 rotate_left
 ·exact Ztb
 refine Yxf (i := 3) (N := some 7) (v := ?_) (a' := ?_) #[true, false, true, true, false, false] rfl rfl Zi (fun _ _ _ h => h) (Or.inl ⟨Zda, ?_⟩) hHeld ?_ ?_
 rotate_left
 ·exact Zvb
 rotate_left
 ·exact Ztb
 refine one_ (i := 1) (N := some 5) #[true, true, true, true, false, false] rfl rfl Zi Zw (fun K hK => ?_)
 refine Ydi Tryz.func80 Zi rfl #[.agg #[.string aM, .string aQ, .int .i64 aW, .string aR, .string aV, .string aX, .bool true, .bool true]] Zda rfl rfl Zb ?_
 with_reducible refine (Yef.calls k aM aQ aW aR aV aX true true dO _ ?z1 A2.out).mono ?_
 (case z1 => exact Kk)
 rintro e uA ⟨rfl, hb⟩
 refine ⟨_, rfl, ?_⟩
 have aJ := Ya.mk (Yue (g := aZ) (o := .cells #[.string aM, .string aQ, .int .i64 aW, .string aR, .string aV, .string aX, .bool true, .bool true] 46 (0, 0)) Zga hb)
 have aU := Ya.mk (Ys Zn hb)
 clear aH
 clear HB
 have aH := aJ
 have HB := aU
 clear aJ aU
 (try clear hb)
 (try clear cJ)
 (try clear hk)
 (try clear hi)
 refine hK.out _ _ ⟨(Yf aH.out 0).trans rfl, (Yf aH.out 1).trans rfl, (Yf aH.out 2).trans rfl, (Yf aH.out 3).trans rfl, (Yf aH.out 4).trans rfl, (Yf aH.out 5).trans rfl, (Yf aH.out 6).trans rfl, (Yf aH.out 7).trans rfl⟩ (fun hHeld => ?_)
 clear hK K
 refine Yth (a' := ?_) ?_ ?_
 rotate_left
 ·show Act.put _ (some 5) _ = _
  simp only [Act.put, Ky, Yha, Yka]
  rfl
 refine Yjb (i := 4) (N := some 8) (v := ?_) (a' := ?_) #[true, true, true, true, true, false] rfl rfl Zi (fun _ _ _ h => h) (Or.inl ⟨Zda, ?_⟩) ?_ ?_
 rotate_left
 ·exact Zsb
 rotate_left
 ·exact Ztb
 refine Yjb (i := 5) (N := some 3) (v := ?_) (a' := ?_) #[true, true, true, true, true, true] rfl rfl Zi (fun _ _ _ h => h) (Or.inl ⟨Zda, ?_⟩) ?_ ?_
 rotate_left
 ·exact Zsb
 rotate_left
 ·exact Ztb
 refine Yoi Zi ?_
 obtain ⟨aVv, aVw, aVx, aVy, aVz, aVA, aVB, aVC, aVD, aVE, aVF, aVG, aVH, aVI, aVJ, aVK⟩ := Ka aH.out
 try go_wp2
 go_ret
 exact ⟨Zk, Zn⟩
def Yii.f (aM aQ : Y) (aW : Int) (aR aV aX : Y) (bB bD : Bool) : Option (Y × Y × Int × Y × Y × Y × Bool × Bool) := some (aM, aQ, aW, aR, aV, (⟨#[]⟩ : Y), bB, false)
theorem Yii.calls (aM aQ : Y) (aW : Int) (aR aV aX : Y) (bB bD : Bool) (r1 r2 : Y) (r3 : Int) (r4 r5 r6 : Y) (r7 r8 : Bool) (w : World) (hE : EnvOk w) (h : Yii.f aM aQ aW aR aV aX bB bD = some (r1, r2, r3, r4, r5, r6, r7, r8)) :
  Calls Tryz.prog 49 #[.agg #[.string aM, .string aQ, .int .i64 aW, .string aR, .string aV, .string aX, .bool bB, .bool bD]] w fun e w' => e = .returned (.agg #[.string r1, .string r2, .int .i64 r3, .string r4, .string r5, .string r6, .bool r7, .bool r8]) ∧ Below w.heap.size w w' := by
 have cV := Tryz.underlying46
 have HE := Ya.mk hE
 clear hE
 have HB := Ya.mk (Below.refl w.heap.size w)
 have H : (some (aM, aQ, aW, aR, aV, (⟨#[]⟩ : Y), bB, false)) = some (r1, r2, r3, r4, r5, r6, r7, r8) := h
 clear h
 simp only [Kz, Kaa] at H
 obtain ⟨rfl, rfl, rfl, rfl, rfl, rfl, rfl, rfl⟩ := H
 go_enter Tryz.func49, Tryz.ntmps49
 go_wp2_with (first | ((with_reducible refine Ybd (N := 1) rfl ?_); refine Ytd ?hg (N := 1) ?hd (cs := #[.string aM, .string aQ, .int .i64 aW, .string aR, .string aV, .string aX, .bool bB, .bool bD]) (t := 46) ?hr ?_; (case hd => rfl); (case hg => rfl); (case hr => first | (go_simp; done) | (go_simp; rfl)); intro gV hg w2 hbox hb; have aJ := Ya.mk (Ys Za hb); have aU := Ya.mk (hbox); have bE := Ya.mk ((by rw [hg]; exact (Yna Za) : w.heap.size ≤ gV)); have gS := Ya.mk ((by rw [hg]; exact (Yna Za) : w.heap.size ≤ gV)); clear HB; have HB := aJ; have eD := aU; have aYX := bE; have aEg := gS; clear aJ aU bE gS; clear hb hbox hg) | ((with_reducible refine Ybd (N := 2) rfl ?_); refine Ytd ?hg (N := 2) ?hd (cs := #[.string (⟨#[]⟩ : Y), .string (⟨#[]⟩ : Y), .int .i64 0, .string (⟨#[]⟩ : Y), .string (⟨#[]⟩ : Y), .string (⟨#[]⟩ : Y), .bool false, .bool false]) (t := 46) ?hr ?_; (case hd => rfl); (case hg => rfl); (case hr => first | (go_simp; done) | (go_simp; rfl)); intro iM hg w3 hbox hb; have aJ := Ya.mk (Yue (g := gV) (o := .cells #[.string aM, .string aQ, .int .i64 aW, .string aR, .string aV, .string aX, .bool bB, .bool bD] 46 (0, 0)) Zab hb); have aU := Ya.mk (Ys Zla hb); have bE := Ya.mk (hbox); have gS := Ya.mk ((by rw [hg]; exact (Yna Zla) : w.heap.size ≤ iM)); have n4_ := Ya.mk ((by rw [hg]; exact (Yna Zla) : w.heap.size ≤ iM)); have n5_ := Ya.mk ((by rw [hg]; exact Nat.ne_of_lt (Yhi (g := gV) (o := .cells #[.string aM, .string aQ, .int .i64 aW, .string aR, .string aV, .string aX, .bool bB, .bool bD] 46 (0, 0)) Zab) : gV ≠ iM)); have n6_ := Ya.mk ((by rw [hg]; exact Nat.ne_of_gt (Yhi (g := gV) (o := .cells #[.string aM, .string aQ, .int .i64 aW, .string aR, .string aV, .string aX, .bool bB, .bool bD] 46 (0, 0)) Zab) : iM ≠ gV)); clear eD; clear HB; have eD := aJ; have HB := aU; have gH := bE; have aYY := gS; have aKe := n4_; have zN := n5_; have mI := n6_; clear aJ aU bE gS n4_ n5_ n6_; clear hb hbox hg; have aZZ := zN.out; have bAa := mI.out; obtain ⟨aFO, aFP, aFQ, aFR, aFS, aFT, aFU, aFV, aFW, aFX, aFY, aFZ, aGa, aGb, aGc, aGd⟩ := Ka eD.out; obtain ⟨uT, uU, uV, uW, uX, uY, uZ, vA, vB, vC, vD, vE, vF, vG, vH, vI⟩ := Ka gH.out))
 refine bodyPost_ret (results_cell_row rfl _ _ iM 46 #[.string aM, .string aQ, .int .i64 aW, .string aR, .string aV, .string (⟨#[]⟩ : Y), .bool bB, .bool false] (0, 0) _ rfl (by (with_reducible repeat (first | refine Yba ?_ _ | refine Yma ?_ | refine Yja ?_ _)); refine Yeb (cs := #[.string aM, .string aQ, .int .i64 aW, .string aR, .string aV, .string (⟨#[]⟩ : Y), .bool bB, .bool false]) ?_ 7 _ rfl; (with_reducible repeat (first | refine Yba ?_ _ | refine Yma ?_ | refine Yja ?_ _)); refine Yeb (cs := #[.string aM, .string aQ, .int .i64 aW, .string aR, .string aV, .string (⟨#[]⟩ : Y), .bool false, .bool false]) ?_ 6 _ rfl; (with_reducible repeat (first | refine Yba ?_ _ | refine Yma ?_ | refine Yja ?_ _)); refine Yeb (cs := #[.string aM, .string aQ, .int .i64 aW, .string aR, .string aV, .string (⟨#[]⟩ : Y), .bool false, .bool false]) ?_ 5 _ rfl; (with_reducible repeat (first | refine Yba ?_ _ | refine Yma ?_ | refine Yja ?_ _)); refine Yeb (cs := #[.string aM, .string aQ, .int .i64 aW, .string aR, .string (⟨#[]⟩ : Y), .string (⟨#[]⟩ : Y), .bool false, .bool false]) ?_ 4 _ rfl; (with_reducible repeat (first | refine Yba ?_ _ | refine Yma ?_ | refine Yja ?_ _)); refine Yeb (cs := #[.string aM, .string aQ, .int .i64 aW, .string (⟨#[]⟩ : Y), .string (⟨#[]⟩ : Y), .string (⟨#[]⟩ : Y), .bool false, .bool false]) ?_ 3 _ rfl; (with_reducible repeat (first | refine Yba ?_ _ | refine Yma ?_ | refine Yja ?_ _)); refine Yeb (cs := #[.string aM, .string aQ, .int .i64 0, .string (⟨#[]⟩ : Y), .string (⟨#[]⟩ : Y), .string (⟨#[]⟩ : Y), .bool false, .bool false]) ?_ 2 _ rfl; (with_reducible repeat (first | refine Yba ?_ _ | refine Yma ?_ | refine Yja ?_ _)); refine Yeb (cs := #[.string aM, .string (⟨#[]⟩ : Y), .int .i64 0, .string (⟨#[]⟩ : Y), .string (⟨#[]⟩ : Y), .string (⟨#[]⟩ : Y), .bool false, .bool false]) ?_ 1 _ rfl; (with_reducible repeat (first | refine Yba ?_ _ | refine Yma ?_ | refine Yja ?_ _)); refine Yeb (cs := #[.string (⟨#[]⟩ : Y), .string (⟨#[]⟩ : Y), .int .i64 0, .string (⟨#[]⟩ : Y), .string (⟨#[]⟩ : Y), .string (⟨#[]⟩ : Y), .bool false, .bool false]) ?_ 0 _ rfl; (with_reducible repeat (first | refine Yba ?_ _ | refine Yma ?_ | refine Yja ?_ _)); refine Ync ?_ mI.out _; (with_reducible repeat (first | refine Yba ?_ _ | refine Yma ?_ | refine Yja ?_ _)); refine Ync ?_ mI.out _; (with_reducible repeat (first | refine Yba ?_ _ | refine Yma ?_ | refine Yja ?_ _)); exact gH.out) Tryz.underlying46 rfl Zi) rfl ?_
 exact ⟨Zk, by repeat (first | (with_reducible first | exact HB.out | apply Yd | apply Yb | apply Yc | refine Yg ?_ aEg.out | refine Yg ?_ aKe.out) | exact HB.out)⟩
def Yni.f (k : Nat) (aM aQ : Y) (aW : Int) (aR aV aX : Y) (bB bD : Bool) : Option (Y) := (Yii.f aM aQ aW aR aV aX bB bD).bind fun gI => ((Yff.f k gI.1 gI.2.1 gI.2.2.1 gI.2.2.2.1 gI.2.2.2.2.1 gI.2.2.2.2.2.1 gI.2.2.2.2.2.2.1 gI.2.2.2.2.2.2.2).bind fun aBw => (some aBw))
theorem Yni.calls (k : Nat) (aM aQ : Y) (aW : Int) (aR aV aX : Y) (bB bD : Bool) (r : Y) (w : World) (hE : EnvOk w) (h : Yni.f k aM aQ aW aR aV aX bB bD = some r) :
  Calls Tryz.prog 27 #[.agg #[.string aM, .string aQ, .int .i64 aW, .string aR, .string aV, .string aX, .bool bB, .bool bD]] w fun e w' => e = .returned (.string r) ∧ Below w.heap.size w w' := by
 have cV := Tryz.underlying46
 have HE := Ya.mk hE
 clear hE
 have HB := Ya.mk (Below.refl w.heap.size w)
 have H : ((Yii.f aM aQ aW aR aV aX bB bD).bind fun gI => ((Yff.f k gI.1 gI.2.1 gI.2.2.1 gI.2.2.2.1 gI.2.2.2.2.1 gI.2.2.2.2.2.1 gI.2.2.2.2.2.2.1 gI.2.2.2.2.2.2.2).bind fun aBw => (some aBw))) = some r := h
 clear h
 obtain ⟨⟨aGe, aGf, aGg, aGh, aGi, aGj, aGk, wB⟩, dX, H⟩ := Kq H
 try dsimp -simprocs only at H
 have A2 := Ya.mk dX
 clear dX
 obtain ⟨aBw, pF, H⟩ := Kq H
 try dsimp -simprocs only at H
 have A3 := Ya.mk pF
 clear pF
 obtain rfl := Kr H
 go_enter Tryz.func27, Tryz.ntmps27
 go_wp2_with (first | ((with_reducible refine Ybd (N := 1) rfl ?_); refine Ytd ?hg (N := 1) ?hd (cs := #[.string aM, .string aQ, .int .i64 aW, .string aR, .string aV, .string aX, .bool bB, .bool bD]) (t := 46) ?hr ?_; (case hd => rfl); (case hg => rfl); (case hr => first | (go_simp; done) | (go_simp; rfl)); intro jL hg w4 hbox hb; have aJ := Ya.mk (Ys Za hb); have aU := Ya.mk (hbox); have bE := Ya.mk ((by rw [hg]; exact (Yna Za) : w.heap.size ≤ jL)); have gS := Ya.mk ((by rw [hg]; exact (Yna Za) : w.heap.size ≤ jL)); clear HB; have HB := aJ; have dQ := aU; have aYZ := bE; have aHR := gS; clear aJ aU bE gS; clear hb hbox hg; obtain ⟨aFO, aFP, aFQ, aFR, aFS, aFT, aFU, aFV, aFW, aFX, aFY, aFZ, aGa, aGb, aGc, aGd⟩ := Ka dQ.out) | ((with_reducible refine Yh (f := 49) rfl ?_); refine Yy (some 4) rfl rfl Tryz.func49 Zi rfl #[.agg #[.string aM, .string aQ, .int .i64 aW, .string aR, .string aV, .string aX, .bool bB, .bool bD]] rfl Zb ?_; (with_reducible refine (Yii.calls aM aQ aW aR aV aX bB bD aGe aGf aGg aGh aGi aGj aGk wB _ ?z1 A2.out).mono ?_); (case z1 => first | exact HE.out | exact EnvOk.below HE.out Zx); rintro e w6 ⟨rfl, hb⟩; refine ⟨_, rfl, ?_⟩; have aJ := Ya.mk (Yue (g := jL) (o := .cells #[.string aM, .string aQ, .int .i64 aW, .string aR, .string aV, .string aX, .bool bB, .bool bD] 46 (0, 0)) (by (with_reducible repeat (first | refine Yba ?_ _ | refine Yma ?_ | refine Yja ?_ _)); exact dQ.out) hb); have aU := Ya.mk (Ys Zx hb); clear dQ; clear HB; have dQ := aJ; have HB := aU; clear aJ aU; (try clear hb)) | ((with_reducible refine Yh (f := 48) rfl ?_); refine Yy (some 5) rfl rfl Tryz.func48 Zi rfl #[.agg #[.string aGe, .string aGf, .int .i64 aGg, .string aGh, .string aGi, .string aGj, .bool aGk, .bool wB]] rfl Zb ?_; (with_reducible refine (Yff.calls k aGe aGf aGg aGh aGi aGj aGk wB aBw _ ?z1 A3.out).mono ?_); (case z1 => first | exact HE.out | exact EnvOk.below HE.out Zx); rintro e w7 ⟨rfl, hb⟩; refine ⟨_, rfl, ?_⟩; have aJ := Ya.mk (Yue (g := jL) (o := .cells #[.string aM, .string aQ, .int .i64 aW, .string aR, .string aV, .string aX, .bool bB, .bool bD] 46 (0, 0)) (by (with_reducible repeat (first | refine Yba ?_ _ | refine Yma ?_ | refine Yja ?_ _)); exact dQ.out) hb); have aU := Ya.mk (Ys Zx hb); clear dQ; clear HB; have dQ := aJ; have HB := aU; clear aJ aU; (try clear hb)))
 go_ret
 exact ⟨Zk, Zx⟩
def Yrp.f  : Option (Int × Int) := some (0, 0)
theorem Yrp.calls  (r1 r2 : Int) (w : World) (hE : EnvOk w) (h : Yrp.f  = some (r1, r2)) :
  Calls Tryz.prog 51 #[] w fun e w' => e = .returned (.agg #[.int .u32 r1, .int .u64 r2]) ∧ Below w.heap.size w w' := by
 have aXq := Tryz.underlying80
 have HE := Ya.mk hE
 clear hE
 have HB := Ya.mk (Below.refl w.heap.size w)
 have H : (some (0, 0)) = some (r1, r2) := h
 clear h
 simp only [Kz, Kaa] at H
 obtain ⟨rfl, rfl⟩ := H
 go_enter Tryz.func51, Tryz.ntmps51
 go_wp2_with (first | ((with_reducible refine Ybd (N := 0) rfl ?_); refine Ytd ?hg (N := 0) ?hd (cs := #[.int .u32 0, .int .u64 0]) (t := 80) ?hr ?_; (case hd => rfl); (case hg => rfl); (case hr => first | (go_simp; done) | (go_simp; rfl)); intro sT hg w1 hbox hb; have aJ := Ya.mk (Ys Za hb); have aU := Ya.mk (hbox); have bE := Ya.mk ((by rw [hg]; exact (Yna Za) : w.heap.size ≤ sT)); have gS := Ya.mk ((by rw [hg]; exact (Yna Za) : w.heap.size ≤ sT)); clear HB; have HB := aJ; have sU := aU; have aZa := bE; have aKf := gS; clear aJ aU bE gS; clear hb hbox hg; have aXr : w1.cell? ⟨sT, 0, none⟩ = some (.int .u32 0) := (Yf sU.out 0).trans rfl; have aXs : w1.cell? ⟨sT, 1, none⟩ = some (.int .u64 0) := (Yf sU.out 1).trans rfl; have aXt := Ye sU.out 0; have aXu := Ye sU.out 1))
 refine bodyPost_ret (results_cell_row rfl _ _ sT 80 #[.int .u32 0, .int .u64 0] (0, 0) _ rfl (by (with_reducible repeat (first | refine Yba ?_ _ | refine Yma ?_ | refine Yja ?_ _)); refine Yeb (cs := #[.int .u32 0, .int .u64 0]) ?_ 1 _ rfl; (with_reducible repeat (first | refine Yba ?_ _ | refine Yma ?_ | refine Yja ?_ _)); refine Yeb (cs := #[.int .u32 0, .int .u64 0]) ?_ 0 _ rfl; (with_reducible repeat (first | refine Yba ?_ _ | refine Yma ?_ | refine Yja ?_ _)); exact sU.out) Tryz.underlying80 rfl Zi) rfl ?_
 exact ⟨Zk, by repeat (first | (with_reducible first | exact HB.out | apply Yd | apply Yb | apply Yc | refine Yg ?_ aKf.out) | exact HB.out)⟩
def Yoe.l0 : Nat → Int → List Int → Int → Option (Y)
 | 0, _, _, _ => none
 | k + 1, x0, x5, x6 => if x6 ≥ 0 then (if 0 ≤ (wrap64 (4 * x6)) then (if 0 ≤ (Go.bits .and .u64 (shr .u64 x0 (wrap64 (4 * x6))) 15) then (if (Go.bits .and .u64 (shr .u64 x0 (wrap64 (4 * x6))) 15) < 16 then (if x5.length < 140737488355328 then (Yoe.l0 k x0 (x5 ++ [bt (⟨#[48, 49, 50, 51, 52, 53, 54, 55, 56, 57, 97, 98, 99, 100, 101, 102]⟩ : Y) (Go.bits .and .u64 (shr .u64 x0 (wrap64 (4 * x6))) 15)]) (wrap64 (x6 - 1))) else (none)) else (none)) else (none)) else (none)) else (some (strOfNums x5))
def Yoe.f (k : Nat) (a0 a1 : Int) : Option (Y) := Yoe.l0 k a0 ([] : List Int) ((mn (mx a1 0) 16) - 1)
theorem Yoe.calls (k : Nat) (a0 a1 : Int) (r : Y) (w : World) (hE : EnvOk w) (h : Yoe.f k a0 a1 = some r) :
  Calls Tryz.prog 53 #[.int .u64 a0, .int .i64 a1] w fun e w' => e = .returned (.string r) ∧ Below w.heap.size w w' := by
 have HE := Ya.mk hE
 clear hE
 have HB := Ya.mk (Below.refl w.heap.size w)
 have H : (Yoe.l0 k a0 ([] : List Int) ((mn (mx a1 0) 16) - 1)) = some r := h
 clear h
 obtain ⟨ji3, mC⟩ : ∃ j_ : Int, (mx a1 0) = j_ := ⟨_, rfl⟩
 replace H : (Yoe.l0 k a0 ([] : List Int) ((mn (ji3) 16) - 1)) = some r := by first | (rw [mC] at H; exact H) | (simp only [mC] at H ⊢; exact H)
 (try (have hji3l : 0 ≤ ji3 := by (rw [← mC]; unfold mx; (repeat' split) <;> omega)))
 (try (have hji3m : 0 ≤ ji3 := by omega))
 have aIg : (if a1 < 0 then 0 else a1) = ji3 := mC
 obtain ⟨ji4, aBx⟩ : ∃ j_ : Int, (mn (ji3) 16) = j_ := ⟨_, rfl⟩
 replace H : (Yoe.l0 k a0 ([] : List Int) ((ji4) - 1)) = some r := by first | (rw [aBx] at H; exact H) | (simp only [aBx] at H ⊢; exact H)
 have aZb : (if 16 < (ji3) then 16 else (ji3)) = ji4 := aBx
 have H' := Ya.mk H
 clear H
 go_enter Tryz.func53, Tryz.ntmps53
 go_wp2
 go_loopg [5, 6] k (fun kq v5 v6 w' => ∃ (aI : List Int) (aD : Int), v6 = .int .i64 aD ∧ Ya (Yoe.l0 kq a0 aI aD = some r) ∧ Ya (kq ≤ k) ∧ Ya (Kd.R (Kd.int .u8) 5 w' w.heap.size (fun _ => True) v5 aI) ∧ Ya (Below w.heap.size w w'))
 case atStart => exact ⟨(([] : List Int)), ((ji4) - 1), (by first | rfl | (simp; done) | (simp only [← aBx] <;> (first | rfl | simp)) | (simp [*]; done)), H', ⟨Ks _⟩, ⟨Zv⟩, ⟨Za⟩⟩
 case round =>
  clear H'
  try clear p2
  obtain ⟨aI, aD, rfl, HA, cC, HO_5, HB⟩ := hrel
  cases gk with
  | zero => exact absurd HA.out (by simp [Yoe.l0])
  | succ k1 =>
   have H := HA.out
   clear HA
   simp only [Yoe.l0] at H
   by_cases c5 : aD ≥ 0
   rotate_left
   ·rw [if_neg c5] at H
    have dG : decide (0 ≤ aD) = false := Ko c5
    clear c5
    obtain rfl := Kr H
    have aZc := Yzf (P := Tryz.prog) Tryz.underlying67 Tryz.underlying5 Tryz.underlying9 (Kd.own_of_R HO_5.out)
    go_wp2
    go_ret
    exact ⟨by first | rfl | (simp [Ym, Yl] <;> rfl) | (simp only [← mC, ← aBx]; first | rfl | (simp [Ym, Yl] <;> rfl)) | (simp [*, Ym, Yl] <;> rfl), Za⟩
   rw [if_pos c5] at H
   have dG : decide (0 ≤ aD) = true := Kn c5
   clear c5
   obtain ⟨ji6, aGl⟩ : ∃ j_ : Int, (wrap64 (4 * aD)) = j_ := ⟨_, rfl⟩
   replace H : (if 0 ≤ (ji6) then (if 0 ≤ (Go.bits .and .u64 (shr .u64 a0 (ji6)) 15) then (if (Go.bits .and .u64 (shr .u64 a0 (ji6)) 15) < 16 then (if aI.length < 140737488355328 then (Yoe.l0 k1 a0 (aI ++ [bt (⟨#[48, 49, 50, 51, 52, 53, 54, 55, 56, 57, 97, 98, 99, 100, 101, 102]⟩ : Y) (Go.bits .and .u64 (shr .u64 a0 (ji6)) 15)]) (wrap64 (aD - 1))) else (none)) else (none)) else (none)) else (none)) = some r := by first | (rw [aGl] at H; exact H) | (simp only [aGl] at H ⊢; exact H)
   have hji6w : (IntKind.i64.wrap (4 * aD)) = ji6 := (Yha _).trans aGl
   by_cases c7 : 0 ≤ (ji6)
   rotate_left
   ·rw [if_neg c7] at H
    exact absurd H Zq
   rw [if_pos c7] at H
   have cM := Kp c7
   have gZ : decide (0 ≤ (ji6)) = true := Kn c7
   clear c7
   obtain ⟨ji8, lE⟩ : ∃ j_ : Int, (shr .u64 a0 (ji6)) = j_ := ⟨_, rfl⟩
   replace H : (if 0 ≤ (Go.bits .and .u64 (ji8) 15) then (if (Go.bits .and .u64 (ji8) 15) < 16 then (if aI.length < 140737488355328 then (Yoe.l0 k1 a0 (aI ++ [bt (⟨#[48, 49, 50, 51, 52, 53, 54, 55, 56, 57, 97, 98, 99, 100, 101, 102]⟩ : Y) (Go.bits .and .u64 (ji8) 15)]) (wrap64 (aD - 1))) else (none)) else (none)) else (none)) = some r := by first | (rw [lE] at H; exact H) | (simp only [lE] at H ⊢; exact H)
   have aIZ : (a0 / 2 ^ min (ji6).toNat 64) = ji8 := lE
   have hji8z : (ji6) ≤ 64 → (a0 / 2 ^ (ji6).toNat) = ji8 := shr_small lE
   by_cases c9 : 0 ≤ (Go.bits .and .u64 (ji8) 15)
   rotate_left
   ·rw [if_neg c9] at H
    exact absurd H Zq
   rw [if_pos c9] at H
   have gN : decide (0 ≤ (Go.bits .and .u64 (ji8) 15)) = true := Kn c9
   clear c9
   by_cases dK : (Go.bits .and .u64 (ji8) 15) < 16
   rotate_left
   ·rw [if_neg dK] at H
    exact absurd H Zq
   rw [if_pos dK] at H
   have iJ : decide ((Go.bits .and .u64 (ji8) 15) < 16) = true := Kn dK
   clear dK
   by_cases bT : aI.length < 140737488355328
   rotate_left
   ·rw [if_neg bT] at H
    exact absurd H Zq
   rw [if_pos bT] at H
   have aKg := Ya.mk bT
   clear bT
   obtain ⟨aKh, sV⟩ : ∃ y_ : List Int, y_ = (aI ++ [bt (⟨#[48, 49, 50, 51, 52, 53, 54, 55, 56, 57, 97, 98, 99, 100, 101, 102]⟩ : Y) (Go.bits .and .u64 (ji8) 15)]) := ⟨_, rfl⟩
   replace H : (Yoe.l0 k1 a0 aKh (wrap64 (aD - 1))) = some r := by first | (rw [sV]; with_reducible exact H) | (have cO := (Kba _ _).symm.trans H; rw [sV]; with_reducible exact cO) | (have cO := (Kba _ _).symm.trans H; with_reducible exact cO) | with_reducible exact H | (rw [sV]; exact H) | exact H
   have aKi := Ya.mk sV
   clear sV
   have H' := Ya.mk H
   clear H
   have gW : (0 ≤ ((Go.bits .and .u64 (ji8) 15) : Int)) = True := Kl
   have fG : (Go.bits .and .u64 (ji8) 15) < (16 : Int) := Km Zc
   have lR := Ypa (⟨#[48, 49, 50, 51, 52, 53, 54, 55, 56, 57, 97, 98, 99, 100, 101, 102]⟩ : Y) (Go.bits .and .u64 (ji8) 15)
   replace fG := Kp fG
   go_wp2_with (first | ((with_reducible refine Yic (b := .append) (xs := #[.tmp 15, .tmp 22]) rfl ?_); at_builtin; refine Kd.R_append (Kd.int .u8) (w0 := w) w.heap.size rfl (.tmp 15) (.tmp 22) 67 5 (.int .u8 0) 1 rfl Tryz.underlying67 Yaj rfl Zw Zj u5 aI (bt (⟨#[48, 49, 50, 51, 52, 53, 54, 55, 56, 57, 97, 98, 99, 100, 101, 102]⟩ : Y) (Go.bits .and .u64 (ji8) 15)) [.int .u8 (bt (⟨#[48, 49, 50, 51, 52, 53, 54, 55, 56, 57, 97, 98, 99, 100, 101, 102]⟩ : Y) (Go.bits .and .u64 (ji8) 15))] (fun _ => True) (fun _ => False) rfl rfl ?aP (fun _ hk => hk.elim) ?aF ?aO ?aB ?aS ?aL ?_; (case aP => exact rfl); (case aB => exact Za); (case aF => exact (fun _ _ => trivial)); (case aO => exact Zz); (case aS => exact Ki); (case aL => have := aKg.out; omega); intro bAb mW ho hb hg hat; rw [← aKi.out] at ho; replace HB := Ya.mk (hb); have aKj := Ya.mk (ho); clear HO_5; clear ho hb hg hat))
   go_roundg k1
   case measure => have := cC.out; omega
   case rel => exact ⟨(aKh), (wrap64 (aD - 1)), Zf, H', ⟨Zu⟩, ⟨by (with_reducible repeat (first | apply Kd.R_alloc | apply Kd.R_drewN | apply Kd.R_drew)); exact aKj.out⟩, ⟨Za⟩⟩
def Yui.f (aM aQ : Int) : Option (Int) := some (Go.bits .xor .u64 aQ 14695981039346656037)
theorem Yui.calls (aM aQ r : Int) (w : World) (hE : EnvOk w) (h : Yui.f aM aQ = some r) :
  Calls Tryz.prog 54 #[.agg #[.int .u32 aM, .int .u64 aQ]] w fun e w' => e = .returned (.int .u64 r) ∧ Below w.heap.size w w' := by
 have aXq := Tryz.underlying80
 have HE := Ya.mk hE
 clear hE
 have HB := Ya.mk (Below.refl w.heap.size w)
 have H : (some (Go.bits .xor .u64 aQ 14695981039346656037)) = some r := h
 clear h
 obtain rfl := Kr H
 go_enter Tryz.func54, Tryz.ntmps54
 go_wp2_with (first | ((with_reducible refine Ybd (N := 1) rfl ?_); refine Ytd ?hg (N := 1) ?hd (cs := #[.int .u32 aM, .int .u64 aQ]) (t := 80) ?hr ?_; (case hd => rfl); (case hg => rfl); (case hr => first | (go_simp; done) | (go_simp; rfl)); intro yO hg w2 hbox hb; have aJ := Ya.mk (Ys Za hb); have aU := Ya.mk (hbox); have bE := Ya.mk ((by rw [hg]; exact (Yna Za) : w.heap.size ≤ yO)); have gS := Ya.mk ((by rw [hg]; exact (Yna Za) : w.heap.size ≤ yO)); clear HB; have HB := aJ; have yP := aU; have aZd := bE; have aKk := gS; clear aJ aU bE gS; clear hb hbox hg; have uJ : w2.cell? ⟨yO, 0, none⟩ = some (.int .u32 aM) := (Yf yP.out 0).trans rfl; have uK : w2.cell? ⟨yO, 1, none⟩ = some (.int .u64 aQ) := (Yf yP.out 1).trans rfl; have uL := Ye yP.out 0; have uM := Ye yP.out 1))
 go_ret
 exact ⟨Zk, by repeat (first | (with_reducible first | exact HB.out | apply Yd | apply Yb | apply Yc | refine Yg ?_ aKk.out) | exact HB.out)⟩
def Ymb.l0 : Nat → List Y → List Y → Int → Option (Bool)
 | 0, _, _, _ => none
 | k + 1, x0, x1, x5 => if x5 < (x0.length : Int) then (if 0 ≤ x5 then (if x5 < (x1.length : Int) then (if (rdOf ByteArray.empty x0 x5).toList = (rdOf ByteArray.empty x1 x5).toList then (Ymb.l0 k x0 x1 (wrap64 (x5 + 1))) else (some false)) else (none)) else (none)) else (some true)
def Ymb.f (k : Nat) (l0 l1 : List Y) : Option (Bool) := if (l0.length : Int) = (l1.length : Int) then (Ymb.l0 k l0 l1 0) else (some false)
theorem Ymb.calls (k : Nat) (A0 : Option Addr) (c0 : Nat) (l0 : List Y) (A1 : Option Addr) (c1 : Nat) (l1 : List Y) (r : Bool) (w : World) (hE : EnvOk w) (nD : Kd.C Kd.string w A0 l0.length l0) (eE : l0.length ≤ c0) (hr1 : Kd.C Kd.string w A1 l1.length l1) (fL : l1.length ≤ c1) (h : Ymb.f k l0 l1 = some r) :
  Calls Tryz.prog 30 #[.slice A0 l0.length c0, .slice A1 l1.length c1] w fun e w' => e = .returned (.bool r) ∧ Drawn0 w w' := by
 have HR0 := Ya.mk nD
 have HC0 := Ya.mk eE
 clear nD eE
 have rM := Ya.mk hr1
 have HC1 := Ya.mk fL
 clear hr1 fL
 have HE := Ya.mk hE
 clear hE
 have H : (if (l0.length : Int) = (l1.length : Int) then (Ymb.l0 k l0 l1 0) else (some false)) = some r := h
 clear h
 by_cases c3 : (l0.length : Int) = (l1.length : Int)
 rotate_left
 ·rw [if_neg c3] at H
  have bV : ((l0.length : Int) == (l1.length : Int)) = false := Kv c3
  have dY : ((l0.length : Int) != (l1.length : Int)) = true := Kw c3
  have zH : (l0.length == l1.length) = false := by first | simpa using c3 | (simp at c3 ⊢; omega)
  obtain rfl := Kr H
  go_enter Tryz.func30, Tryz.ntmps30
  go_wp2
  repeat (go_quiet (fail); try go_wp2)
  go_ret
  exact ⟨Zf, Zh⟩
 rw [if_pos c3] at H
 have bV : ((l0.length : Int) == (l1.length : Int)) = true := Kx c3
 have dY : ((l0.length : Int) != (l1.length : Int)) = false := Ku c3
 have zH : (l0.length == l1.length) = true := by first | simpa using c3 | (simp at c3 ⊢; omega)
 clear c3
 have H' := Ya.mk H
 clear H
 go_enter Tryz.func30, Tryz.ntmps30
 go_wp2
 repeat (go_quiet (fail); try go_wp2)
 go_loopg [5] k (fun kq v5 w' => ∃ (aI : Int), v5 = .int .i64 aI ∧ Ya (Ymb.l0 kq l0 l1 aI = some r) ∧ Ya (kq ≤ k) ∧ Drawn0 w w')
 case atStart => exact ⟨(0), Zf, H', ⟨Ks _⟩, Zh⟩
 case round =>
  clear H'
  try clear c1
  try clear p2
  try clear c3
  try clear bV
  try clear dY
  try clear zH
  obtain ⟨aI, rfl, HA, cC, ⟨m1, rfl⟩⟩ := hrel
  cases gk with
  | zero => exact absurd HA.out (by simp [Ymb.l0])
  | succ k1 =>
   have H := HA.out
   clear HA
   simp only [Ymb.l0] at H
   by_cases c4 : aI < (l0.length : Int)
   rotate_left
   ·rw [if_neg c4] at H
    have bM : decide (aI < (l0.length : Int)) = false := Ko c4
    clear c4
    obtain rfl := Kr H
    go_wp2
    repeat (go_quiet (fail); try go_wp2)
    go_ret
    exact ⟨Zf, Zh⟩
   rw [if_pos c4] at H
   have bM : decide (aI < (l0.length : Int)) = true := Kn c4
   clear c4
   by_cases c5 : 0 ≤ aI
   rotate_left
   ·rw [if_neg c5] at H
    exact absurd H Zq
   rw [if_pos c5] at H
   have dG : decide (0 ≤ aI) = true := Kn c5
   clear c5
   by_cases c6 : aI < (l1.length : Int)
   rotate_left
   ·rw [if_neg c6] at H
    exact absurd H Zq
   rw [if_pos c6] at H
   have dN : decide (aI < (l1.length : Int)) = true := Kn c6
   clear c6
   by_cases c7 : (rdOf ByteArray.empty l0 aI).toList = (rdOf ByteArray.empty l1 aI).toList
   rotate_left
   ·rw [if_neg c7] at H
    have cM : ((rdOf ByteArray.empty l0 aI).toList == (rdOf ByteArray.empty l1 aI).toList) = false := Kv c7
    have gZ : ((rdOf ByteArray.empty l0 aI).toList != (rdOf ByteArray.empty l1 aI).toList) = true := Kw c7
    obtain rfl := Kr H
    have wC : 0 ≤ (aI : Int) := Km Zc
    have wD : aI < (l0.length : Int) := Km Zc
    obtain ⟨aKl, aGm, aDO⟩ := Kd.at_string HR0.out aI wC wD
    cases aGm
    replace wC := Kp wC
    replace wD := Kp wD
    have wE : 0 ≤ (aI : Int) := Km Zc
    have wF : aI < (l1.length : Int) := Km Zc
    obtain ⟨aKm, aGn, aDP⟩ := Kd.at_string rM.out aI wE wF
    cases aGn
    replace wE := Kp wE
    replace wF := Kp wF
    go_wp2
    repeat (go_quiet (fail); try go_wp2)
    go_ret
    exact ⟨Zf, Zh⟩
   rw [if_pos c7] at H
   have cM : ((rdOf ByteArray.empty l0 aI).toList == (rdOf ByteArray.empty l1 aI).toList) = true := Kx c7
   have gZ : ((rdOf ByteArray.empty l0 aI).toList != (rdOf ByteArray.empty l1 aI).toList) = false := Ku c7
   clear c7
   have H' := Ya.mk H
   clear H
   have wC : 0 ≤ (aI : Int) := Km Zc
   have wD : aI < (l0.length : Int) := Km Zc
   obtain ⟨aKl, aGm, aDO⟩ := Kd.at_string HR0.out aI wC wD
   cases aGm
   replace wC := Kp wC
   replace wD := Kp wD
   have wE : 0 ≤ (aI : Int) := Km Zc
   have wF : aI < (l1.length : Int) := Km Zc
   obtain ⟨aKm, aGn, aDP⟩ := Kd.at_string rM.out aI wE wF
   cases aGn
   replace wE := Kp wE
   replace wF := Kp wF
   go_wp2
   repeat (go_quiet (fail); try go_wp2)
   go_roundg k1
   case measure => have := cC.out; omega
   case rel => exact ⟨(wrap64 (aI + 1)), Zf, H', ⟨Zu⟩, Zh⟩
end Go.Proofs.YtihaeeldgimdiaaGreatDoor.X
