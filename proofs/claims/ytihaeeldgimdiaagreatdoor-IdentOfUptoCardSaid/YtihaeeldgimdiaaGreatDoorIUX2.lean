import Derived.Test.YtihaeeldgimdiaaGreatDoorIUX0
set_option linter.all false
namespace Go.Proofs.YtihaeeldgimdiaaGreatDoor.X
open Go.RowKit Go.Yw.PrintWords Go.Yw.PrintLast Go.Yw.PrintMore
attribute [local go_sem] Yxd Yvd Yze Yye Ymd Yld Yyd Ywd
set_option maxHeartbeats 8000000
set_option maxRecDepth 100000
mutual
def Yca.l0 : Nat → Int → List (List Y) → Int → Int → Option (Int)
 | 0, _, _, _, _ => none
 | k + 1, x3, zE, x38, zF => if zF < x38 then (if 0 ≤ zF then (if zF < (zE.length : Int) then (if 0 ≤ (mn ((Ywc zE zF).length : Int) 50) then (if (mn ((Ywc zE zF).length : Int) 50) ≤ ((Ywc zE zF).length : Int) then ((some ((Ywc zE zF).take ((mn ((Ywc zE zF).length : Int) 50) : Int).toNat : List Y)).bind fun fR => (Yca.l1 k x3 (Ywc zE zF) zE x38 zF fR (fR.length : Int) 0)) else (none)) else (none)) else (none)) else (none)) else (some x3)
def Yca.l1 : Nat → Int → List Y → List (List Y) → Int → Int → List Y → Int → Int → Option (Int)
 | 0, _, _, _, _, _, _, _, _ => none
 | k + 1, x3, x5, zE, x38, zF, nE, x48, x49 => if x49 < x48 then (if 0 ≤ x49 then (if x49 < (nE.length : Int) then (Yca.l1 k (wrap64 (x3 + (mn ((rdOf ByteArray.empty nE x49).size : Int) 5000))) x5 zE x38 zF nE x48 (wrap64 (x49 + 1))) else (none)) else (none)) else (if (x5.length : Int) > 50 then (some 1048576) else (Yca.l0 k x3 zE x38 (wrap64 (zF + 1))))
end
def Yca.f (k : Nat) (aM aQ aW aR aV aX : Y) (bB : Int) (bD : Bool) (pU pV kY : Y) (dA dB dC dD dE : List Y) : Option (Int) := (some (([dA, dB, dC, dD, dE] : List (List Y)) : List (List Y))).bind fun bU => (Yca.l0 k (wrap64 ((wrap64 ((wrap64 ((wrap64 ((aQ.size : Int) + (aW.size : Int))) + (aR.size : Int))) + (aV.size : Int))) + (aX.size : Int))) bU (bU.length : Int) 0)
theorem Yca.calls (k : Nat) (aM aQ aW aR aV aX : Y) (bB : Int) (bD : Bool) (pU pV kY : Y) (bO : Nat → Prop) (hZ : Option Addr) (iA : Nat) (dA : List Y) (bP : Nat → Prop) (iB : Option Addr) (iC : Nat) (dB : List Y) (bQ : Nat → Prop) (iD : Option Addr) (iE : Nat) (dC : List Y) (bR : Nat → Prop) (iF : Option Addr) (iG : Nat) (dD : List Y) (bS : Nat → Prop) (iH : Option Addr) (iI : Nat) (dE : List Y) (r : Int) (w : World) (hE : EnvOk w) (aEX : Kd.V Kd.string 9 w w.heap.size (fun k_ => bO k_) (.slice hZ dA.length iA) dA) (aEY : Kd.V Kd.string 9 w w.heap.size (fun k_ => bP k_) (.slice iB dB.length iC) dB) (aEZ : Kd.V Kd.string 9 w w.heap.size (fun k_ => bQ k_) (.slice iD dC.length iE) dC) (aFa : Kd.V Kd.string 9 w w.heap.size (fun k_ => bR k_) (.slice iF dD.length iG) dD) (aFb : Kd.V Kd.string 9 w w.heap.size (fun k_ => bS k_) (.slice iH dE.length iI) dE) (h : Yca.f k aM aQ aW aR aV aX bB bD pU pV kY dA dB dC dD dE = some r) :
  Calls Tryz.prog 18 #[.agg #[.string aM, .string aQ, .string aW, .string aR, .string aV, .string aX, .int .i64 bB, .bool bD, .string pU, .string pV, .string kY, .slice hZ dA.length iA, .slice iB dB.length iC, .slice iD dC.length iE, .slice iF dD.length iG, .slice iH dE.length iI]] w fun e w' => e = .returned (.int .i64 r) ∧ Below w.heap.size w w' := by
 have mT := Tryz.underlying32
 have iT := Ya.mk (show Kd.V Kd.string 9 w w.heap.size (fun k_ => ((bO k_ ∨ bP k_ ∨ bQ k_ ∨ bR k_ ∨ bS k_) ∨ w.heap.size ≤ k_)) (.slice hZ dA.length iA) dA from Kd.V_mono aEX (fun k_ hk => .inl (.inl hk)))
 have iU := Ya.mk (show Kd.V Kd.string 9 w w.heap.size (fun k_ => ((bO k_ ∨ bP k_ ∨ bQ k_ ∨ bR k_ ∨ bS k_) ∨ w.heap.size ≤ k_)) (.slice iB dB.length iC) dB from Kd.V_mono aEY (fun k_ hk => .inl (.inr (.inl hk))))
 have iV := Ya.mk (show Kd.V Kd.string 9 w w.heap.size (fun k_ => ((bO k_ ∨ bP k_ ∨ bQ k_ ∨ bR k_ ∨ bS k_) ∨ w.heap.size ≤ k_)) (.slice iD dC.length iE) dC from Kd.V_mono aEZ (fun k_ hk => .inl (.inr (.inr (.inl hk)))))
 have iW := Ya.mk (show Kd.V Kd.string 9 w w.heap.size (fun k_ => ((bO k_ ∨ bP k_ ∨ bQ k_ ∨ bR k_ ∨ bS k_) ∨ w.heap.size ≤ k_)) (.slice iF dD.length iG) dD from Kd.V_mono aFa (fun k_ hk => .inl (.inr (.inr (.inr (.inl hk))))))
 have iX := Ya.mk (show Kd.V Kd.string 9 w w.heap.size (fun k_ => ((bO k_ ∨ bP k_ ∨ bQ k_ ∨ bR k_ ∨ bS k_) ∨ w.heap.size ≤ k_)) (.slice iH dE.length iI) dE from Kd.V_mono aFb (fun k_ hk => .inl (.inr (.inr (.inr (.inr hk))))))
 have HE := Ya.mk hE
 clear hE
 have HB := Ya.mk (Below.refl w.heap.size w)
 have H : ((some (([dA, dB, dC, dD, dE] : List (List Y)) : List (List Y))).bind fun bU => (Yca.l0 k (wrap64 ((wrap64 ((wrap64 ((wrap64 ((aQ.size : Int) + (aW.size : Int))) + (aR.size : Int))) + (aV.size : Int))) + (aX.size : Int))) bU (bU.length : Int) 0)) = some r := h
 clear h
 obtain ⟨bU, rI⟩ : ∃ y_ : List (List Y), y_ = (([dA, dB, dC, dD, dE] : List (List Y))) := ⟨_, rfl⟩
 replace H : (Yca.l0 k (wrap64 ((wrap64 ((wrap64 ((wrap64 ((aQ.size : Int) + (aW.size : Int))) + (aR.size : Int))) + (aV.size : Int))) + (aX.size : Int))) bU (bU.length : Int) 0) = some r := by first | (rw [rI]; with_reducible exact H) | (have cO := (Kba _ _).symm.trans H; rw [rI]; with_reducible exact cO) | (have cO := (Kba _ _).symm.trans H; with_reducible exact cO) | with_reducible exact H | (rw [rI]; exact H) | exact H
 have aEj := Ya.mk rI
 clear rI
 have H' := Ya.mk H
 clear H
 go_enter Tryz.func18, Tryz.ntmps18
 go_wp2_with (first | ((with_reducible refine Ybd (N := 1) rfl ?_); refine Ytd ?hg (N := 1) ?hd (cs := #[.string aM, .string aQ, .string aW, .string aR, .string aV, .string aX, .int .i64 bB, .bool bD, .string pU, .string pV, .string kY, .slice hZ dA.length iA, .slice iB dB.length iC, .slice iD dC.length iE, .slice iF dD.length iG, .slice iH dE.length iI]) (t := 32) ?hr ?_; (case hd => rfl); (case hg => rfl); (case hr => first | (go_simp; done) | (go_simp; rfl)); intro bC hg w2 hbox hb; have aJ := Ya.mk (Kd.V_below (Kd.V_elderB (by (with_reducible repeat (first | apply Kd.V_alloc | apply Kd.V_drewN | apply Kd.V_drew)); exact iT.out) bC (Nat.le_of_eq hg.symm)) hb); have aU := Ya.mk (Kd.V_below (Kd.V_elderB (by (with_reducible repeat (first | apply Kd.V_alloc | apply Kd.V_drewN | apply Kd.V_drew)); exact iU.out) bC (Nat.le_of_eq hg.symm)) hb); have bE := Ya.mk (Kd.V_below (Kd.V_elderB (by (with_reducible repeat (first | apply Kd.V_alloc | apply Kd.V_drewN | apply Kd.V_drew)); exact iV.out) bC (Nat.le_of_eq hg.symm)) hb); have gS := Ya.mk (Kd.V_below (Kd.V_elderB (by (with_reducible repeat (first | apply Kd.V_alloc | apply Kd.V_drewN | apply Kd.V_drew)); exact iW.out) bC (Nat.le_of_eq hg.symm)) hb); have n4_ := Ya.mk (Kd.V_below (Kd.V_elderB (by (with_reducible repeat (first | apply Kd.V_alloc | apply Kd.V_drewN | apply Kd.V_drew)); exact iX.out) bC (Nat.le_of_eq hg.symm)) hb); have n5_ := Ya.mk (Ys Za hb); have n6_ := Ya.mk (hbox); have n7_ := Ya.mk ((by rw [hg]; exact (Yna Za) : w.heap.size ≤ bC)); have n8_ := Ya.mk ((by rw [hg]; exact (Yna Za) : w.heap.size ≤ bC)); clear iT; clear iU; clear iV; clear iW; clear iX; clear HB; have iT := aJ; have iU := aU; have iV := bE; have iW := gS; have iX := n4_; have HB := n5_; have cG := n6_; have aYN := n7_; have aHO := n8_; clear aJ aU bE gS n4_ n5_ n6_ n7_ n8_; clear hb hbox hg; have uJ : w2.cell? ⟨bC, 0, none⟩ = some (.string aM) := (Yf cG.out 0).trans rfl; have uK : w2.cell? ⟨bC, 1, none⟩ = some (.string aQ) := (Yf cG.out 1).trans rfl; have aAj : w2.cell? ⟨bC, 2, none⟩ = some (.string aW) := (Yf cG.out 2).trans rfl; have aAk : w2.cell? ⟨bC, 3, none⟩ = some (.string aR) := (Yf cG.out 3).trans rfl; have aAl : w2.cell? ⟨bC, 4, none⟩ = some (.string aV) := (Yf cG.out 4).trans rfl; have aAm : w2.cell? ⟨bC, 5, none⟩ = some (.string aX) := (Yf cG.out 5).trans rfl; have aAn : w2.cell? ⟨bC, 6, none⟩ = some (.int .i64 bB) := (Yf cG.out 6).trans rfl; have aAo : w2.cell? ⟨bC, 7, none⟩ = some (.bool bD) := (Yf cG.out 7).trans rfl; have aAp : w2.cell? ⟨bC, 8, none⟩ = some (.string pU) := (Yf cG.out 8).trans rfl; have aAq : w2.cell? ⟨bC, 9, none⟩ = some (.string pV) := (Yf cG.out 9).trans rfl; have wY : w2.cell? ⟨bC, 10, none⟩ = some (.string kY) := (Yf cG.out 10).trans rfl; have wZ : w2.cell? ⟨bC, 11, none⟩ = some (.slice hZ dA.length iA) := (Yf cG.out 11).trans rfl; have xA : w2.cell? ⟨bC, 12, none⟩ = some (.slice iB dB.length iC) := (Yf cG.out 12).trans rfl; have xB : w2.cell? ⟨bC, 13, none⟩ = some (.slice iD dC.length iE) := (Yf cG.out 13).trans rfl; have xC : w2.cell? ⟨bC, 14, none⟩ = some (.slice iF dD.length iG) := (Yf cG.out 14).trans rfl; have xD : w2.cell? ⟨bC, 15, none⟩ = some (.slice iH dE.length iI) := (Yf cG.out 15).trans rfl; obtain ⟨uL, uM, aAr, aAs, aAt, aAu, aAv, aAw⟩ := Ke cG.out; have aAx := Ye cG.out 8; have aAy := Ye cG.out 9; have xE := Ye cG.out 10; have xF := Ye cG.out 11; have xG := Ye cG.out 12; have xH := Ye cG.out 13; have xI := Ye cG.out 14; have xJ := Ye cG.out 15) | ((with_reducible refine Ybd (N := 37) rfl ?_); refine Kd.N_lit (Kd.slice 9 Kd.string) _ 23 ?hg (N' := 37) ?hd (xs := ([dA, dB, dC, dD, dE] : List (List Y))) (inner := [.slice hZ dA.length iA, .slice iB dB.length iC, .slice iD dC.length iE, .slice iF dD.length iG, .slice iH dE.length iI]) (ok := (fun k_ => ((bO k_ ∨ bP k_ ∨ bQ k_ ∨ bR k_ ∨ bS k_) ∨ w.heap.size ≤ k_) ∧ k_ ≠ bC)) (okp := (fun k_ => ((bO k_ ∨ bP k_ ∨ bQ k_ ∨ bR k_ ∨ bS k_) ∨ w.heap.size ≤ k_) ∧ k_ ≠ bC)) ?hr ?hp (fun _ hk => hk) ((show ∀ k_, w2.heap.size ≤ k_ → (fun k_ => ((bO k_ ∨ bP k_ ∨ bQ k_ ∨ bR k_ ∨ bS k_) ∨ w.heap.size ≤ k_) ∧ k_ ≠ bC) k_ from fun k_ hk => ⟨(.inr (Nat.le_trans (Yna Zr) hk)), Kd.freshB (g := bC) (o := .cells #[.string aM, .string aQ, .string aW, .string aR, .string aV, .string aX, .int .i64 bB, .bool bD, .string pU, .string pV, .string kY, .slice hZ dA.length iA, .slice iB dB.length iC, .slice iD dC.length iE, .slice iF dD.length iG, .slice iH dE.length iI] 32 (0, 0)) Zy k_ hk⟩) _ (Ks _)) (Below.refl _ _) (Ks _) Zq ?_; (case hd => rfl); (case hg => rfl); (case hr => first | (go_simp; done) | (go_simp; rfl)); (case hp => exact (Reps.one (show Kd.FK (Kd.slice 9 Kd.string) _ _ dA [.slice hZ dA.length iA] from (Kd.FK_slice_mk (Kd.V_reads' (Kd.V_mono (ok' := (fun k_ => ((bO k_ ∨ bP k_ ∨ bQ k_ ∨ bR k_ ∨ bS k_) ∨ w.heap.size ≤ k_) ∧ k_ ≠ bC)) (iT.out) (fun k_ hk => ⟨hk.1, hk.2⟩))).2.1 (Kd.V_F (Kd.V_mono (ok' := (fun k_ => ((bO k_ ∨ bP k_ ∨ bQ k_ ∨ bR k_ ∨ bS k_) ∨ w.heap.size ≤ k_) ∧ k_ ≠ bC)) (iT.out) (fun k_ hk => ⟨hk.1, hk.2⟩))))) (Reps.one (show Kd.FK (Kd.slice 9 Kd.string) _ _ dB [.slice iB dB.length iC] from (Kd.FK_slice_mk (Kd.V_reads' (Kd.V_mono (ok' := (fun k_ => ((bO k_ ∨ bP k_ ∨ bQ k_ ∨ bR k_ ∨ bS k_) ∨ w.heap.size ≤ k_) ∧ k_ ≠ bC)) (iU.out) (fun k_ hk => ⟨hk.1, hk.2⟩))).2.1 (Kd.V_F (Kd.V_mono (ok' := (fun k_ => ((bO k_ ∨ bP k_ ∨ bQ k_ ∨ bR k_ ∨ bS k_) ∨ w.heap.size ≤ k_) ∧ k_ ≠ bC)) (iU.out) (fun k_ hk => ⟨hk.1, hk.2⟩))))) (Reps.one (show Kd.FK (Kd.slice 9 Kd.string) _ _ dC [.slice iD dC.length iE] from (Kd.FK_slice_mk (Kd.V_reads' (Kd.V_mono (ok' := (fun k_ => ((bO k_ ∨ bP k_ ∨ bQ k_ ∨ bR k_ ∨ bS k_) ∨ w.heap.size ≤ k_) ∧ k_ ≠ bC)) (iV.out) (fun k_ hk => ⟨hk.1, hk.2⟩))).2.1 (Kd.V_F (Kd.V_mono (ok' := (fun k_ => ((bO k_ ∨ bP k_ ∨ bQ k_ ∨ bR k_ ∨ bS k_) ∨ w.heap.size ≤ k_) ∧ k_ ≠ bC)) (iV.out) (fun k_ hk => ⟨hk.1, hk.2⟩))))) (Reps.one (show Kd.FK (Kd.slice 9 Kd.string) _ _ dD [.slice iF dD.length iG] from (Kd.FK_slice_mk (Kd.V_reads' (Kd.V_mono (ok' := (fun k_ => ((bO k_ ∨ bP k_ ∨ bQ k_ ∨ bR k_ ∨ bS k_) ∨ w.heap.size ≤ k_) ∧ k_ ≠ bC)) (iW.out) (fun k_ hk => ⟨hk.1, hk.2⟩))).2.1 (Kd.V_F (Kd.V_mono (ok' := (fun k_ => ((bO k_ ∨ bP k_ ∨ bQ k_ ∨ bR k_ ∨ bS k_) ∨ w.heap.size ≤ k_) ∧ k_ ≠ bC)) (iW.out) (fun k_ hk => ⟨hk.1, hk.2⟩))))) (Reps.one (show Kd.FK (Kd.slice 9 Kd.string) _ _ dE [.slice iH dE.length iI] from (Kd.FK_slice_mk (Kd.V_reads' (Kd.V_mono (ok' := (fun k_ => ((bO k_ ∨ bP k_ ∨ bQ k_ ∨ bR k_ ∨ bS k_) ∨ w.heap.size ≤ k_) ∧ k_ ≠ bC)) (iX.out) (fun k_ hk => ⟨hk.1, hk.2⟩))).2.1 (Kd.V_F (Kd.V_mono (ok' := (fun k_ => ((bO k_ ∨ bP k_ ∨ bQ k_ ∨ bR k_ ∨ bS k_) ∨ w.heap.size ≤ k_) ∧ k_ ≠ bC)) (iX.out) (fun k_ hk => ⟨hk.1, hk.2⟩))))) (Reps.none _ _))))))); intro aZQ w4 tY hb hg_ hnew_; clear hg_ hnew_; (first | rw [← aEj.out] at tY | (simp only [Int.reduceToNat] at tY; rw [← aEj.out] at tY)); have aJ := Ya.mk (Kd.V_elder' (by (with_reducible repeat (first | apply Kd.V_alloc | apply Kd.V_drewN | apply Kd.V_drew)); exact iT.out) (Kd.N_base tY) hb); have aU := Ya.mk (Kd.V_elder' (by (with_reducible repeat (first | apply Kd.V_alloc | apply Kd.V_drewN | apply Kd.V_drew)); exact iU.out) (Kd.N_base tY) hb); have bE := Ya.mk (Kd.V_elder' (by (with_reducible repeat (first | apply Kd.V_alloc | apply Kd.V_drewN | apply Kd.V_drew)); exact iV.out) (Kd.N_base tY) hb); have gS := Ya.mk (Kd.V_elder' (by (with_reducible repeat (first | apply Kd.V_alloc | apply Kd.V_drewN | apply Kd.V_drew)); exact iW.out) (Kd.N_base tY) hb); have n4_ := Ya.mk (Kd.V_elder' (by (with_reducible repeat (first | apply Kd.V_alloc | apply Kd.V_drewN | apply Kd.V_drew)); exact iX.out) (Kd.N_base tY) hb); have n5_ := Ya.mk (Kd.N_lower tY (Yna Zr)); have n6_ := Ya.mk (Yue (g := bC) (o := .cells #[.string aM, .string aQ, .string aW, .string aR, .string aV, .string aX, .int .i64 bB, .bool bD, .string pU, .string pV, .string kY, .slice hZ dA.length iA, .slice iB dB.length iC, .slice iD dC.length iE, .slice iF dD.length iG, .slice iH dE.length iI] 32 (0, 0)) Zy hb); have n7_ := Ya.mk (Ys Zr hb); clear iT; clear iU; clear iV; clear iW; clear iX; clear cG; clear HB; have iT := aJ; have iU := aU; have iV := bE; have iW := gS; have iX := n4_; have aEn := n5_; have cG := n6_; have HB := n7_; clear aJ aU bE gS n4_ n5_ n6_ n7_; clear hb tY; obtain ⟨Ao6, tZ, eo6⟩ := Kd.N_slice aEn.out; subst eo6))
 go_loopg [3, 39] k (fun kq v3 v39 w' => ∃ (aE : Int) (bL : Int), v3 = .int .i64 aE ∧ v39 = .int .i64 bL ∧ Ya (Yca.l0 kq aE bU (bU.length : Int) bL = some r) ∧ Ya (kq ≤ k) ∧ Ya (Kd.N (Kd.slice 9 Kd.string) 23 w' w.heap.size (fun k_ => ((bO k_ ∨ bP k_ ∨ bQ k_ ∨ bR k_ ∨ bS k_) ∨ w.heap.size ≤ k_) ∧ k_ ≠ bC) (.slice Ao6 bU.length tZ) bU) ∧ Ya (Kd.V Kd.string 9 w' w.heap.size (fun k_ => ((bO k_ ∨ bP k_ ∨ bQ k_ ∨ bR k_ ∨ bS k_) ∨ w.heap.size ≤ k_) ∧ some k_ ≠ ((.slice Ao6 bU.length tZ) : Value).ownBlock ∧ k_ ≠ bC) (.slice hZ dA.length iA) dA) ∧ Ya (Kd.V Kd.string 9 w' w.heap.size (fun k_ => ((bO k_ ∨ bP k_ ∨ bQ k_ ∨ bR k_ ∨ bS k_) ∨ w.heap.size ≤ k_) ∧ some k_ ≠ ((.slice Ao6 bU.length tZ) : Value).ownBlock ∧ k_ ≠ bC) (.slice iB dB.length iC) dB) ∧ Ya (Kd.V Kd.string 9 w' w.heap.size (fun k_ => ((bO k_ ∨ bP k_ ∨ bQ k_ ∨ bR k_ ∨ bS k_) ∨ w.heap.size ≤ k_) ∧ some k_ ≠ ((.slice Ao6 bU.length tZ) : Value).ownBlock ∧ k_ ≠ bC) (.slice iD dC.length iE) dC) ∧ Ya (Kd.V Kd.string 9 w' w.heap.size (fun k_ => ((bO k_ ∨ bP k_ ∨ bQ k_ ∨ bR k_ ∨ bS k_) ∨ w.heap.size ≤ k_) ∧ some k_ ≠ ((.slice Ao6 bU.length tZ) : Value).ownBlock ∧ k_ ≠ bC) (.slice iF dD.length iG) dD) ∧ Ya (Kd.V Kd.string 9 w' w.heap.size (fun k_ => ((bO k_ ∨ bP k_ ∨ bQ k_ ∨ bR k_ ∨ bS k_) ∨ w.heap.size ≤ k_) ∧ some k_ ≠ ((.slice Ao6 bU.length tZ) : Value).ownBlock ∧ k_ ≠ bC) (.slice iH dE.length iI) dE) ∧ Ya (w'.heap[bC]? = some (.cells #[.string aM, .string aQ, .string aW, .string aR, .string aV, .string aX, .int .i64 bB, .bool bD, .string pU, .string pV, .string kY, (.slice hZ dA.length iA), (.slice iB dB.length iC), (.slice iD dC.length iE), (.slice iF dD.length iG), (.slice iH dE.length iI)] 32 (0, 0))) ∧ Ya (Below w.heap.size w w'))
 case atStart => exact ⟨(wrap64 ((wrap64 ((wrap64 ((wrap64 ((aQ.size : Int) + (aW.size : Int))) + (aR.size : Int))) + (aV.size : Int))) + (aX.size : Int))), (0), Zf, Zf, H', ⟨Ks _⟩, ⟨by (with_reducible repeat (first | apply Kd.N_alloc | apply Kd.N_drewN | apply Kd.N_drew)); exact aEn.out⟩, ⟨by (with_reducible repeat (first | apply Kd.V_alloc | apply Kd.V_drewN | apply Kd.V_drew)); exact Kd.V_mono iT.out (fun _ hk => ⟨hk.1.1, ⟨hk.2, hk.1.2⟩⟩)⟩, ⟨by (with_reducible repeat (first | apply Kd.V_alloc | apply Kd.V_drewN | apply Kd.V_drew)); exact Kd.V_mono iU.out (fun _ hk => ⟨hk.1.1, ⟨hk.2, hk.1.2⟩⟩)⟩, ⟨by (with_reducible repeat (first | apply Kd.V_alloc | apply Kd.V_drewN | apply Kd.V_drew)); exact Kd.V_mono iV.out (fun _ hk => ⟨hk.1.1, ⟨hk.2, hk.1.2⟩⟩)⟩, ⟨by (with_reducible repeat (first | apply Kd.V_alloc | apply Kd.V_drewN | apply Kd.V_drew)); exact Kd.V_mono iW.out (fun _ hk => ⟨hk.1.1, ⟨hk.2, hk.1.2⟩⟩)⟩, ⟨by (with_reducible repeat (first | apply Kd.V_alloc | apply Kd.V_drewN | apply Kd.V_drew)); exact Kd.V_mono iX.out (fun _ hk => ⟨hk.1.1, ⟨hk.2, hk.1.2⟩⟩)⟩, ⟨Zy⟩, ⟨Zr⟩⟩
 case round =>
  clear H'
  try clear c1
  try clear p2
  try clear p6
  try clear uJ
  try clear uK
  try clear wY
  try clear wZ
  try clear xA
  try clear xB
  try clear xC
  try clear xD
  try clear aAj
  try clear aAk
  try clear aAl
  try clear aAm
  try clear aAn
  try clear aAo
  try clear aAp
  try clear aAq
  try clear uL
  try clear uM
  try clear xE
  try clear xF
  try clear xG
  try clear xH
  try clear xI
  try clear xJ
  try clear aAr
  try clear aAs
  try clear aAt
  try clear aAu
  try clear aAv
  try clear aAw
  try clear aAx
  try clear aAy
  obtain ⟨aE, bL, rfl, rfl, HA, cC, HO_37, HO_102011, HO_102012, HO_102013, HO_102014, HO_102015, cG, HB⟩ := hrel
  cases gk with
  | zero => exact absurd HA.out (by simp [Yca.l0])
  | succ k1 =>
   have H := HA.out
   clear HA
   simp only [Yca.l0] at H
   by_cases c7 : bL < (bU.length : Int)
   rotate_left
   ·rw [if_neg c7] at H
    have cM : decide (bL < (bU.length : Int)) = false := Ko c7
    clear c7
    obtain rfl := Kr H
    go_wp2
    go_ret
    exact ⟨Zk, Zr⟩
   rw [if_pos c7] at H
   have cM : decide (bL < (bU.length : Int)) = true := Kn c7
   clear c7
   by_cases c8 : 0 ≤ bL
   rotate_left
   ·rw [if_neg c8] at H
    exact absurd H Zq
   rw [if_pos c8] at H
   have fS : decide (0 ≤ bL) = true := Kn c8
   clear c8
   by_cases c9 : bL < (bU.length : Int)
   rotate_left
   ·rw [if_neg c9] at H
    exact absurd H Zq
   rw [if_pos c9] at H
   have gN : decide (bL < (bU.length : Int)) = true := Kn c9
   clear c9
   obtain ⟨ji10, gT⟩ : ∃ j_ : Int, (mn ((Ywc bU bL).length : Int) 50) = j_ := ⟨_, rfl⟩
   replace H : (if 0 ≤ (ji10) then (if (ji10) ≤ ((Ywc bU bL).length : Int) then ((some ((Ywc bU bL).take ((ji10) : Int).toNat : List Y)).bind fun fR => (Yca.l1 k1 aE (Ywc bU bL) bU (bU.length : Int) bL fR (fR.length : Int) 0)) else (none)) else (none)) = some r := by first | (rw [gT] at H; exact H) | (simp only [gT] at H ⊢; exact H)
   have aWy : (if 50 < ((Ywc bU bL).length : Int) then 50 else ((Ywc bU bL).length : Int)) = ji10 := gT
   by_cases bK : 0 ≤ (ji10)
   rotate_left
   ·rw [if_neg bK] at H
    exact absurd H Zq
   rw [if_pos bK] at H
   have fM := Kp bK
   have kH : decide (0 ≤ (ji10)) = true := Kn bK
   clear bK
   by_cases bT : (ji10) ≤ ((Ywc bU bL).length : Int)
   rotate_left
   ·rw [if_neg bT] at H
    exact absurd H Zq
   rw [if_pos bT] at H
   have dZ := Kp bT
   have rJ : decide ((ji10) ≤ ((Ywc bU bL).length : Int)) = true := Kn bT
   clear bT
   obtain ⟨fR, rK⟩ : ∃ y_ : List Y, y_ = ((Ywc bU bL).take ((ji10) : Int).toNat) := ⟨_, rfl⟩
   replace H : (Yca.l1 k1 aE (Ywc bU bL) bU (bU.length : Int) bL fR (fR.length : Int) 0) = some r := by first | (rw [rK]; with_reducible exact H) | (have cO := (Kba _ _).symm.trans H; rw [rK]; with_reducible exact cO) | (have cO := (Kba _ _).symm.trans H; with_reducible exact cO) | with_reducible exact H | (rw [rK]; exact H) | exact H
   have aEo := Ya.mk rK
   clear rK
   have H' := Ya.mk H
   clear H
   have aAz : 0 ≤ (bL : Int) := Km Zc
   have aAA : bL < (bU.length : Int) := Km Zc
   obtain ⟨nL, nM, c105_0, aWz, xK, xL, xM⟩ := at_L1 (Kd.N_reads' HO_37.out).2.2 bL aAz aAA
   cases aWz
   obtain ⟨aYO, aFc, aFd, aAB⟩ := Kd.N_get HO_37.out [] bL aAz (by first | exact aAA | exact Km Zc | (have e_ := (Kd.N_reads' HO_37.out).1; omega))
   obtain ⟨aMW, aMX, rfl, pW, pX⟩ := Kd.FK_slice_open aFd
   have nF := aAB 0 _ rfl
   rw [Nat.add_zero, show ((Kd.slice 9 Kd.string)).sz = 1 from rfl, Nat.mul_one] at nF
   replace nF := Kr (nF.symm.trans xK)
   injection nF with hva_ hvn_ hvc_
   rw [hva_] at pX
   rw [hvc_] at pW
   have aCq := Ya.mk (show Kd.V Kd.string 9 _ w.heap.size _ _ (Ywc bU bL) from Kd.V_mk pW pX)
   clear hva_ hvn_ hvc_ pX pW
   clear aAB aFc
   have kZ := Ya.mk xM
   have aCr := Ya.mk xL
   clear xM xL
   replace aAz := Kp aAz
   replace aAA := Kp aAA
   have iP : ((ji10) : Int) ≤ (((Ywc bU bL).length : Int) : Int) := Km Zc
   obtain ⟨aZR, aEp, _, aId, _⟩ := info_parts Ype
   have xN : (Ywc bU bL).length ≤ c105_0 := aCr.out
   have aIe : Kd.F Kd.string _ _ nM (Ywc bU bL).length (Ywc bU bL) := (Kd.V_at (base := w.heap.size) aCq.out).2.2
   have aFe := cut_to (P := Tryz.prog) 23 9 .i64 Tryz.underlying23 aEp nM (Ywc bU bL).length c105_0 (ji10) (Km Zc) iP xN
   have aFf := Kd.F_take (m := ((ji10) : Int).toNat) aIe Zj
   have aFg : fR.length = ((ji10) : Int).toNat := (by rw [aEo.out, List.length_take]; omega)
   rw [← aEo.out] at aFf
   rw [← aFg] at aFe
   have aIf := Ya.mk (show Kd.V Kd.string 9 _ w.heap.size _ (.slice nM fR.length c105_0) fR from Kd.V_mk Zj aFf)
   have aYP := Ya.mk (show fR.length ≤ c105_0 from by omega)
   clear aFf aIe xN aEp aId
   have aZS := Ya.mk aFg
   clear aFg
   replace iP := Kp iP
   go_wp2
   go_loopg [3, 49] k1 (fun kq v3 v49 w' => ∃ (zG : Int) (fN : Int), v3 = .int .i64 zG ∧ v49 = .int .i64 fN ∧ Ya (Yca.l1 kq zG (Ywc bU bL) bU (bU.length : Int) bL fR (fR.length : Int) fN = some r) ∧ Ya (kq ≤ k1) ∧ Ya (Kd.N (Kd.slice 9 Kd.string) 23 w' w.heap.size (fun k_ => ((bO k_ ∨ bP k_ ∨ bQ k_ ∨ bR k_ ∨ bS k_) ∨ w.heap.size ≤ k_) ∧ k_ ≠ bC) (.slice (some nL) bU.length tZ) bU) ∧ Ya (Kd.V Kd.string 9 w' w.heap.size (fun k_ => ((bO k_ ∨ bP k_ ∨ bQ k_ ∨ bR k_ ∨ bS k_) ∨ w.heap.size ≤ k_) ∧ some k_ ≠ ((.slice (some nL) bU.length tZ) : Value).ownBlock ∧ k_ ≠ bC) (.slice nM fR.length c105_0) fR) ∧ Ya (Kd.V Kd.string 9 w' w.heap.size (fun k_ => ((bO k_ ∨ bP k_ ∨ bQ k_ ∨ bR k_ ∨ bS k_) ∨ w.heap.size ≤ k_) ∧ some k_ ≠ ((.slice (some nL) bU.length tZ) : Value).ownBlock ∧ k_ ≠ bC) (.slice hZ dA.length iA) dA) ∧ Ya (Kd.V Kd.string 9 w' w.heap.size (fun k_ => ((bO k_ ∨ bP k_ ∨ bQ k_ ∨ bR k_ ∨ bS k_) ∨ w.heap.size ≤ k_) ∧ some k_ ≠ ((.slice (some nL) bU.length tZ) : Value).ownBlock ∧ k_ ≠ bC) (.slice iB dB.length iC) dB) ∧ Ya (Kd.V Kd.string 9 w' w.heap.size (fun k_ => ((bO k_ ∨ bP k_ ∨ bQ k_ ∨ bR k_ ∨ bS k_) ∨ w.heap.size ≤ k_) ∧ some k_ ≠ ((.slice (some nL) bU.length tZ) : Value).ownBlock ∧ k_ ≠ bC) (.slice iD dC.length iE) dC) ∧ Ya (Kd.V Kd.string 9 w' w.heap.size (fun k_ => ((bO k_ ∨ bP k_ ∨ bQ k_ ∨ bR k_ ∨ bS k_) ∨ w.heap.size ≤ k_) ∧ some k_ ≠ ((.slice (some nL) bU.length tZ) : Value).ownBlock ∧ k_ ≠ bC) (.slice iF dD.length iG) dD) ∧ Ya (Kd.V Kd.string 9 w' w.heap.size (fun k_ => ((bO k_ ∨ bP k_ ∨ bQ k_ ∨ bR k_ ∨ bS k_) ∨ w.heap.size ≤ k_) ∧ some k_ ≠ ((.slice (some nL) bU.length tZ) : Value).ownBlock ∧ k_ ≠ bC) (.slice iH dE.length iI) dE) ∧ Ya (w'.heap[bC]? = some (.cells #[.string aM, .string aQ, .string aW, .string aR, .string aV, .string aX, .int .i64 bB, .bool bD, .string pU, .string pV, .string kY, (.slice hZ dA.length iA), (.slice iB dB.length iC), (.slice iD dC.length iE), (.slice iF dD.length iG), (.slice iH dE.length iI)] 32 (0, 0))) ∧ Ya (Kd.C Kd.string w' nM (Ywc bU bL).length (Ywc bU bL)) ∧ Ya (Below w.heap.size w w'))
   case atStart => exact ⟨(aE), (0), Zf, Zf, H', ⟨Ks _⟩, ⟨Zva⟩, ⟨by (with_reducible repeat (first | apply Kd.V_alloc | apply Kd.V_drewN | apply Kd.V_drew)); exact Kd.V_mono aIf.out (fun _ hk => ⟨hk.1.1, ⟨hk.2, hk.1.2⟩⟩)⟩, ⟨Zqa⟩, ⟨Zra⟩, ⟨Zsa⟩, ⟨Zta⟩, ⟨Zua⟩, ⟨Zy⟩, ⟨by repeat (first | (with_reducible exact kZ.out) | (with_reducible refine Kd.C_alloc ?_ _) | (with_reducible refine Kd.C_drewN ?_ _) | (with_reducible refine Kd.C_drew ?_) | exact kZ.out)⟩, ⟨Zr⟩⟩
   case round =>
    clear H'
    try clear c1
    try clear p1
    try clear q1
    try clear uN
    try clear p2
    try clear p6
    try clear c7
    try clear cM
    try clear c8
    try clear fS
    try clear c9
    try clear gN
    try clear dK
    try clear mU
    try clear iQ
    try clear rL
    try clear bK
    try clear fM
    try clear kH
    try clear bT
    try clear dZ
    try clear rJ
    try clear iP
    try clear uJ
    try clear uK
    try clear wY
    try clear wZ
    try clear xA
    try clear xB
    try clear xC
    try clear xD
    try clear aAj
    try clear aAk
    try clear aAl
    try clear aAm
    try clear aAn
    try clear aAo
    try clear aAp
    try clear aAq
    try clear uL
    try clear uM
    try clear xE
    try clear xF
    try clear xG
    try clear xH
    try clear xI
    try clear xJ
    try clear aAr
    try clear aAs
    try clear aAt
    try clear aAu
    try clear aAv
    try clear aAw
    try clear aAx
    try clear aAy
    try clear xK
    try clear aAz
    try clear p2
    try clear p6
    try clear aAA
    try clear iP
    obtain ⟨zG, fN, rfl, rfl, HA, kU, HO_37, HO_47, HO_102011, HO_102012, HO_102013, HO_102014, HO_102015, cG, kZ, HB⟩ := hrel
    cases gk with
    | zero => exact absurd HA.out (by simp [Yca.l1])
    | succ k2 =>
     have H := HA.out
     clear HA
     simp only [Yca.l1] at H
     by_cases cD : fN < (fR.length : Int)
     rotate_left
     ·rw [if_neg cD] at H
      have gC : decide (fN < (fR.length : Int)) = false := Ko cD
      clear cD
      by_cases dR : ((Ywc bU bL).length : Int) > 50
      ·rw [if_pos dR] at H
       have lA : decide (50 < ((Ywc bU bL).length : Int)) = true := Kn dR
       have mO : decide (50 < (Ywc bU bL).length) = true := Kn Zj
       clear dR
       obtain rfl := Kr H
       go_wp2
       go_ret
       exact ⟨by first | rfl | (simp [Ym, Yl] <;> rfl) | (simp only [← gT]; first | rfl | (simp [Ym, Yl] <;> rfl)) | (simp [*, Ym, Yl] <;> rfl), Zr⟩
      rw [if_neg dR] at H
      have lA : decide (50 < ((Ywc bU bL).length : Int)) = false := Ko dR
      have mO : decide (50 < (Ywc bU bL).length) = false := Ko Zj
      clear dR
      have H' := Ya.mk H
      clear H
      go_wp2
      go_roundg k2
      case measure => have := cC.out; have := kU.out; omega
      case rel => exact ⟨(zG), (wrap64 (bL + 1)), Zf, Zf, H', ⟨Zpa⟩, ⟨Zva⟩, ⟨Zqa⟩, ⟨Zra⟩, ⟨Zsa⟩, ⟨Zta⟩, ⟨Zua⟩, ⟨Zy⟩, ⟨Zr⟩⟩
     rw [if_pos cD] at H
     have gC : decide (fN < (fR.length : Int)) = true := Kn cD
     clear cD
     by_cases bN : 0 ≤ fN
     rotate_left
     ·rw [if_neg bN] at H
      exact absurd H Zq
     rw [if_pos bN] at H
     have eA : decide (0 ≤ fN) = true := Kn bN
     clear bN
     by_cases dF : fN < (fR.length : Int)
     rotate_left
     ·rw [if_neg dF] at H
      exact absurd H Zq
     rw [if_pos dF] at H
     have gD : decide (fN < (fR.length : Int)) = true := Kn dF
     clear dF
     obtain ⟨ji17, xO⟩ : ∃ j_ : Int, (mn ((rdOf ByteArray.empty fR fN).size : Int) 5000) = j_ := ⟨_, rfl⟩
     replace H : (Yca.l1 k2 (wrap64 (zG + (ji17))) (Ywc bU bL) bU (bU.length : Int) bL fR (fR.length : Int) (wrap64 (fN + 1))) = some r := by first | (rw [xO] at H; exact H) | (simp only [xO] at H ⊢; exact H)
     have aWA : (if 5000 < ((rdOf ByteArray.empty fR fN).size : Int) then 5000 else ((rdOf ByteArray.empty fR fN).size : Int)) = ji17 := xO
     have H' := Ya.mk H
     clear H
     have aFh : 0 ≤ (fN : Int) := Km Zc
     have aFi : fN < (fR.length : Int) := Km Zc
     obtain ⟨aYQ, aWB, aMY⟩ := Kd.at_string (Kd.V_reads' HO_47.out).2.2 fN aFh aFi
     cases aWB
     replace aFh := Kp aFh
     replace aFi := Kp aFi
     go_wp2
     go_roundg k2
     case measure => have := cC.out; have := kU.out; omega
     case rel => exact ⟨(wrap64 (zG + (ji17))), (wrap64 (fN + 1)), (by first | rfl | (simp; done) | (simp only [← xO] <;> (first | rfl | simp)) | (simp [*]; done)), Zf, H', ⟨Zpa⟩, ⟨Zva⟩, ⟨by (with_reducible repeat (first | apply Kd.V_alloc | apply Kd.V_drewN | apply Kd.V_drew)); exact HO_47.out⟩, ⟨Zqa⟩, ⟨Zra⟩, ⟨Zsa⟩, ⟨Zta⟩, ⟨Zua⟩, ⟨Zy⟩, ⟨by repeat (first | (with_reducible exact kZ.out) | (with_reducible refine Kd.C_alloc ?_ _) | (with_reducible refine Kd.C_drewN ?_ _) | (with_reducible refine Kd.C_drew ?_) | exact kZ.out)⟩, ⟨Zr⟩⟩
def Yra.l0 : Nat → List (S32) → Int → List (S32) → Int → Int → Option (Bool)
 | 0, _, _, _, _, _ => none
 | k + 1, x0, x5, nG, zW, iR => if iR < zW then (if 0 ≤ iR then (if iR < (nG.length : Int) then ((Yca.f k ((Yj nG iR).f0) ((Yj nG iR).f1) ((Yj nG iR).f2) ((Yj nG iR).f3) ((Yj nG iR).f4) ((Yj nG iR).f5) ((Yj nG iR).f6) ((Yj nG iR).f7) ((Yj nG iR).f8.f0) ((Yj nG iR).f8.f1) ((Yj nG iR).f8.f2) ((Yj nG iR).f9) ((Yj nG iR).f10) ((Yj nG iR).f11) ((Yj nG iR).f12) ((Yj nG iR).f13)).bind fun aCs => (Yra.l0 k x0 (wrap64 (x5 + aCs)) nG zW (wrap64 (iR + 1)))) else (none)) else (none)) else (if x5 > 12000 then (some true) else (some (decide ((x0.length : Int) > 20))))
def Yra.f (k : Nat) (l0 : List (S32)) (l1 : List Y) : Option (Bool) := if 0 ≤ (mn (l0.length : Int) 20) then (if (mn (l0.length : Int) 20) ≤ (l0.length : Int) then ((some (l0.take ((mn (l0.length : Int) 20) : Int).toNat : List (S32))).bind fun aG => (Yra.l0 k l0 (l1.length : Int) aG (aG.length : Int) 0)) else (none)) else (none)
theorem Yra.calls (k : Nat) (A0 : Option Addr) (c0 : Nat) (l0 : List (S32)) (A1 : Option Addr) (c1 : Nat) (l1 : List Y) (r : Bool) (w : World) (hE : EnvOk w) (nD : Kd.C k32 w A0 l0.length l0) (eE : l0.length ≤ c0) (hr1 : Kd.C Kd.string w A1 l1.length l1) (fL : l1.length ≤ c1) (h : Yra.f k l0 l1 = some r) :
  Calls Tryz.prog 5 #[.slice A0 l0.length c0, .slice A1 l1.length c1] w fun e w' => e = .returned (.bool r) ∧ Below w.heap.size w w' := by
 have mT := Tryz.underlying32
 have HR0 := Ya.mk nD
 have HC0 := Ya.mk eE
 clear nD eE
 have rM := Ya.mk hr1
 have HC1 := Ya.mk fL
 clear hr1 fL
 have HE := Ya.mk hE
 clear hE
 have HB := Ya.mk (Below.refl w.heap.size w)
 have H : (if 0 ≤ (mn (l0.length : Int) 20) then (if (mn (l0.length : Int) 20) ≤ (l0.length : Int) then ((some (l0.take ((mn (l0.length : Int) 20) : Int).toNat : List (S32))).bind fun aG => (Yra.l0 k l0 (l1.length : Int) aG (aG.length : Int) 0)) else (none)) else (none)) = some r := h
 clear h
 obtain ⟨ji3, mC⟩ : ∃ j_ : Int, (mn (l0.length : Int) 20) = j_ := ⟨_, rfl⟩
 replace H : (if 0 ≤ (ji3) then (if (ji3) ≤ (l0.length : Int) then ((some (l0.take ((ji3) : Int).toNat : List (S32))).bind fun aG => (Yra.l0 k l0 (l1.length : Int) aG (aG.length : Int) 0)) else (none)) else (none)) = some r := by first | (rw [mC] at H; exact H) | (simp only [mC] at H ⊢; exact H)
 (try (have hji3h : ji3 ≤ 20 := by (rw [← mC]; unfold mn; (repeat' split) <;> omega)))
 (try (have hji3g : ji3 ≤ 64 := by omega))
 (try (have hji3l : 0 ≤ ji3 := by (rw [← mC]; unfold mn; (repeat' split) <;> omega)))
 (try (have hji3m : 0 ≤ ji3 := by omega))
 have aIg : (if 20 < (l0.length : Int) then 20 else (l0.length : Int)) = ji3 := mC
 by_cases c4 : 0 ≤ (ji3)
 rotate_left
 ·rw [if_neg c4] at H
  exact absurd H Zq
 rw [if_pos c4] at H
 have bM := Kp c4
 have jZ : decide (0 ≤ (ji3)) = true := Kn c4
 clear c4
 by_cases c5 : (ji3) ≤ (l0.length : Int)
 rotate_left
 ·rw [if_neg c5] at H
  exact absurd H Zq
 rw [if_pos c5] at H
 have dG := Kp c5
 have oT : decide ((ji3) ≤ (l0.length : Int)) = true := Kn c5
 clear c5
 obtain ⟨aG, rN⟩ : ∃ y_ : List (S32), y_ = (l0.take ((ji3) : Int).toNat) := ⟨_, rfl⟩
 replace H : (Yra.l0 k l0 (l1.length : Int) aG (aG.length : Int) 0) = some r := by first | (rw [rN]; with_reducible exact H) | (have cO := (Kba _ _).symm.trans H; rw [rN]; with_reducible exact cO) | (have cO := (Kba _ _).symm.trans H; with_reducible exact cO) | with_reducible exact H | (rw [rN]; exact H) | exact H
 have aEq := Ya.mk rN
 clear rN
 have H' := Ya.mk H
 clear H
 have q6 : ((ji3) : Int) ≤ ((l0.length : Int) : Int) := Km Zc
 obtain ⟨i06, aIh, _, aWC, _⟩ := info_parts info32
 have aAD : l0.length ≤ c0 := HC0.out
 have hC6 : Kd.C k32 _ A0 l0.length l0 := HR0.out
 have aIi := cut_to (P := Tryz.prog) 22 32 .i64 Tryz.underlying22 aIh A0 l0.length c0 (ji3) (Km Zc) q6 aAD
 have hr6 := Kd.C_take (m := ((ji3) : Int).toNat) hC6 Zj
 have hy6 : aG.length = ((ji3) : Int).toNat := (by rw [aEq.out, List.length_take]; omega)
 rw [← aEq.out] at hr6
 rw [← hy6] at aIi
 have aIj := Ya.mk hr6
 have aYR := Ya.mk (show aG.length ≤ c0 from by omega)
 clear hr6 hC6 aAD aIh aWC
 have KY6 := Ya.mk hy6
 clear hy6
 replace q6 := Kp q6
 go_enter Tryz.func5, Tryz.ntmps5
 go_wp2
 go_loopg [5, 16] k (fun kq v5 v16 w' => ∃ (aI : Int) (aA : Int), v5 = .int .i64 aI ∧ v16 = .int .i64 aA ∧ Ya (Yra.l0 kq l0 aI aG (aG.length : Int) aA = some r) ∧ Ya (kq ≤ k) ∧ Ya (Below w.heap.size w w'))
 case atStart => exact ⟨((l1.length : Int)), (0), Zf, Zf, H', ⟨Ks _⟩, ⟨Za⟩⟩
 case round =>
  clear H'
  try clear c1
  try clear p2
  try clear c4
  try clear bM
  try clear jZ
  try clear c5
  try clear dG
  try clear oT
  try clear q6
  try clear q6
  obtain ⟨aI, aA, rfl, rfl, HA, cC, HB⟩ := hrel
  cases gk with
  | zero => exact absurd HA.out (by simp [Yra.l0])
  | succ k1 =>
   have H := HA.out
   clear HA
   simp only [Yra.l0] at H
   by_cases c7 : aA < (aG.length : Int)
   rotate_left
   ·rw [if_neg c7] at H
    have cM : decide (aA < (aG.length : Int)) = false := Ko c7
    clear c7
    by_cases dF : aI > 12000
    ·rw [if_pos dF] at H
     have gD : decide (12000 < aI) = true := Kn dF
     clear dF
     obtain rfl := Kr H
     go_wp2
     go_ret
     exact ⟨by first | rfl | (simp [Ym, Yl] <;> rfl) | (simp only [← mC]; first | rfl | (simp [Ym, Yl] <;> rfl)) | (simp [*, Ym, Yl] <;> rfl), Za⟩
    rw [if_neg dF] at H
    have gD : decide (12000 < aI) = false := Ko dF
    clear dF
    obtain rfl := Kr H
    go_wp2
    go_ret
    exact ⟨by first | rfl | (simp [Ym, Yl] <;> rfl) | (simp only [← mC]; first | rfl | (simp [Ym, Yl] <;> rfl)) | (simp [*, Ym, Yl] <;> rfl), Za⟩
   rw [if_pos c7] at H
   have cM : decide (aA < (aG.length : Int)) = true := Kn c7
   clear c7
   by_cases c8 : 0 ≤ aA
   rotate_left
   ·rw [if_neg c8] at H
    exact absurd H Zq
   rw [if_pos c8] at H
   have fS : decide (0 ≤ aA) = true := Kn c8
   clear c8
   by_cases c9 : aA < (aG.length : Int)
   rotate_left
   ·rw [if_neg c9] at H
    exact absurd H Zq
   rw [if_pos c9] at H
   have gN : decide (aA < (aG.length : Int)) = true := Kn c9
   clear c9
   obtain ⟨aCs, rO, H⟩ := Kq H
   try dsimp -simprocs only at H
   have gE := Ya.mk rO
   clear rO
   have H' := Ya.mk H
   clear H
   have aFj : 0 ≤ (aA : Int) := Km Zc
   have aFk : aA < (aG.length : Int) := Km Zc
   obtain ⟨aYS, gO, gP, hG, hH, iY, iZ, jR, jS, lB, lC, aWD, pY, pZ, qA, qB, qC, qD, qE, qF, qG, qH, nN, nO, nP, nQ, nR, nS, rP, rQ, rR, rS, rT, rU, rV, rW, rX, rY⟩ := at_T32 aIj.out aA aFj aFk
   cases aWD
   replace pY := (HB.out.cell (World.block_lt_of_cell? w _ pY)).trans pY
   replace pZ := (HB.out.cell (World.block_lt_of_cell? w _ pZ)).trans pZ
   replace qA := (HB.out.cell (World.block_lt_of_cell? w _ qA)).trans qA
   replace qB := (HB.out.cell (World.block_lt_of_cell? w _ qB)).trans qB
   replace qC := (HB.out.cell (World.block_lt_of_cell? w _ qC)).trans qC
   replace qD := (HB.out.cell (World.block_lt_of_cell? w _ qD)).trans qD
   replace qE := (HB.out.cell (World.block_lt_of_cell? w _ qE)).trans qE
   replace qF := (HB.out.cell (World.block_lt_of_cell? w _ qF)).trans qF
   replace qG := (HB.out.cell (World.block_lt_of_cell? w _ qG)).trans qG
   replace qH := (HB.out.cell (World.block_lt_of_cell? w _ qH)).trans qH
   replace nN := (HB.out.cell (World.block_lt_of_cell? w _ nN)).trans nN
   replace nO := (HB.out.cell (World.block_lt_of_cell? w _ nO)).trans nO
   replace nP := (HB.out.cell (World.block_lt_of_cell? w _ nP)).trans nP
   replace nQ := (HB.out.cell (World.block_lt_of_cell? w _ nQ)).trans nQ
   replace nR := (HB.out.cell (World.block_lt_of_cell? w _ nR)).trans nR
   replace nS := (HB.out.cell (World.block_lt_of_cell? w _ nS)).trans nS
   have aAE := Ya.mk rQ
   have aAF := Ya.mk rP
   clear rQ rP
   have aAG := Ya.mk rS
   have aAH := Ya.mk rR
   clear rS rR
   have aAI := Ya.mk rU
   have aAJ := Ya.mk rT
   clear rU rT
   have aAK := Ya.mk rW
   have aAL := Ya.mk rV
   clear rW rV
   have aAM := Ya.mk rY
   have aAN := Ya.mk rX
   clear rY rX
   replace aFj := Kp aFj
   replace aFk := Kp aFk
   go_wp2_with (first | ((with_reducible refine Ybd (N := 7) rfl ?_); (try (refine Yah Zda ?_; dsimp only)); refine Ytd ?hg (N := 7) ?hd (cs := #[.string (⟨#[]⟩ : Y), .string (⟨#[]⟩ : Y), .string (⟨#[]⟩ : Y), .string (⟨#[]⟩ : Y), .string (⟨#[]⟩ : Y), .string (⟨#[]⟩ : Y), .int .i64 0, .bool false, .string (⟨#[]⟩ : Y), .string (⟨#[]⟩ : Y), .string (⟨#[]⟩ : Y), .slice none 0 0, .slice none 0 0, .slice none 0 0, .slice none 0 0, .slice none 0 0]) (t := 32) ?hr ?_; (case hd => rfl); (case hg => rfl); (case hr => first | (go_simp; done) | (go_simp; rfl)); intro bF hg mV hbox hb; have aJ := Ya.mk (Ys Za hb); have aU := Ya.mk (hbox); have bE := Ya.mk ((by rw [hg]; exact (Yna Za) : w.heap.size ≤ bF)); have gS := Ya.mk ((by rw [hg]; exact (Yna Za) : w.heap.size ≤ bF)); clear HB; have HB := aJ; have bA := aU; have aYT := bE; have aHP := gS; clear aJ aU bE gS; clear hb hbox hg; have aCu : mV.cell? ⟨bF, 0, none⟩ = some (.string (⟨#[]⟩ : Y)) := (Yf bA.out 0).trans rfl; have aCv : mV.cell? ⟨bF, 1, none⟩ = some (.string (⟨#[]⟩ : Y)) := (Yf bA.out 1).trans rfl; have aCw : mV.cell? ⟨bF, 2, none⟩ = some (.string (⟨#[]⟩ : Y)) := (Yf bA.out 2).trans rfl; have aCx : mV.cell? ⟨bF, 3, none⟩ = some (.string (⟨#[]⟩ : Y)) := (Yf bA.out 3).trans rfl; have aCy : mV.cell? ⟨bF, 4, none⟩ = some (.string (⟨#[]⟩ : Y)) := (Yf bA.out 4).trans rfl; have aCz : mV.cell? ⟨bF, 5, none⟩ = some (.string (⟨#[]⟩ : Y)) := (Yf bA.out 5).trans rfl; have aCA : mV.cell? ⟨bF, 6, none⟩ = some (.int .i64 0) := (Yf bA.out 6).trans rfl; have aCB : mV.cell? ⟨bF, 7, none⟩ = some (.bool false) := (Yf bA.out 7).trans rfl; have aCC : mV.cell? ⟨bF, 8, none⟩ = some (.string (⟨#[]⟩ : Y)) := (Yf bA.out 8).trans rfl; have aMZ : mV.cell? ⟨bF, 9, none⟩ = some (.string (⟨#[]⟩ : Y)) := (Yf bA.out 9).trans rfl; have aIk : mV.cell? ⟨bF, 10, none⟩ = some (.string (⟨#[]⟩ : Y)) := (Yf bA.out 10).trans rfl; have aIl : mV.cell? ⟨bF, 11, none⟩ = some (.slice none 0 0) := (Yf bA.out 11).trans rfl; have aIm : mV.cell? ⟨bF, 12, none⟩ = some (.slice none 0 0) := (Yf bA.out 12).trans rfl; have aIn : mV.cell? ⟨bF, 13, none⟩ = some (.slice none 0 0) := (Yf bA.out 13).trans rfl; have aIo : mV.cell? ⟨bF, 14, none⟩ = some (.slice none 0 0) := (Yf bA.out 14).trans rfl; have aIp : mV.cell? ⟨bF, 15, none⟩ = some (.slice none 0 0) := (Yf bA.out 15).trans rfl; obtain ⟨aCD, aCE, aCF, aCG, aCH, aCI, aCJ, aCK⟩ := Ke bA.out; have aCL := Ye bA.out 8; have aNa := Ye bA.out 9; have aIq := Ye bA.out 10; have aIr := Ye bA.out 11; have aIs := Ye bA.out 12; have aIt := Ye bA.out 13; have aIu := Ye bA.out 14; have aIv := Ye bA.out 15) | ((with_reducible refine Ynb (t := 32) (p := 7) rfl ?_); refine Ylr (t := 32) (p := 7) (v := ?vo_w13) (w1 := ((((((((((((((((mV.setCell ⟨bF, 0, none⟩ (.string ((Yj aG aA).f0))).setCell ⟨bF, 1, none⟩ (.string ((Yj aG aA).f1))).setCell ⟨bF, 2, none⟩ (.string ((Yj aG aA).f2))).setCell ⟨bF, 3, none⟩ (.string ((Yj aG aA).f3))).setCell ⟨bF, 4, none⟩ (.string ((Yj aG aA).f4))).setCell ⟨bF, 5, none⟩ (.string ((Yj aG aA).f5))).setCell ⟨bF, 6, none⟩ (.int .i64 ((Yj aG aA).f6))).setCell ⟨bF, 7, none⟩ (.bool ((Yj aG aA).f7))).setCell ⟨bF, 8, none⟩ (.string ((Yj aG aA).f8.f0))).setCell ⟨bF, 9, none⟩ (.string ((Yj aG aA).f8.f1))).setCell ⟨bF, 10, none⟩ (.string ((Yj aG aA).f8.f2))).setCell ⟨bF, 11, none⟩ (.slice gO ((Yj aG aA).f9).length gP)).setCell ⟨bF, 12, none⟩ (.slice hG ((Yj aG aA).f10).length hH)).setCell ⟨bF, 13, none⟩ (.slice iY ((Yj aG aA).f11).length iZ)).setCell ⟨bF, 14, none⟩ (.slice jR ((Yj aG aA).f12).length jS)).setCell ⟨bF, 15, none⟩ (.slice lB ((Yj aG aA).f13).length lC))) ?hg ?ho ?hn ?hr ?_; (case ho => rfl); (case hg => rfl); (case hn => rfl); (case hr => first | (go_simp; done) | (go_simp; rfl)); intro mW hw; have aJ : Ya (mW.heap[bF]? = some (.cells #[.string ((Yj aG aA).f0), .string ((Yj aG aA).f1), .string ((Yj aG aA).f2), .string ((Yj aG aA).f3), .string ((Yj aG aA).f4), .string ((Yj aG aA).f5), .int .i64 ((Yj aG aA).f6), .bool ((Yj aG aA).f7), .string ((Yj aG aA).f8.f0), .string ((Yj aG aA).f8.f1), .string ((Yj aG aA).f8.f2), .slice gO ((Yj aG aA).f9).length gP, .slice hG ((Yj aG aA).f10).length hH, .slice iY ((Yj aG aA).f11).length iZ, .slice jR ((Yj aG aA).f12).length jS, .slice lB ((Yj aG aA).f13).length lC] 32 (0, 0))) := ⟨(by rw [hw]; exact (by (with_reducible repeat (first | refine Yba ?_ _ | refine Yma ?_ | refine Yja ?_ _)); refine Yeb (cs := #[.string ((Yj aG aA).f0), .string ((Yj aG aA).f1), .string ((Yj aG aA).f2), .string ((Yj aG aA).f3), .string ((Yj aG aA).f4), .string ((Yj aG aA).f5), .int .i64 ((Yj aG aA).f6), .bool ((Yj aG aA).f7), .string ((Yj aG aA).f8.f0), .string ((Yj aG aA).f8.f1), .string ((Yj aG aA).f8.f2), .slice gO ((Yj aG aA).f9).length gP, .slice hG ((Yj aG aA).f10).length hH, .slice iY ((Yj aG aA).f11).length iZ, .slice jR ((Yj aG aA).f12).length jS, .slice none 0 0]) ?_ 15 _ rfl; (with_reducible repeat (first | refine Yba ?_ _ | refine Yma ?_ | refine Yja ?_ _)); refine Yeb (cs := #[.string ((Yj aG aA).f0), .string ((Yj aG aA).f1), .string ((Yj aG aA).f2), .string ((Yj aG aA).f3), .string ((Yj aG aA).f4), .string ((Yj aG aA).f5), .int .i64 ((Yj aG aA).f6), .bool ((Yj aG aA).f7), .string ((Yj aG aA).f8.f0), .string ((Yj aG aA).f8.f1), .string ((Yj aG aA).f8.f2), .slice gO ((Yj aG aA).f9).length gP, .slice hG ((Yj aG aA).f10).length hH, .slice iY ((Yj aG aA).f11).length iZ, .slice none 0 0, .slice none 0 0]) ?_ 14 _ rfl; (with_reducible repeat (first | refine Yba ?_ _ | refine Yma ?_ | refine Yja ?_ _)); refine Yeb (cs := #[.string ((Yj aG aA).f0), .string ((Yj aG aA).f1), .string ((Yj aG aA).f2), .string ((Yj aG aA).f3), .string ((Yj aG aA).f4), .string ((Yj aG aA).f5), .int .i64 ((Yj aG aA).f6), .bool ((Yj aG aA).f7), .string ((Yj aG aA).f8.f0), .string ((Yj aG aA).f8.f1), .string ((Yj aG aA).f8.f2), .slice gO ((Yj aG aA).f9).length gP, .slice hG ((Yj aG aA).f10).length hH, .slice none 0 0, .slice none 0 0, .slice none 0 0]) ?_ 13 _ rfl; (with_reducible repeat (first | refine Yba ?_ _ | refine Yma ?_ | refine Yja ?_ _)); refine Yeb (cs := #[.string ((Yj aG aA).f0), .string ((Yj aG aA).f1), .string ((Yj aG aA).f2), .string ((Yj aG aA).f3), .string ((Yj aG aA).f4), .string ((Yj aG aA).f5), .int .i64 ((Yj aG aA).f6), .bool ((Yj aG aA).f7), .string ((Yj aG aA).f8.f0), .string ((Yj aG aA).f8.f1), .string ((Yj aG aA).f8.f2), .slice gO ((Yj aG aA).f9).length gP, .slice none 0 0, .slice none 0 0, .slice none 0 0, .slice none 0 0]) ?_ 12 _ rfl; (with_reducible repeat (first | refine Yba ?_ _ | refine Yma ?_ | refine Yja ?_ _)); refine Yeb (cs := #[.string ((Yj aG aA).f0), .string ((Yj aG aA).f1), .string ((Yj aG aA).f2), .string ((Yj aG aA).f3), .string ((Yj aG aA).f4), .string ((Yj aG aA).f5), .int .i64 ((Yj aG aA).f6), .bool ((Yj aG aA).f7), .string ((Yj aG aA).f8.f0), .string ((Yj aG aA).f8.f1), .string ((Yj aG aA).f8.f2), .slice none 0 0, .slice none 0 0, .slice none 0 0, .slice none 0 0, .slice none 0 0]) ?_ 11 _ rfl; (with_reducible repeat (first | refine Yba ?_ _ | refine Yma ?_ | refine Yja ?_ _)); refine Yeb (cs := #[.string ((Yj aG aA).f0), .string ((Yj aG aA).f1), .string ((Yj aG aA).f2), .string ((Yj aG aA).f3), .string ((Yj aG aA).f4), .string ((Yj aG aA).f5), .int .i64 ((Yj aG aA).f6), .bool ((Yj aG aA).f7), .string ((Yj aG aA).f8.f0), .string ((Yj aG aA).f8.f1), .string (⟨#[]⟩ : Y), .slice none 0 0, .slice none 0 0, .slice none 0 0, .slice none 0 0, .slice none 0 0]) ?_ 10 _ rfl; (with_reducible repeat (first | refine Yba ?_ _ | refine Yma ?_ | refine Yja ?_ _)); refine Yeb (cs := #[.string ((Yj aG aA).f0), .string ((Yj aG aA).f1), .string ((Yj aG aA).f2), .string ((Yj aG aA).f3), .string ((Yj aG aA).f4), .string ((Yj aG aA).f5), .int .i64 ((Yj aG aA).f6), .bool ((Yj aG aA).f7), .string ((Yj aG aA).f8.f0), .string (⟨#[]⟩ : Y), .string (⟨#[]⟩ : Y), .slice none 0 0, .slice none 0 0, .slice none 0 0, .slice none 0 0, .slice none 0 0]) ?_ 9 _ rfl; (with_reducible repeat (first | refine Yba ?_ _ | refine Yma ?_ | refine Yja ?_ _)); refine Yeb (cs := #[.string ((Yj aG aA).f0), .string ((Yj aG aA).f1), .string ((Yj aG aA).f2), .string ((Yj aG aA).f3), .string ((Yj aG aA).f4), .string ((Yj aG aA).f5), .int .i64 ((Yj aG aA).f6), .bool ((Yj aG aA).f7), .string (⟨#[]⟩ : Y), .string (⟨#[]⟩ : Y), .string (⟨#[]⟩ : Y), .slice none 0 0, .slice none 0 0, .slice none 0 0, .slice none 0 0, .slice none 0 0]) ?_ 8 _ rfl; (with_reducible repeat (first | refine Yba ?_ _ | refine Yma ?_ | refine Yja ?_ _)); refine Yeb (cs := #[.string ((Yj aG aA).f0), .string ((Yj aG aA).f1), .string ((Yj aG aA).f2), .string ((Yj aG aA).f3), .string ((Yj aG aA).f4), .string ((Yj aG aA).f5), .int .i64 ((Yj aG aA).f6), .bool false, .string (⟨#[]⟩ : Y), .string (⟨#[]⟩ : Y), .string (⟨#[]⟩ : Y), .slice none 0 0, .slice none 0 0, .slice none 0 0, .slice none 0 0, .slice none 0 0]) ?_ 7 _ rfl; (with_reducible repeat (first | refine Yba ?_ _ | refine Yma ?_ | refine Yja ?_ _)); refine Yeb (cs := #[.string ((Yj aG aA).f0), .string ((Yj aG aA).f1), .string ((Yj aG aA).f2), .string ((Yj aG aA).f3), .string ((Yj aG aA).f4), .string ((Yj aG aA).f5), .int .i64 0, .bool false, .string (⟨#[]⟩ : Y), .string (⟨#[]⟩ : Y), .string (⟨#[]⟩ : Y), .slice none 0 0, .slice none 0 0, .slice none 0 0, .slice none 0 0, .slice none 0 0]) ?_ 6 _ rfl; (with_reducible repeat (first | refine Yba ?_ _ | refine Yma ?_ | refine Yja ?_ _)); refine Yeb (cs := #[.string ((Yj aG aA).f0), .string ((Yj aG aA).f1), .string ((Yj aG aA).f2), .string ((Yj aG aA).f3), .string ((Yj aG aA).f4), .string (⟨#[]⟩ : Y), .int .i64 0, .bool false, .string (⟨#[]⟩ : Y), .string (⟨#[]⟩ : Y), .string (⟨#[]⟩ : Y), .slice none 0 0, .slice none 0 0, .slice none 0 0, .slice none 0 0, .slice none 0 0]) ?_ 5 _ rfl; (with_reducible repeat (first | refine Yba ?_ _ | refine Yma ?_ | refine Yja ?_ _)); refine Yeb (cs := #[.string ((Yj aG aA).f0), .string ((Yj aG aA).f1), .string ((Yj aG aA).f2), .string ((Yj aG aA).f3), .string (⟨#[]⟩ : Y), .string (⟨#[]⟩ : Y), .int .i64 0, .bool false, .string (⟨#[]⟩ : Y), .string (⟨#[]⟩ : Y), .string (⟨#[]⟩ : Y), .slice none 0 0, .slice none 0 0, .slice none 0 0, .slice none 0 0, .slice none 0 0]) ?_ 4 _ rfl; (with_reducible repeat (first | refine Yba ?_ _ | refine Yma ?_ | refine Yja ?_ _)); refine Yeb (cs := #[.string ((Yj aG aA).f0), .string ((Yj aG aA).f1), .string ((Yj aG aA).f2), .string (⟨#[]⟩ : Y), .string (⟨#[]⟩ : Y), .string (⟨#[]⟩ : Y), .int .i64 0, .bool false, .string (⟨#[]⟩ : Y), .string (⟨#[]⟩ : Y), .string (⟨#[]⟩ : Y), .slice none 0 0, .slice none 0 0, .slice none 0 0, .slice none 0 0, .slice none 0 0]) ?_ 3 _ rfl; (with_reducible repeat (first | refine Yba ?_ _ | refine Yma ?_ | refine Yja ?_ _)); refine Yeb (cs := #[.string ((Yj aG aA).f0), .string ((Yj aG aA).f1), .string (⟨#[]⟩ : Y), .string (⟨#[]⟩ : Y), .string (⟨#[]⟩ : Y), .string (⟨#[]⟩ : Y), .int .i64 0, .bool false, .string (⟨#[]⟩ : Y), .string (⟨#[]⟩ : Y), .string (⟨#[]⟩ : Y), .slice none 0 0, .slice none 0 0, .slice none 0 0, .slice none 0 0, .slice none 0 0]) ?_ 2 _ rfl; (with_reducible repeat (first | refine Yba ?_ _ | refine Yma ?_ | refine Yja ?_ _)); refine Yeb (cs := #[.string ((Yj aG aA).f0), .string (⟨#[]⟩ : Y), .string (⟨#[]⟩ : Y), .string (⟨#[]⟩ : Y), .string (⟨#[]⟩ : Y), .string (⟨#[]⟩ : Y), .int .i64 0, .bool false, .string (⟨#[]⟩ : Y), .string (⟨#[]⟩ : Y), .string (⟨#[]⟩ : Y), .slice none 0 0, .slice none 0 0, .slice none 0 0, .slice none 0 0, .slice none 0 0]) ?_ 1 _ rfl; (with_reducible repeat (first | refine Yba ?_ _ | refine Yma ?_ | refine Yja ?_ _)); refine Yeb (cs := #[.string (⟨#[]⟩ : Y), .string (⟨#[]⟩ : Y), .string (⟨#[]⟩ : Y), .string (⟨#[]⟩ : Y), .string (⟨#[]⟩ : Y), .string (⟨#[]⟩ : Y), .int .i64 0, .bool false, .string (⟨#[]⟩ : Y), .string (⟨#[]⟩ : Y), .string (⟨#[]⟩ : Y), .slice none 0 0, .slice none 0 0, .slice none 0 0, .slice none 0 0, .slice none 0 0]) ?_ 0 _ rfl; (with_reducible repeat (first | refine Yba ?_ _ | refine Yma ?_ | refine Yja ?_ _)); exact bA.out))⟩; have aU : Ya (Below w.heap.size w mW) := ⟨(by rw [hw]; exact Zs)⟩; clear hw; clear bA; clear HB; have bA := aJ; have HB := aU; clear aJ aU; have aNb : mW.cell? ⟨bF, 0, none⟩ = some (.string ((Yj aG aA).f0)) := (Yf bA.out 0).trans rfl; have aNc : mW.cell? ⟨bF, 1, none⟩ = some (.string ((Yj aG aA).f1)) := (Yf bA.out 1).trans rfl; have aNd : mW.cell? ⟨bF, 2, none⟩ = some (.string ((Yj aG aA).f2)) := (Yf bA.out 2).trans rfl; have aNe : mW.cell? ⟨bF, 3, none⟩ = some (.string ((Yj aG aA).f3)) := (Yf bA.out 3).trans rfl; have aNf : mW.cell? ⟨bF, 4, none⟩ = some (.string ((Yj aG aA).f4)) := (Yf bA.out 4).trans rfl; have aNg : mW.cell? ⟨bF, 5, none⟩ = some (.string ((Yj aG aA).f5)) := (Yf bA.out 5).trans rfl; have aNh : mW.cell? ⟨bF, 6, none⟩ = some (.int .i64 ((Yj aG aA).f6)) := (Yf bA.out 6).trans rfl; have aNi : mW.cell? ⟨bF, 7, none⟩ = some (.bool ((Yj aG aA).f7)) := (Yf bA.out 7).trans rfl; have aNj : mW.cell? ⟨bF, 8, none⟩ = some (.string ((Yj aG aA).f8.f0)) := (Yf bA.out 8).trans rfl; have aNk : mW.cell? ⟨bF, 9, none⟩ = some (.string ((Yj aG aA).f8.f1)) := (Yf bA.out 9).trans rfl; have aIw : mW.cell? ⟨bF, 10, none⟩ = some (.string ((Yj aG aA).f8.f2)) := (Yf bA.out 10).trans rfl; have aIx : mW.cell? ⟨bF, 11, none⟩ = some (.slice gO ((Yj aG aA).f9).length gP) := (Yf bA.out 11).trans rfl; have aIy : mW.cell? ⟨bF, 12, none⟩ = some (.slice hG ((Yj aG aA).f10).length hH) := (Yf bA.out 12).trans rfl; have aIz : mW.cell? ⟨bF, 13, none⟩ = some (.slice iY ((Yj aG aA).f11).length iZ) := (Yf bA.out 13).trans rfl; have aIA : mW.cell? ⟨bF, 14, none⟩ = some (.slice jR ((Yj aG aA).f12).length jS) := (Yf bA.out 14).trans rfl; have aIB : mW.cell? ⟨bF, 15, none⟩ = some (.slice lB ((Yj aG aA).f13).length lC) := (Yf bA.out 15).trans rfl; obtain ⟨aNl, aNm, aNn, aNo, aNp, aNq, aNr, aNs⟩ := Ke bA.out; have aNt := Ye bA.out 8; have aNu := Ye bA.out 9; have aIC := Ye bA.out 10; have aID := Ye bA.out 11; have aIE := Ye bA.out 12; have aIF := Ye bA.out 13; have aIG := Ye bA.out 14; have aIH := Ye bA.out 15) | ((with_reducible refine Yh (f := 18) rfl ?_); refine Yy (some 22) rfl rfl Tryz.func18 Zi rfl #[.agg #[.string ((Yj aG aA).f0), .string ((Yj aG aA).f1), .string ((Yj aG aA).f2), .string ((Yj aG aA).f3), .string ((Yj aG aA).f4), .string ((Yj aG aA).f5), .int .i64 ((Yj aG aA).f6), .bool ((Yj aG aA).f7), .string ((Yj aG aA).f8.f0), .string ((Yj aG aA).f8.f1), .string ((Yj aG aA).f8.f2), .slice gO ((Yj aG aA).f9).length gP, .slice hG ((Yj aG aA).f10).length hH, .slice iY ((Yj aG aA).f11).length iZ, .slice jR ((Yj aG aA).f12).length jS, .slice lB ((Yj aG aA).f13).length lC]] rfl Zb ?_; (with_reducible refine (Yca.calls k1 ((Yj aG aA).f0) ((Yj aG aA).f1) ((Yj aG aA).f2) ((Yj aG aA).f3) ((Yj aG aA).f4) ((Yj aG aA).f5) ((Yj aG aA).f6) ((Yj aG aA).f7) ((Yj aG aA).f8.f0) ((Yj aG aA).f8.f1) ((Yj aG aA).f8.f2) (fun k_ => k_ < w.heap.size) _ _ ((Yj aG aA).f9) (fun k_ => k_ < w.heap.size) _ _ ((Yj aG aA).f10) (fun k_ => k_ < w.heap.size) _ _ ((Yj aG aA).f11) (fun k_ => k_ < w.heap.size) _ _ ((Yj aG aA).f12) (fun k_ => k_ < w.heap.size) _ _ ((Yj aG aA).f13) aCs _ ?z1 ?z2 ?z3 ?z4 ?z5 ?z6 gE.out).mono ?_); (case z1 => first | exact HE.out | exact EnvOk.below HE.out Zs); (case z2 => exact Kd.V_mk aAF.out (Kd.F_below (Kd.C_F Kd.heap_string aAE.out) Zs)); (case z3 => exact Kd.V_mk aAH.out (Kd.F_below (Kd.C_F Kd.heap_string aAG.out) Zs)); (case z4 => exact Kd.V_mk aAJ.out (Kd.F_below (Kd.C_F Kd.heap_string aAI.out) Zs)); (case z5 => exact Kd.V_mk aAL.out (Kd.F_below (Kd.C_F Kd.heap_string aAK.out) Zs)); (case z6 => exact Kd.V_mk aAN.out (Kd.F_below (Kd.C_F Kd.heap_string aAM.out) Zs)); rintro e w15 ⟨rfl, hb⟩; refine ⟨_, rfl, ?_⟩; have aJ := Ya.mk (Yue (g := bF) (o := .cells #[.string ((Yj aG aA).f0), .string ((Yj aG aA).f1), .string ((Yj aG aA).f2), .string ((Yj aG aA).f3), .string ((Yj aG aA).f4), .string ((Yj aG aA).f5), .int .i64 ((Yj aG aA).f6), .bool ((Yj aG aA).f7), .string ((Yj aG aA).f8.f0), .string ((Yj aG aA).f8.f1), .string ((Yj aG aA).f8.f2), .slice gO ((Yj aG aA).f9).length gP, .slice hG ((Yj aG aA).f10).length hH, .slice iY ((Yj aG aA).f11).length iZ, .slice jR ((Yj aG aA).f12).length jS, .slice lB ((Yj aG aA).f13).length lC] 32 (0, 0)) (by (with_reducible repeat (first | refine Yba ?_ _ | refine Yma ?_ | refine Yja ?_ _)); exact bA.out) hb); have aU := Ya.mk (Ys Zs hb); clear bA; clear HB; have bA := aJ; have HB := aU; clear aJ aU; (try clear hb)))
   go_roundg k1
   case measure => have := cC.out; omega
   case rel => exact ⟨(wrap64 (aI + aCs)), (wrap64 (aA + 1)), Zf, Zf, H', ⟨Zu⟩, ⟨Zs⟩⟩
def Yib.f (a0 : Int) : Option (Bool) := some (decide ((((Go.bits .or .u8 a0 32) - 97) % 256) < 26))
theorem Yib.calls (a0 : Int) (r : Bool) (w : World) (hE : EnvOk w) (h : Yib.f a0 = some r) :
  Calls Tryz.prog 68 #[.int .u8 a0] w fun e w' => e = .returned (.bool r) ∧ Drawn0 w w' := by
 have HE := Ya.mk hE
 clear hE
 have H : (some (decide ((((Go.bits .or .u8 a0 32) - 97) % 256) < 26))) = some r := h
 clear h
 obtain rfl := Kr H
 go_enter Tryz.func68, Tryz.ntmps68
 go_wp2
 go_ret
 exact ⟨Zf, Zh⟩
def Ysa.f (a0 : Int) : Option (Bool) := some (decide (((a0 - 48) % 256) < 10))
theorem Ysa.calls (a0 : Int) (r : Bool) (w : World) (hE : EnvOk w) (h : Ysa.f a0 = some r) :
  Calls Tryz.prog 69 #[.int .u8 a0] w fun e w' => e = .returned (.bool r) ∧ Drawn0 w w' := by
 have HE := Ya.mk hE
 clear hE
 have H : (some (decide (((a0 - 48) % 256) < 10))) = some r := h
 clear h
 obtain rfl := Kr H
 go_enter Tryz.func69, Tryz.ntmps69
 go_wp2
 go_ret
 exact ⟨Zf, Zh⟩
def Ycg.f (a0 : Int) : Option (Int) := if ((a0 - 65) % 256) < 26 then (some (Go.bits .or .u8 a0 32)) else (some a0)
theorem Ycg.calls (a0 r : Int) (w : World) (hE : EnvOk w) (h : Ycg.f a0 = some r) :
  Calls Tryz.prog 95 #[.int .u8 a0] w fun e w' => e = .returned (.int .u8 r) ∧ Drawn0 w w' := by
 have HE := Ya.mk hE
 clear hE
 have H : (if ((a0 - 65) % 256) < 26 then (some (Go.bits .or .u8 a0 32)) else (some a0)) = some r := h
 clear h
 by_cases c2 : ((a0 - 65) % 256) < 26
 ·rw [if_pos c2] at H
  have dS : decide (((a0 - 65) % 256) < 26) = true := Kn c2
  clear c2
  obtain rfl := Kr H
  go_enter Tryz.func95, Tryz.ntmps95
  go_wp2
  go_ret
  exact ⟨Zf, Zh⟩
 rw [if_neg c2] at H
 have dS : decide (((a0 - 65) % 256) < 26) = false := Ko c2
 clear c2
 obtain rfl := Kr H
 go_enter Tryz.func95, Tryz.ntmps95
 go_wp2
 go_ret
 exact ⟨Zf, Zh⟩
def Yrf.f (a0 : Int) : Option (Int × Bool) := (Ycg.f a0).bind fun t119 => ((Ysa.f t119).bind fun aAO => (if aAO = true then (some ((t119 - 48) % 256, true)) else (if ((t119 - 97) % 256) < 6 then (some (((t119 - 97) % 256) + 10, true)) else (some (0, false)))))
theorem Yrf.calls (a0 r1 : Int) (r2 : Bool) (w : World) (hE : EnvOk w) (h : Yrf.f a0 = some (r1, r2)) :
  Calls Tryz.prog 138 #[.int .u8 a0] w fun e w' => e = .returned (.tuple #[.int .u32 r1, .bool r2]) ∧ Drawn0 w w' := by
 have HE := Ya.mk hE
 clear hE
 have H : ((Ycg.f a0).bind fun t119 => ((Ysa.f t119).bind fun aAO => (if aAO = true then (some ((t119 - 48) % 256, true)) else (if ((t119 - 97) % 256) < 6 then (some (((t119 - 97) % 256) + 10, true)) else (some (0, false)))))) = some (r1, r2) := h
 clear h
 obtain ⟨t119, dX, H⟩ := Kq H
 try dsimp -simprocs only at H
 have A2 := Ya.mk dX
 clear dX
 obtain ⟨aAO, pF, H⟩ := Kq H
 try dsimp -simprocs only at H
 have A3 := Ya.mk pF
 clear pF
 by_cases c4 : aAO = true
 ·subst c4
  rw [if_pos rfl] at H
  simp only [Kz, Kaa] at H
  obtain ⟨rfl, rfl⟩ := H
  go_enter Tryz.func138, Tryz.ntmps138
  go_wp2_with (first | ((with_reducible refine Yh (f := 95) rfl ?_); refine Yy (some 5) rfl rfl Tryz.func95 Zi rfl #[.int .u8 a0] rfl Zb ?_; (with_reducible refine (Ycg.calls a0 t119 _ ?z1 A2.out).mono ?_); (case z1 => exact Kg); rintro e w' ⟨rfl, ⟨nd, rfl⟩⟩; refine ⟨_, rfl, ?_⟩) | ((with_reducible refine Yh (f := 69) rfl ?_); refine Yy (some 8) rfl rfl Tryz.func69 Zi rfl #[.int .u8 t119] rfl Zb ?_; (with_reducible refine (Ysa.calls t119 true _ ?z1 A3.out).mono ?_); (case z1 => exact Kg); rintro e w' ⟨rfl, ⟨nd, rfl⟩⟩; refine ⟨_, rfl, ?_⟩))
  go_ret2
  exact ⟨Zf, Zh⟩
 replace c4 := Kt c4
 subst c4
 rw [if_neg (show ¬ (false = true) by decide)] at H
 by_cases c5 : ((t119 - 97) % 256) < 6
 ·rw [if_pos c5] at H
  have dG : decide (((t119 - 97) % 256) < 6) = true := Kn c5
  clear c5
  simp only [Kz, Kaa] at H
  obtain ⟨rfl, rfl⟩ := H
  go_enter Tryz.func138, Tryz.ntmps138
  go_wp2_with (first | ((with_reducible refine Yh (f := 95) rfl ?_); refine Yy (some 5) rfl rfl Tryz.func95 Zi rfl #[.int .u8 a0] rfl Zb ?_; (with_reducible refine (Ycg.calls a0 t119 _ ?z1 A2.out).mono ?_); (case z1 => exact Kg); rintro e w' ⟨rfl, ⟨nd, rfl⟩⟩; refine ⟨_, rfl, ?_⟩) | ((with_reducible refine Yh (f := 69) rfl ?_); refine Yy (some 8) rfl rfl Tryz.func69 Zi rfl #[.int .u8 t119] rfl Zb ?_; (with_reducible refine (Ysa.calls t119 false _ ?z1 A3.out).mono ?_); (case z1 => exact Kg); rintro e w' ⟨rfl, ⟨nd, rfl⟩⟩; refine ⟨_, rfl, ?_⟩))
  go_ret2
  exact ⟨Zf, Zh⟩
 rw [if_neg c5] at H
 have dG : decide (((t119 - 97) % 256) < 6) = false := Ko c5
 clear c5
 simp only [Kz, Kaa] at H
 obtain ⟨rfl, rfl⟩ := H
 go_enter Tryz.func138, Tryz.ntmps138
 go_wp2_with (first | ((with_reducible refine Yh (f := 95) rfl ?_); refine Yy (some 5) rfl rfl Tryz.func95 Zi rfl #[.int .u8 a0] rfl Zb ?_; (with_reducible refine (Ycg.calls a0 t119 _ ?z1 A2.out).mono ?_); (case z1 => exact Kg); rintro e w' ⟨rfl, ⟨nd, rfl⟩⟩; refine ⟨_, rfl, ?_⟩) | ((with_reducible refine Yh (f := 69) rfl ?_); refine Yy (some 8) rfl rfl Tryz.func69 Zi rfl #[.int .u8 t119] rfl Zb ?_; (with_reducible refine (Ysa.calls t119 false _ ?z1 A3.out).mono ?_); (case z1 => exact Kg); rintro e w' ⟨rfl, ⟨nd, rfl⟩⟩; refine ⟨_, rfl, ?_⟩))
 go_ret2
 exact ⟨Zf, Zh⟩
def Yrc.l0 : Nat → Y → Int → Bool → Int → Int → Option (Int × Int)
 | 0, _, _, _, _, _ => none
 | k + 1, x0, x4, x5, fO, eG => if eG < fO then (if 0 ≤ eG then (if eG < (x0.size : Int) then ((Yrf.f (bt x0 eG)).bind fun aAP => (if aAP.2 = true then (if x5 = true then (Yrc.l0 k x0 (Go.bits .or .u32 ((x4 * 16) % 4294967296) aAP.1) true fO (wrap64 (eG + 1))) else (Yrc.l0 k x0 (Go.bits .or .u32 ((x4 * 16) % 4294967296) aAP.1) ((x4 / 268435456) != 0) fO (wrap64 (eG + 1)))) else (some (0, 3)))) else (none)) else (none)) else (if x5 = true then (some (0, 5)) else (some (x4, 0)))
def Yrc.f (k : Nat) (a0 : Y) : Option (Int × Int) := if a0.toList = ([] : List UInt8) then (some (0, 3)) else (Yrc.l0 k a0 0 false (a0.size : Int) 0)
theorem Yrc.calls (k : Nat) (a0 : Y) (r1 r2 : Int) (w : World) (hE : EnvOk w) (h : Yrc.f k a0 = some (r1, r2)) :
  Calls Tryz.prog 127 #[.string a0] w fun e w' => e = .returned (.tuple #[.int .u32 r1, .int .i64 r2]) ∧ Drawn0 w w' := by
 have HE := Ya.mk hE
 clear hE
 have H : (if a0.toList = ([] : List UInt8) then (some (0, 3)) else (Yrc.l0 k a0 0 false (a0.size : Int) 0)) = some (r1, r2) := h
 clear h
 by_cases c2 : a0.toList = ([] : List UInt8)
 ·rw [if_pos c2] at H
  have dS : (a0.toList == ([] : List UInt8)) = true := Kx c2
  have lD : (a0.toList != ([] : List UInt8)) = false := Ku c2
  clear c2
  simp only [Kz, Kaa] at H
  obtain ⟨rfl, rfl⟩ := H
  go_enter Tryz.func127, Tryz.ntmps127
  go_wp2
  go_ret2
  exact ⟨Zf, Zh⟩
 rw [if_neg c2] at H
 have dS : (a0.toList == ([] : List UInt8)) = false := Kv c2
 have lD : (a0.toList != ([] : List UInt8)) = true := Kw c2
 have H' := Ya.mk H
 clear H
 go_enter Tryz.func127, Tryz.ntmps127
 go_wp2
 go_loopg [4, 5, 13] k (fun kq v4 v5 v13 w' => ∃ (aC : Int) (aI : Bool) (cW : Int), v4 = .int .u32 aC ∧ v5 = .bool aI ∧ v13 = .int .i64 cW ∧ Ya (Yrc.l0 kq a0 aC aI (a0.size : Int) cW = some (r1, r2)) ∧ Ya (kq ≤ k) ∧ Drawn0 w w')
 case atStart => exact ⟨(0), (false), (0), Zf, Zf, Zf, H', ⟨Ks _⟩, Zh⟩
 case round =>
  clear H'
  try clear c1
  try clear c2
  try clear dS
  try clear lD
  try clear p2
  obtain ⟨aC, aI, cW, rfl, rfl, rfl, HA, cC, ⟨m1, rfl⟩⟩ := hrel
  cases gk with
  | zero => exact absurd HA.out (by simp [Yrc.l0])
  | succ k1 =>
   have H := HA.out
   clear HA
   simp only [Yrc.l0] at H
   by_cases c3 : cW < (a0.size : Int)
   rotate_left
   ·rw [if_neg c3] at H
    have bV : decide (cW < (a0.size : Int)) = false := Ko c3
    clear c3
    by_cases dK : aI = true
    ·subst dK
     rw [if_pos rfl] at H
     simp only [Kz, Kaa] at H
     obtain ⟨rfl, rfl⟩ := H
     go_wp2
     go_ret2
     exact ⟨Zf, Zh⟩
    replace dK := Kt dK
    subst dK
    rw [if_neg (show ¬ (false = true) by decide)] at H
    simp only [Kz, Kaa] at H
    obtain ⟨rfl, rfl⟩ := H
    go_wp2
    go_ret2
    exact ⟨Zf, Zh⟩
   rw [if_pos c3] at H
   have bV : decide (cW < (a0.size : Int)) = true := Kn c3
   clear c3
   by_cases c4 : 0 ≤ cW
   rotate_left
   ·rw [if_neg c4] at H
    exact absurd H Zq
   rw [if_pos c4] at H
   have bM : decide (0 ≤ cW) = true := Kn c4
   clear c4
   by_cases c5 : cW < (a0.size : Int)
   rotate_left
   ·rw [if_neg c5] at H
    exact absurd H Zq
   rw [if_pos c5] at H
   have dG : decide (cW < (a0.size : Int)) = true := Kn c5
   clear c5
   obtain ⟨⟨aAQ, aWE⟩, pG, H⟩ := Kq H
   try dsimp -simprocs only at H
   have A7 := Ya.mk pG
   clear pG
   by_cases c8 : aWE = true
   rotate_left
   ·replace c8 := Kt c8
    subst c8
    rw [if_neg (show ¬ (false = true) by decide)] at H
    simp only [Kz, Kaa] at H
    obtain ⟨rfl, rfl⟩ := H
    have p6 : (0 ≤ (cW : Int)) = True := Kl
    have q6 : cW < (a0.size : Int) := Km Zc
    have hx6 := Ypa a0 cW
    replace q6 := Kp q6
    go_wp2_with (first | ((with_reducible refine Yh (f := 138) rfl ?_); refine Yy (some 20) rfl rfl Tryz.func138 Zi rfl #[.int .u8 (bt a0 cW)] rfl Zb ?_; (with_reducible refine (Yrf.calls (bt a0 cW) aAQ false _ ?z1 A7.out).mono ?_); (case z1 => exact Kg); rintro e w' ⟨rfl, ⟨nd, rfl⟩⟩; refine ⟨_, rfl, ?_⟩))
    go_ret2
    exact ⟨Zf, Zh⟩
   subst c8
   rw [if_pos rfl] at H
   by_cases c9 : aI = true
   ·subst c9
    rw [if_pos rfl] at H
    have H' := Ya.mk H
    clear H
    have p6 : (0 ≤ (cW : Int)) = True := Kl
    have q6 : cW < (a0.size : Int) := Km Zc
    have hx6 := Ypa a0 cW
    replace q6 := Kp q6
    go_wp2_with (first | ((with_reducible refine Yh (f := 138) rfl ?_); refine Yy (some 20) rfl rfl Tryz.func138 Zi rfl #[.int .u8 (bt a0 cW)] rfl Zb ?_; (with_reducible refine (Yrf.calls (bt a0 cW) aAQ true _ ?z1 A7.out).mono ?_); (case z1 => exact Kg); rintro e w' ⟨rfl, ⟨nd, rfl⟩⟩; refine ⟨_, rfl, ?_⟩))
    go_roundg k1
    case measure => have := cC.out; omega
    case rel => exact ⟨(Go.bits .or .u32 ((aC * 16) % 4294967296) aAQ), (true), (wrap64 (cW + 1)), Zf, Zf, Zf, H', ⟨Zu⟩, Zh⟩
   replace c9 := Kt c9
   subst c9
   rw [if_neg (show ¬ (false = true) by decide)] at H
   have H' := Ya.mk H
   clear H
   have p6 : (0 ≤ (cW : Int)) = True := Kl
   have q6 : cW < (a0.size : Int) := Km Zc
   have hx6 := Ypa a0 cW
   replace q6 := Kp q6
   go_wp2_with (first | ((with_reducible refine Yh (f := 138) rfl ?_); refine Yy (some 20) rfl rfl Tryz.func138 Zi rfl #[.int .u8 (bt a0 cW)] rfl Zb ?_; (with_reducible refine (Yrf.calls (bt a0 cW) aAQ true _ ?z1 A7.out).mono ?_); (case z1 => exact Kg); rintro e w' ⟨rfl, ⟨nd, rfl⟩⟩; refine ⟨_, rfl, ?_⟩))
   go_roundg k1
   case measure => have := cC.out; omega
   case rel => exact ⟨(Go.bits .or .u32 ((aC * 16) % 4294967296) aAQ), (((aC / 268435456) != 0)), (wrap64 (cW + 1)), Zf, Zf, Zf, H', ⟨Zu⟩, Zh⟩
end Go.Proofs.YtihaeeldgimdiaaGreatDoor.X
