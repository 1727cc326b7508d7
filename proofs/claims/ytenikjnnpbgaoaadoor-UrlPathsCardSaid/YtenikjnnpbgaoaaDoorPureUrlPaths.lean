/- UrlPaths as a plain law: Path twice is once, and no part of it is dots. -/
import Derived.Test.YtenikjnnpbgaoaaDoorX10
import Derived.Test.YtenikjnnpbgaoaaDoorPa
import Derived.KernelRfl
namespace Go.Proofs.YtenikjnnpbgaoaaDoor.Pure
open Go.RowKit Go.Proofs.YtenikjnnpbgaoaaDoor.X Go.Proofs.YtenikjnnpbgaoaaDoorW.PrintWords Go.Proofs.YtenikjnnpbgaoaaDoorW.PrintLast
set_option linter.unusedVariables false
set_option linter.unusedSimpArgs false

theorem aliveAt_60 : aliveAt 60 := ⟨by kernel_rfl, by kernel_rfl⟩
theorem alive_true {k : Nat} (h : 60 ≤ k) : cringlelaw04_alive.f k = some true := by
  unfold cringlelaw04_alive.f
  rw [if_pos (aliveAt_60.more h)]

theorem paths_loop (p : ByteArray) (hp : p.size ≤ 100000) : ∀ (L : List UInt8) (i : Nat) (q : ByteArray) (n : Nat), p.data.toList.drop i = L → i ≤ p.size → q.size ≤ i → 60 ≤ n →
    (∀ x ∈ splitB 47 (q.data.toList ++ L), x ≠ [46] ∧ x ≠ [46, 46]) → (47 : UInt8) ∉ q.data.toList →
    cringlelaw04_UrlPaths.l0 (n + 2 * L.length + 3) p q (i : Int) = some true := by
  intro L
  induction L with
  | nil =>
    intro i q n hL hi hq hn hx h47
    have hi2 : i = p.size := by
      have := congrArg List.length hL
      rw [List.length_drop, ← Lib.size_eq] at this
      simp only [List.length_nil] at this; omega
    subst hi2
    have hs : splitB 47 (q.data.toList ++ []) = [q.data.toList] := by
      rw [splitB_app 47 _ _ h47 [] [] rfl, List.append_nil]
    have hq2 := hx q.data.toList (by rw [hs]; simp)
    have hw : wrap64 ((p.size : Int) + 1) = (p.size : Int) + 1 := by unfold wrap64; omega
    rw [show n + 2 * ([] : List UInt8).length + 3 = (n + 1 + 1) + 1 by simp]
    unfold cringlelaw04_UrlPaths.l0
    rw [if_pos (by omega), if_neg (by omega)]
    unfold cringlelaw04_UrlPaths.j2
    rw [if_neg (by decide), Lib.toList_data, if_neg hq2.1, if_neg hq2.2, hw]
    unfold cringlelaw04_UrlPaths.l0
    rw [if_neg (by omega), alive_true (by omega)]; rfl
  | cons b t ih =>
    intro i q n hL hi hq hn hx h47
    have hi2 : i < p.size := by
      have := congrArg List.length hL
      rw [List.length_drop, ← Lib.size_eq] at this
      simp only [List.length_cons] at this; omega
    have ht : p.data.toList.drop (i + 1) = t := by
      have h9 := List.drop_drop (i := 1) (j := i) (l := p.data.toList); rw [hL] at h9; rw [← h9]; rfl
    have hw : wrap64 ((i : Int) + 1) = ((i + 1 : Nat) : Int) := by unfold wrap64; omega
    have hb : bt p (i : Int) = (b.toNat : Int) := by
      have h1 : p.data.toList[i]? = some b := by have h9 := List.getElem?_drop (xs := p.data.toList) (i := i) (j := 0); rw [hL, Nat.add_zero] at h9; rw [← h9]; rfl
      have h2 : i < p.data.toList.length := by rw [← Lib.size_eq]; exact hi2
      have h3 : p.data.toList[i] = b := by rw [List.getElem?_eq_getElem h2] at h1; exact Option.some.inj h1
      rw [← bt_at p (i : Int) (by rw [Int.toNat_natCast]; exact hi2)]
      simp only [Int.toNat_natCast]
      rw [← h3]; rfl
    have he : p.extract ((i : Int)).toNat ((((i + 1 : Nat) : Int))).toNat = ofL [b] := by
      rw [Int.toNat_natCast, Int.toNat_natCast, extract_ofL, hL, show i + 1 - i = 1 by omega]; rfl
    rw [show n + 2 * (b :: t).length + 3 = ((n + 2 * t.length + 3) + 1) + 1 by simp only [List.length_cons]; omega]
    unfold cringlelaw04_UrlPaths.l0
    rw [if_pos (by omega), if_pos (by omega), if_pos (by omega), hb]
    unfold cringlelaw04_UrlPaths.j2
    by_cases h : b = 47
    · subst h
      have hs : splitB 47 (q.data.toList ++ 47 :: t) = q.data.toList :: splitB 47 t := by
        rw [splitB_app 47 _ _ h47 [] (splitB 47 t) (by rw [splitB, if_pos rfl]), List.append_nil]
      have hq2 := hx q.data.toList (by rw [hs]; simp)
      rw [if_neg (by decide), Lib.toList_data, if_neg hq2.1, if_neg hq2.2, hw]
      exact ih (i + 1) ⟨#[]⟩ n ht (by omega) (by show 0 ≤ i + 1; omega) hn (fun x hxx => hx x (by rw [hs]; exact List.mem_cons_of_mem _ hxx)) (by intro hm; cases hm)
    · have hne : ((b.toNat : Int) != 47) = true := by
        rw [bne_iff_ne]
        intro e
        apply h
        have : b.toNat = 47 := by omega
        exact UInt8.toNat_inj.1 this
      have hd : (q ++ ofL [b]).data.toList = q.data.toList ++ [b] := by
        rw [ByteArray.data_append, Array.toList_append]; rfl
      have hz : (q ++ ofL [b]).size = q.size + 1 := by rw [Lib.size_eq, hd, List.length_append, ← Lib.size_eq]; rfl
      rw [if_pos hne, if_pos (by omega), hw, if_pos (by omega), if_pos (by omega), he, if_pos (by rw [ofL_size]; simp only [List.length_cons, List.length_nil]; omega)]
      refine ih (i + 1) (q ++ ofL [b]) n ht (by omega) (by omega) hn (fun x hxx => hx x ?_) (fun hm => ?_)
      · rw [hd, List.append_assoc] at hxx; exact hxx
      · rw [hd] at hm
        rcases List.mem_append.1 hm with hm | hm
        · exact h47 hm
        · exact h (List.mem_singleton.1 hm).symm

theorem UrlPaths : cringlelaw04_UrlPaths.Pure := by
  intro a0 ha
  by_cases hl : (a0.size : Int) > 2200
  · refine ⟨60, ?_⟩
    unfold cringlelaw04_UrlPaths.f cringlelaw04_long.f
    simp only [Option.bind_some]
    rw [if_pos (decide_eq_true hl), alive_true (Nat.le_refl _)]; rfl
  · obtain ⟨x, r, e, h⟩ := pathL_parts a0.data.toList
    have hz : (pathL a0.data.toList).length ≤ 10000 := by
      have := pathL_le a0.data.toList
      rw [← Lib.size_eq] at this; omega
    have hp1 : url_Path.f a0 = some (ofL (pathL a0.data.toList)) := by unfold url_Path.f; rw [if_pos (by omega)]
    have hp2 : url_Path.f (ofL (pathL a0.data.toList)) = some (ofL (pathL a0.data.toList)) := by
      unfold url_Path.f
      rw [if_pos (by rw [ofL_size]; omega), ofL_data, pathL_twice]
    have hs : (ofL (pathL a0.data.toList)).size = (pathL a0.data.toList).length := ofL_size _
    refine ⟨60 + 2 * (x ++ Lib.joinTail [47] r).length + 3 + 1, ?_⟩
    unfold cringlelaw04_UrlPaths.f cringlelaw04_long.f
    simp only [Option.bind_some]
    rw [if_neg (by simp; omega), hp1]
    simp only [Option.bind_some]
    have hb : bt (ofL (pathL a0.data.toList)) 0 = 47 := by rw [e]; rfl
    rw [ofL_toList, if_neg (by rw [e]; simp), if_pos (by rw [hs, e]; simp only [List.length_cons]; omega), if_pos hb, hp2]
    simp only [Option.bind_some]
    rw [show ∀ (n : Nat) (s : ByteArray) (c : Bool), cringlelaw04_UrlPaths.j0 (n + 1) s c = if c = true then some false else cringlelaw04_UrlPaths.l0 n s ⟨#[]⟩ 1 from fun _ _ _ => rfl, if_neg (by simp [ofL_toList])]
    refine paths_loop (ofL (pathL a0.data.toList)) (by omega) _ 1 ⟨#[]⟩ 60 (by rw [ofL_data, e]; rfl) (by rw [hs, e]; simp only [List.length_cons]; omega) (by show 0 ≤ 1; omega) (Nat.le_refl _) ?_ (by intro hm; cases hm)
    intro y hy
    have hy2 : y ∈ x :: r := by rw [← splitB_path h]; exact hy
    exact dots_no (h y hy2).2
end Go.Proofs.YtenikjnnpbgaoaaDoor.Pure
