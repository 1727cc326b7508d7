import Derived.Test.YtihaeeldgimdiaaGreatDoorIUX14
import Derived.Test.YtihaeeldgimdiaaGreatDoorIUQa
set_option linter.all false
namespace Go.Proofs.YtihaeeldgimdiaaGreatDoor.X
open Go.RowKit Go.Yw.PrintWords Go.Yw.PrintLast Go.Yw.PrintMore
attribute [local go_sem] Yxd Yvd Yze Yye Ymd Yld Yyd Ywd
set_option maxHeartbeats 8000000
set_option maxRecDepth 100000
def Ybe.f (k : Nat) (a0 : Y) : Option (Y × Int) := (Yk.f k a0).bind fun mK => ((Yda.f k mK).bind fun iO => (if iO.toList = ([] : List UInt8) then (some ((⟨#[]⟩ : Y), 4)) else ((Yi.f k iO).bind fun aBU => (if aBU = true then (some (iO, 0)) else (some ((⟨#[]⟩ : Y), 17))))))
theorem Ybe.calls (k : Nat) (a0 r1 : Y) (r2 : Int) (w : World) (hE : EnvOk w) (h : Ybe.f k a0 = some (r1, r2)) :
  Calls Tryz.prog 58 #[.string a0] w fun e w' => e = .returned (.tuple #[.string r1, .int .i64 r2]) ∧ Below w.heap.size w w' := by
 have HE := Ya.mk hE
 clear hE
 have HB := Ya.mk (Below.refl w.heap.size w)
 have H : ((Yk.f k a0).bind fun mK => ((Yda.f k mK).bind fun iO => (if iO.toList = ([] : List UInt8) then (some ((⟨#[]⟩ : Y), 4)) else ((Yi.f k iO).bind fun aBU => (if aBU = true then (some (iO, 0)) else (some ((⟨#[]⟩ : Y), 17))))))) = some (r1, r2) := h
 clear h
 obtain ⟨mK, dX, H⟩ := Kq H
 try dsimp -simprocs only at H
 have A2 := Ya.mk dX
 clear dX
 obtain ⟨iO, pF, H⟩ := Kq H
 try dsimp -simprocs only at H
 have A3 := Ya.mk pF
 clear pF
 by_cases c4 : iO.toList = ([] : List UInt8)
 ·rw [if_pos c4] at H
  have bM : (iO.toList == ([] : List UInt8)) = true := Kx c4
  have jZ : (iO.toList != ([] : List UInt8)) = false := Ku c4
  clear c4
  simp only [Kz, Kaa] at H
  obtain ⟨rfl, rfl⟩ := H
  go_enter Tryz.func58, Tryz.ntmps58
  go_wp2_with (first | ((with_reducible refine Yh (f := 83) rfl ?_); refine Yy (some 5) rfl rfl Tryz.func83 Zi rfl #[.string a0] rfl Zb ?_; (with_reducible refine (Yk.calls k a0 mK _ ?z1 A2.out).mono ?_); (case z1 => exact Kh); rintro e w5 ⟨rfl, hb⟩; refine ⟨_, rfl, ?_⟩; replace HB := Ya.mk (Ys Za hb); (try clear hb)) | ((with_reducible refine Yh (f := 33) rfl ?_); refine Yy (some 6) rfl rfl Tryz.func33 Zi rfl #[.string mK] rfl Zb ?_; (with_reducible refine (Yda.calls k mK iO _ ?z1 A3.out).mono ?_); (case z1 => exact Kh); rintro e w6 ⟨rfl, hb⟩; refine ⟨_, rfl, ?_⟩; replace HB := Ya.mk (Ys Za hb); (try clear hb)))
  go_ret2
  exact ⟨Zk, Za⟩
 rw [if_neg c4] at H
 have bM : (iO.toList == ([] : List UInt8)) = false := Kv c4
 have jZ : (iO.toList != ([] : List UInt8)) = true := Kw c4
 obtain ⟨aBU, pG, H⟩ := Kq H
 try dsimp -simprocs only at H
 have A7 := Ya.mk pG
 clear pG
 by_cases c8 : aBU = true
 ·subst c8
  rw [if_pos rfl] at H
  simp only [Kz, Kaa] at H
  obtain ⟨rfl, rfl⟩ := H
  go_enter Tryz.func58, Tryz.ntmps58
  go_wp2_with (first | ((with_reducible refine Yh (f := 83) rfl ?_); refine Yy (some 5) rfl rfl Tryz.func83 Zi rfl #[.string a0] rfl Zb ?_; (with_reducible refine (Yk.calls k a0 mK _ ?z1 A2.out).mono ?_); (case z1 => exact Kh); rintro e w9 ⟨rfl, hb⟩; refine ⟨_, rfl, ?_⟩; replace HB := Ya.mk (Ys Za hb); (try clear hb)) | ((with_reducible refine Yh (f := 33) rfl ?_); refine Yy (some 6) rfl rfl Tryz.func33 Zi rfl #[.string mK] rfl Zb ?_; (with_reducible refine (Yda.calls k mK iO _ ?z1 A3.out).mono ?_); (case z1 => exact Kh); rintro e qZ ⟨rfl, hb⟩; refine ⟨_, rfl, ?_⟩; replace HB := Ya.mk (Ys Za hb); (try clear hb)) | ((with_reducible refine Yh (f := 84) rfl ?_); refine Yy (some 10) rfl rfl Tryz.func84 Zi rfl #[.string iO] rfl Zb ?_; (with_reducible refine (Yi.calls k iO true _ ?z1 A7.out).mono ?_); (case z1 => exact Kh); rintro e mV ⟨rfl, hb⟩; refine ⟨_, rfl, ?_⟩; replace HB := Ya.mk (Ys Za hb); (try clear hb)))
  go_ret2
  exact ⟨Zk, Za⟩
 replace c8 := Kt c8
 subst c8
 rw [if_neg (show ¬ (false = true) by decide)] at H
 simp only [Kz, Kaa] at H
 obtain ⟨rfl, rfl⟩ := H
 go_enter Tryz.func58, Tryz.ntmps58
 go_wp2_with (first | ((with_reducible refine Yh (f := 83) rfl ?_); refine Yy (some 5) rfl rfl Tryz.func83 Zi rfl #[.string a0] rfl Zb ?_; (with_reducible refine (Yk.calls k a0 mK _ ?z1 A2.out).mono ?_); (case z1 => exact Kh); rintro e uA ⟨rfl, hb⟩; refine ⟨_, rfl, ?_⟩; replace HB := Ya.mk (Ys Za hb); (try clear hb)) | ((with_reducible refine Yh (f := 33) rfl ?_); refine Yy (some 6) rfl rfl Tryz.func33 Zi rfl #[.string mK] rfl Zb ?_; (with_reducible refine (Yda.calls k mK iO _ ?z1 A3.out).mono ?_); (case z1 => exact Kh); rintro e mW ⟨rfl, hb⟩; refine ⟨_, rfl, ?_⟩; replace HB := Ya.mk (Ys Za hb); (try clear hb)) | ((with_reducible refine Yh (f := 84) rfl ?_); refine Yy (some 10) rfl rfl Tryz.func84 Zi rfl #[.string iO] rfl Zb ?_; (with_reducible refine (Yi.calls k iO false _ ?z1 A7.out).mono ?_); (case z1 => exact Kh); rintro e w14 ⟨rfl, hb⟩; refine ⟨_, rfl, ?_⟩; replace HB := Ya.mk (Ys Za hb); (try clear hb)))
 go_ret2
 exact ⟨Zk, Za⟩
def Yqe.f (k : Nat) (aM aQ : Y) (aW : Int) (aR aV aX : Y) (bB bD : Bool) : Option (Y) := (Yva.f k aM aQ aW aR aV (⟨#[]⟩ : Y) bB false).bind fun aBV => (some aBV)
theorem Yqe.calls (k : Nat) (aM aQ : Y) (aW : Int) (aR aV aX : Y) (bB bD : Bool) (r : Y) (w : World) (hE : EnvOk w) (h : Yqe.f k aM aQ aW aR aV aX bB bD = some r) :
  Calls Tryz.prog 21 #[.agg #[.string aM, .string aQ, .int .i64 aW, .string aR, .string aV, .string aX, .bool bB, .bool bD]] w fun e w' => e = .returned (.string r) ∧ Below w.heap.size w w' := by
 have cV := Tryz.underlying46
 have HE := Ya.mk hE
 clear hE
 have HB := Ya.mk (Below.refl w.heap.size w)
 have H : ((Yva.f k aM aQ aW aR aV (⟨#[]⟩ : Y) bB false).bind fun aBV => (some aBV)) = some r := h
 clear h
 obtain ⟨aBV, dX, H⟩ := Kq H
 try dsimp -simprocs only at H
 have A2 := Ya.mk dX
 clear dX
 obtain rfl := Kr H
 go_enter Tryz.func21, Tryz.ntmps21
 go_wp2_with (first | ((with_reducible refine Ybd (N := 1) rfl ?_); refine Ytd ?hg (N := 1) ?hd (cs := #[.string aM, .string aQ, .int .i64 aW, .string aR, .string aV, .string aX, .bool bB, .bool bD]) (t := 46) ?hr ?_; (case hd => rfl); (case hg => rfl); (case hr => first | (go_simp; done) | (go_simp; rfl)); intro jP hg w3 hbox hb; have aJ := Ya.mk (Ys Za hb); have aU := Ya.mk (hbox); have bE := Ya.mk ((by rw [hg]; exact (Yna Za) : w.heap.size ≤ jP)); have gS := Ya.mk ((by rw [hg]; exact (Yna Za) : w.heap.size ≤ jP)); clear HB; have HB := aJ; have fI := aU; have aZJ := bE; have aHS := gS; clear aJ aU bE gS; clear hb hbox hg; obtain ⟨vL, vM, vN, vO, vP, vQ, vR, vS, vT, vU, vV, vW, vX, vY, vZ, wA⟩ := Ka fI.out) | ((with_reducible refine Yh (f := 38) rfl ?_); refine Yy (some 6) rfl rfl Tryz.func38 Zi rfl #[.agg #[.string aM, .string aQ, .int .i64 aW, .string aR, .string aV, .string (⟨#[]⟩ : Y), .bool bB, .bool false]] rfl Zb ?_; (with_reducible refine (Yva.calls k aM aQ aW aR aV (⟨#[]⟩ : Y) bB false aBV _ ?z1 A2.out).mono ?_); (case z1 => first | exact HE.out | exact EnvOk.below HE.out Zma); rintro e w5 ⟨rfl, hb⟩; refine ⟨_, rfl, ?_⟩; have aJ := Ya.mk (Yue (g := jP) (o := .cells #[.string aM, .string aQ, .int .i64 aW, .string aR, .string aV, .string (⟨#[]⟩ : Y), .bool bB, .bool false] 46 (0, 0)) (by (with_reducible repeat (first | refine Yba ?_ _ | refine Yma ?_ | refine Yja ?_ _)); refine Yeb (cs := #[.string aM, .string aQ, .int .i64 aW, .string aR, .string aV, .string aX, .bool bB, .bool false]) ?_ 5 _ rfl; (with_reducible repeat (first | refine Yba ?_ _ | refine Yma ?_ | refine Yja ?_ _)); refine Yeb (cs := #[.string aM, .string aQ, .int .i64 aW, .string aR, .string aV, .string aX, .bool bB, .bool bD]) ?_ 7 _ rfl; (with_reducible repeat (first | refine Yba ?_ _ | refine Yma ?_ | refine Yja ?_ _)); exact fI.out) hb); have aU := Ya.mk (Ys Zma hb); clear fI; clear HB; have fI := aJ; have HB := aU; clear aJ aU; (try clear hb)))
 go_ret
 exact ⟨Zk, Zma⟩
def Ylb.l0 : Nat → Int → Int → Y → Y → Int → Option (Y)
 | 0, _, _, _, _, _ => none
 | k + 1, x0, x1, x5, x6, x7 => if x7 < x1 then (if x7 < 16 then (if 0 ≤ (Int.tmod x0 16) then (if (Int.tmod x0 16) ≤ (IntKind.u64.wrap ((Int.tmod x0 16) + 1)) then (if (IntKind.u64.wrap ((Int.tmod x0 16) + 1)) ≤ (x5.size : Int) then (if (x5.extract ((Int.tmod x0 16) : Int).toNat ((IntKind.u64.wrap ((Int.tmod x0 16) + 1)) : Int).toNat).size + x6.size ≤ 9223372036854775807 then (Ylb.l0 k (IntKind.u64.wrap (Int.tdiv x0 16)) x1 x5 ((x5.extract ((Int.tmod x0 16) : Int).toNat ((IntKind.u64.wrap ((Int.tmod x0 16) + 1)) : Int).toNat) ++ x6) (wrap64 (x7 + 1))) else (none)) else (none)) else (none)) else (none)) else (some x6)) else (some x6)
def Ylb.f (k : Nat) (a0 a1 : Int) : Option (Y) := Ylb.l0 k a0 a1 (⟨#[48, 49, 50, 51, 52, 53, 54, 55, 56, 57, 97, 98, 99, 100, 101, 102]⟩ : Y) (⟨#[]⟩ : Y) 0
theorem Ylb.calls (k : Nat) (a0 a1 : Int) (r : Y) (w : World) (hE : EnvOk w) (h : Ylb.f k a0 a1 = some r) :
  Calls Tryz.prog 40 #[.int .u64 a0, .int .i64 a1] w fun e w' => e = .returned (.string r) ∧ Drawn0 w w' := by
 have HE := Ya.mk hE
 clear hE
 have H : (Ylb.l0 k a0 a1 (⟨#[48, 49, 50, 51, 52, 53, 54, 55, 56, 57, 97, 98, 99, 100, 101, 102]⟩ : Y) (⟨#[]⟩ : Y) 0) = some r := h
 clear h
 have H' := Ya.mk H
 clear H
 go_enter Tryz.func40, Tryz.ntmps40
 go_wp2
 go_loopg [0, 6, 7] k (fun kq v0 v6 v7 w' => ∃ (aK : Int) (aD : Y) (bI : Int), v0 = .int .u64 aK ∧ v6 = .string aD ∧ v7 = .int .i64 bI ∧ Ya (Ylb.l0 kq aK a1 (⟨#[48, 49, 50, 51, 52, 53, 54, 55, 56, 57, 97, 98, 99, 100, 101, 102]⟩ : Y) aD bI = some r) ∧ Ya (kq ≤ k) ∧ Drawn0 w w')
 case atStart => exact ⟨(a0), ((⟨#[]⟩ : Y)), (0), Zf, Zf, Zf, H', ⟨Ks _⟩, Zh⟩
 case round =>
  clear H'
  try clear p2
  obtain ⟨aK, aD, bI, rfl, rfl, rfl, HA, cC, ⟨m1, rfl⟩⟩ := hrel
  cases gk with
  | zero => exact absurd HA.out (by simp [Ylb.l0])
  | succ k1 =>
   have H := HA.out
   clear HA
   simp only [Ylb.l0] at H
   by_cases c3 : bI < a1
   rotate_left
   ·rw [if_neg c3] at H
    have bV : decide (bI < a1) = false := Ko c3
    clear c3
    obtain rfl := Kr H
    go_wp2
    go_ret
    exact ⟨Zf, Zh⟩
   rw [if_pos c3] at H
   have bV : decide (bI < a1) = true := Kn c3
   clear c3
   by_cases c4 : bI < 16
   rotate_left
   ·rw [if_neg c4] at H
    have bM : decide (bI < 16) = false := Ko c4
    clear c4
    obtain rfl := Kr H
    go_wp2
    go_ret
    exact ⟨Zf, Zh⟩
   rw [if_pos c4] at H
   have bM : decide (bI < 16) = true := Kn c4
   clear c4
   obtain ⟨nI, aHj⟩ : ∃ j_ : Int, (Int.tmod aK 16) = j_ := ⟨_, rfl⟩
   replace H : (if 0 ≤ (nI) then (if (nI) ≤ (IntKind.u64.wrap ((nI) + 1)) then (if (IntKind.u64.wrap ((nI) + 1)) ≤ ((⟨#[48, 49, 50, 51, 52, 53, 54, 55, 56, 57, 97, 98, 99, 100, 101, 102]⟩ : Y).size : Int) then (if ((⟨#[48, 49, 50, 51, 52, 53, 54, 55, 56, 57, 97, 98, 99, 100, 101, 102]⟩ : Y).extract ((nI) : Int).toNat ((IntKind.u64.wrap ((nI) + 1)) : Int).toNat).size + aD.size ≤ 9223372036854775807 then (Ylb.l0 k1 (IntKind.u64.wrap (Int.tdiv aK 16)) a1 (⟨#[48, 49, 50, 51, 52, 53, 54, 55, 56, 57, 97, 98, 99, 100, 101, 102]⟩ : Y) (((⟨#[48, 49, 50, 51, 52, 53, 54, 55, 56, 57, 97, 98, 99, 100, 101, 102]⟩ : Y).extract ((nI) : Int).toNat ((IntKind.u64.wrap ((nI) + 1)) : Int).toNat) ++ aD) (wrap64 (bI + 1))) else (none)) else (none)) else (none)) else (none)) = some r := by first | (rw [aHj] at H; exact H) | (simp only [aHj] at H ⊢; exact H)
   by_cases c6 : 0 ≤ (nI)
   rotate_left
   ·rw [if_neg c6] at H
    exact absurd H Zq
   rw [if_pos c6] at H
   have dN := Kp c6
   have lF : decide (0 ≤ (nI)) = true := Kn c6
   clear c6
   by_cases c7 : (nI) ≤ (IntKind.u64.wrap ((nI) + 1))
   rotate_left
   ·rw [if_neg c7] at H
    exact absurd H Zq
   rw [if_pos c7] at H
   have cM := Kp c7
   have gZ : decide ((nI) ≤ (IntKind.u64.wrap ((nI) + 1))) = true := Kn c7
   by_cases c8 : (IntKind.u64.wrap ((nI) + 1)) ≤ ((⟨#[48, 49, 50, 51, 52, 53, 54, 55, 56, 57, 97, 98, 99, 100, 101, 102]⟩ : Y).size : Int)
   rotate_left
   ·rw [if_neg c8] at H
    exact absurd H Zq
   rw [if_pos c8] at H
   have fS := Kp c8
   have jA : decide ((IntKind.u64.wrap ((nI) + 1)) ≤ ((⟨#[48, 49, 50, 51, 52, 53, 54, 55, 56, 57, 97, 98, 99, 100, 101, 102]⟩ : Y).size : Int)) = true := Kn c8
   by_cases c9 : ((⟨#[48, 49, 50, 51, 52, 53, 54, 55, 56, 57, 97, 98, 99, 100, 101, 102]⟩ : Y).extract ((nI) : Int).toNat ((IntKind.u64.wrap ((nI) + 1)) : Int).toNat).size + aD.size ≤ 9223372036854775807
   rotate_left
   ·rw [if_neg c9] at H
    exact absurd H Zq
   rw [if_pos c9] at H
   have gN := Kp c9
   have nX : decide (((⟨#[48, 49, 50, 51, 52, 53, 54, 55, 56, 57, 97, 98, 99, 100, 101, 102]⟩ : Y).extract ((nI) : Int).toNat ((IntKind.u64.wrap ((nI) + 1)) : Int).toNat).size + aD.size ≤ 9223372036854775807) = true := Kn c9
   try have aBg : (9223372036854775807 < ((⟨#[48, 49, 50, 51, 52, 53, 54, 55, 56, 57, 97, 98, 99, 100, 101, 102]⟩ : Y).extract ((nI) : Int).toNat ((IntKind.u64.wrap ((nI) + 1)) : Int).toNat).size + aD.size) = False := eq_false (Nat.not_lt.2 c9)
   have H' := Ya.mk H
   clear H
   go_wp2
   go_roundg k1
   case measure => have := cC.out; omega
   case rel => exact ⟨(IntKind.u64.wrap (Int.tdiv aK 16)), (((⟨#[48, 49, 50, 51, 52, 53, 54, 55, 56, 57, 97, 98, 99, 100, 101, 102]⟩ : Y).extract ((nI) : Int).toNat ((IntKind.u64.wrap ((nI) + 1)) : Int).toNat) ++ aD), (wrap64 (bI + 1)), Zf, (by first | rfl | (simp; done) | (simp only [← aHj] <;> (first | rfl | simp)) | (simp [*]; done)), Zf, H', ⟨Zu⟩, Zh⟩
def Yob.l0 : Nat → List Int → Int → Int → Option (Int)
 | 0, _, _, _ => none
 | k + 1, x0, x3, x4 => if x4 < (x0.length : Int) then (if 0 ≤ x4 then (Yob.l0 k x0 (IntKind.u64.wrap ((Go.bits .xor .u64 x3 (IntKind.u64.wrap (rd x0 x4))) * 1099511628211)) (wrap64 (x4 + 1))) else (none)) else (some x3)
def Yob.f (k : Nat) (l0 : List Int) : Option (Int) := Yob.l0 k l0 14695981039346656037 0
theorem Yob.calls (k : Nat) (A0 : Option Addr) (c0 : Nat) (l0 : List Int) (r : Int) (w : World) (hE : EnvOk w) (nD : Kd.C (Kd.int .u8) w A0 l0.length l0) (eE : l0.length ≤ c0) (h : Yob.f k l0 = some r) :
  Calls Tryz.prog 41 #[.slice A0 l0.length c0] w fun e w' => e = .returned (.int .u64 r) ∧ Drawn0 w w' := by
 have HR0 := Ya.mk nD
 have HC0 := Ya.mk eE
 clear nD eE
 have HE := Ya.mk hE
 clear hE
 have H : (Yob.l0 k l0 14695981039346656037 0) = some r := h
 clear h
 have H' := Ya.mk H
 clear H
 go_enter Tryz.func41, Tryz.ntmps41
 go_wp2
 go_loopg [3, 4] k (fun kq v3 v4 w' => ∃ (aE : Int) (aC : Int), v3 = .int .u64 aE ∧ v4 = .int .i64 aC ∧ Ya (Yob.l0 kq l0 aE aC = some r) ∧ Ya (kq ≤ k) ∧ Drawn0 w w')
 case atStart => exact ⟨(14695981039346656037), (0), Zf, Zf, H', ⟨Ks _⟩, Zh⟩
 case round =>
  clear H'
  obtain ⟨aE, aC, rfl, rfl, HA, cC, ⟨m1, rfl⟩⟩ := hrel
  cases gk with
  | zero => exact absurd HA.out (by simp [Yob.l0])
  | succ k1 =>
   have H := HA.out
   clear HA
   simp only [Yob.l0] at H
   by_cases c2 : aC < (l0.length : Int)
   rotate_left
   ·rw [if_neg c2] at H
    have dS : decide (aC < (l0.length : Int)) = false := Ko c2
    clear c2
    obtain rfl := Kr H
    go_wp2
    go_ret
    exact ⟨Zf, Zh⟩
   rw [if_pos c2] at H
   have dS : decide (aC < (l0.length : Int)) = true := Kn c2
   clear c2
   by_cases c3 : 0 ≤ aC
   rotate_left
   ·rw [if_neg c3] at H
    exact absurd H Zq
   rw [if_pos c3] at H
   have bV : decide (0 ≤ aC) = true := Kn c3
   clear c3
   have H' := Ya.mk H
   clear H
   have aHk : 0 ≤ (aC : Int) := Km Zc
   have aHl : aC < (l0.length : Int) := Km Zc
   obtain ⟨aZK, aYv, aWw⟩ := Kd.at_int HR0.out aC aHk aHl
   cases aYv
   replace aHk := Kp aHk
   replace aHl := Kp aHl
   go_wp2
   go_roundg k1
   case measure => have := cC.out; omega
   case rel => exact ⟨(IntKind.u64.wrap ((Go.bits .xor .u64 aE (IntKind.u64.wrap (rd l0 aC))) * 1099511628211)), (wrap64 (aC + 1)), Zf, Zf, H', ⟨Zu⟩, Zh⟩
def Ykb.l0 : Nat → List Y → List Int → Int → Option (Y)
 | 0, _, _, _ => none
 | k + 1, x0, x3, x4 => if x4 < (x0.length : Int) then (if 0 ≤ x4 then (if x3.length + (rdOf ByteArray.empty x0 x4).size < 140737488355328 then ((some (x3 ++ bytesOf (rdOf ByteArray.empty x0 x4) : List Int)).bind fun qS => (if qS.length < 140737488355328 then (Ykb.l0 k x0 (qS ++ [0]) (wrap64 (x4 + 1))) else (none))) else (none)) else (none)) else ((Yob.f k x3).bind fun aBW => ((Ylb.f k aBW 16).bind fun aHm => (some aHm)))
def Ykb.f (k : Nat) (l0 : List Y) : Option (Y) := Ykb.l0 k l0 ([] : List Int) 0
theorem Ykb.calls (k : Nat) (A0 : Option Addr) (c0 : Nat) (l0 : List Y) (r : Y) (w : World) (hE : EnvOk w) (nD : Kd.C Kd.string w A0 l0.length l0) (eE : l0.length ≤ c0) (h : Ykb.f k l0 = some r) :
  Calls Tryz.prog 23 #[.slice A0 l0.length c0] w fun e w' => e = .returned (.string r) ∧ Below w.heap.size w w' := by
 have HR0 := Ya.mk nD
 have HC0 := Ya.mk eE
 clear nD eE
 have HE := Ya.mk hE
 clear hE
 have HB := Ya.mk (Below.refl w.heap.size w)
 have H : (Ykb.l0 k l0 ([] : List Int) 0) = some r := h
 clear h
 have H' := Ya.mk H
 clear H
 go_enter Tryz.func23, Tryz.ntmps23
 go_wp2
 go_loopg [3, 4] k (fun kq v3 v4 w' => ∃ (aE : List Int) (aC : Int), v4 = .int .i64 aC ∧ Ya (Ykb.l0 kq l0 aE aC = some r) ∧ Ya (kq ≤ k) ∧ Ya (Kd.R (Kd.int .u8) 5 w' w.heap.size (fun _ => True) v3 aE) ∧ Ya (Below w.heap.size w w'))
 case atStart => exact ⟨(([] : List Int)), (0), Zf, H', ⟨Ks _⟩, ⟨Zv⟩, ⟨Za⟩⟩
 case round =>
  clear H'
  obtain ⟨aE, aC, rfl, HA, cC, HO_3, HB⟩ := hrel
  cases gk with
  | zero => exact absurd HA.out (by simp [Ykb.l0])
  | succ k1 =>
   have H := HA.out
   clear HA
   simp only [Ykb.l0] at H
   by_cases c2 : aC < (l0.length : Int)
   rotate_left
   ·rw [if_neg c2] at H
    have dS : decide (aC < (l0.length : Int)) = false := Ko c2
    clear c2
    obtain ⟨aBW, xP, H⟩ := Kq H
    try dsimp -simprocs only at H
    have A8 := Ya.mk xP
    clear xP
    obtain ⟨aHm, A90, H⟩ := Kq H
    try dsimp -simprocs only at H
    have A9 := Ya.mk A90
    clear A90
    obtain rfl := Kr H
    obtain ⟨aYw, aYx, aYy⟩ := Kd.R_slice HO_3.out
    subst aYy
    go_wp2_with (first | ((with_reducible refine Yh (f := 41) rfl ?_); refine Yy (some 20) rfl rfl Tryz.func41 Zi rfl #[.slice aYw aE.length aYx] rfl Zb ?_; (with_reducible refine (Yob.calls k1 _ _ aE aBW _ ?z1 ?z2 ?z3 A8.out).mono ?_); (case z1 => exact Kh); (case z2 => repeat (first | exact (Kd.R_reads' HO_3.out).2.2 | (with_reducible refine Kd.C_alloc ?_ _) | (with_reducible refine Kd.C_drewN ?_ _) | (with_reducible refine Kd.C_drew ?_))); (case z3 => exact (Kd.R_reads' HO_3.out).2.1); rintro e w' ⟨rfl, ⟨nd, rfl⟩⟩; refine ⟨_, rfl, ?_⟩) | ((with_reducible refine Yh (f := 40) rfl ?_); refine Yy (some 21) rfl rfl Tryz.func40 Zi rfl #[.int .u64 aBW, .int .i64 16] rfl Zb ?_; (with_reducible refine (Ylb.calls k1 aBW 16 aHm _ ?z1 A9.out).mono ?_); (case z1 => exact Kh); rintro e w' ⟨rfl, ⟨nd, rfl⟩⟩; refine ⟨_, rfl, ?_⟩))
    go_ret
    exact ⟨Zk, Za⟩
   rw [if_pos c2] at H
   have dS : decide (aC < (l0.length : Int)) = true := Kn c2
   clear c2
   by_cases c3 : 0 ≤ aC
   rotate_left
   ·rw [if_neg c3] at H
    exact absurd H Zq
   rw [if_pos c3] at H
   have bV : decide (0 ≤ aC) = true := Kn c3
   clear c3
   by_cases c4 : aE.length + (rdOf ByteArray.empty l0 aC).size < 140737488355328
   rotate_left
   ·rw [if_neg c4] at H
    exact absurd H Zq
   rw [if_pos c4] at H
   have aYz := Ya.mk c4
   clear c4
   obtain ⟨qS, tS⟩ : ∃ y_ : List Int, y_ = (aE ++ bytesOf (rdOf ByteArray.empty l0 aC)) := ⟨_, rfl⟩
   replace H : (if qS.length < 140737488355328 then (Ykb.l0 k1 l0 (qS ++ [0]) (wrap64 (aC + 1))) else (none)) = some r := by first | (rw [tS]; with_reducible exact H) | (have cO := (Kba _ _).symm.trans H; rw [tS]; with_reducible exact cO) | (have cO := (Kba _ _).symm.trans H; with_reducible exact cO) | with_reducible exact H | (rw [tS]; exact H) | exact H
   have aMD := Ya.mk tS
   clear tS
   by_cases c5 : qS.length < 140737488355328
   rotate_left
   ·rw [if_neg c5] at H
    exact absurd H Zq
   rw [if_pos c5] at H
   have aFn := Ya.mk c5
   clear c5
   obtain ⟨aME, tT⟩ : ∃ y_ : List Int, y_ = (qS ++ [0]) := ⟨_, rfl⟩
   replace H : (Ykb.l0 k1 l0 aME (wrap64 (aC + 1))) = some r := by first | (rw [tT]; with_reducible exact H) | (have cO := (Kba _ _).symm.trans H; rw [tT]; with_reducible exact cO) | (have cO := (Kba _ _).symm.trans H; with_reducible exact cO) | with_reducible exact H | (rw [tT]; exact H) | exact H
   have aMF := Ya.mk tT
   clear tT
   have H' := Ya.mk H
   clear H
   have aHn : 0 ≤ (aC : Int) := Km Zc
   have aHo : aC < (l0.length : Int) := Km Zc
   obtain ⟨aZL, aYA, qT⟩ := Kd.at_string HR0.out aC aHn aHo
   cases aYA
   replace qT := (HB.out.cell (World.block_lt_of_cell? w _ qT)).trans qT
   replace aHn := Kp aHn
   replace aHo := Kp aHo
   go_wp2_with (first | (at_builtin; refine Ywl (w0 := w) w.heap.size rfl (.tmp 11) _ 67 9 5 rfl Tryz.underlying67 Tryz.underlying9 Yaj u3 aE (rdOf ByteArray.empty l0 aC) rfl rfl ?aO ?aB ?aS ?aL ?_; (case aB => exact Za); (case aO => exact (Kd.own_of_R Zl)); (case aS => exact Ki); (case aL => have := aYz.out; omega); intro aMG w6 oQ hb hg; have ho := Kd.R_of_own (h1 := fun _ => rfl) (ok := fun _ => True) oQ (fun _ _ => trivial); clear oQ; have hat := True.intro; rw [← aMD.out] at ho; change Kd.R (Kd.int .u8) 5 w6 w.heap.size (fun _ => True) aMG qS at ho; replace HB := Ya.mk (hb); have aER := Ya.mk (ho); clear HO_3; clear ho hb hg hat) | ((with_reducible refine Yic (b := .append) (xs := #[.tmp 16, .tmp 17]) rfl ?_); at_builtin; refine Kd.R_append (Kd.int .u8) (w0 := w) w.heap.size rfl (.tmp 16) (.tmp 17) 67 5 (.int .u8 0) 1 rfl Tryz.underlying67 Yaj rfl Zw Zj aMG qS 0 [.int .u8 0] (fun _ => True) (fun _ => False) rfl rfl ?aP (fun _ hk => hk.elim) ?aF ?aO ?aB ?aS ?aL ?_; (case aP => exact rfl); (case aB => exact Za); (case aF => exact (fun _ _ => trivial)); (case aO => exact (by (with_reducible repeat (first | apply Kd.R_alloc | apply Kd.R_drewN | apply Kd.R_drew)); exact aER.out)); (case aS => exact Ki); (case aL => have := aFn.out; omega); intro bAJ w7 ho hb hg hat; rw [← aMF.out] at ho; replace HB := Ya.mk (hb); have aMH := Ya.mk (ho); clear aER; clear ho hb hg hat))
   go_roundg k1
   case measure => have := cC.out; omega
   case rel => exact ⟨(aME), (wrap64 (aC + 1)), Zf, H', ⟨Zu⟩, ⟨by (with_reducible repeat (first | apply Kd.R_alloc | apply Kd.R_drewN | apply Kd.R_drew)); exact aMH.out⟩, ⟨Za⟩⟩
def Ywb.l0 : Nat → List Y → Y → Int → Option (Bool)
 | 0, _, _, _ => none
 | k + 1, x0, x1, x5 => if x5 < (x0.length : Int) then (if 0 ≤ x5 then (if (rdOf ByteArray.empty x0 x5).toList = x1.toList then (some true) else (Ywb.l0 k x0 x1 (wrap64 (x5 + 1)))) else (none)) else (some false)
def Ywb.f (k : Nat) (l0 : List Y) (a1 : Y) : Option (Bool) := Ywb.l0 k l0 a1 0
theorem Ywb.calls (k : Nat) (A0 : Option Addr) (c0 : Nat) (l0 : List Y) (a1 : Y) (r : Bool) (w : World) (hE : EnvOk w) (nD : Kd.C Kd.string w A0 l0.length l0) (eE : l0.length ≤ c0) (h : Ywb.f k l0 a1 = some r) :
  Calls Tryz.prog 19 #[.slice A0 l0.length c0, .string a1] w fun e w' => e = .returned (.bool r) ∧ Drawn0 w w' := by
 have HR0 := Ya.mk nD
 have HC0 := Ya.mk eE
 clear nD eE
 have HE := Ya.mk hE
 clear hE
 have H : (Ywb.l0 k l0 a1 0) = some r := h
 clear h
 have H' := Ya.mk H
 clear H
 go_enter Tryz.func19, Tryz.ntmps19
 go_wp2
 go_loopg [5] k (fun kq v5 w' => ∃ (aI : Int), v5 = .int .i64 aI ∧ Ya (Ywb.l0 kq l0 a1 aI = some r) ∧ Ya (kq ≤ k) ∧ Drawn0 w w')
 case atStart => exact ⟨(0), Zf, H', ⟨Ks _⟩, Zh⟩
 case round =>
  clear H'
  try clear c1
  try clear p2
  obtain ⟨aI, rfl, HA, cC, ⟨m1, rfl⟩⟩ := hrel
  cases gk with
  | zero => exact absurd HA.out (by simp [Ywb.l0])
  | succ k1 =>
   have H := HA.out
   clear HA
   simp only [Ywb.l0] at H
   by_cases c3 : aI < (l0.length : Int)
   rotate_left
   ·rw [if_neg c3] at H
    have bV : decide (aI < (l0.length : Int)) = false := Ko c3
    clear c3
    obtain rfl := Kr H
    go_wp2
    go_ret
    exact ⟨Zf, Zh⟩
   rw [if_pos c3] at H
   have bV : decide (aI < (l0.length : Int)) = true := Kn c3
   clear c3
   by_cases c4 : 0 ≤ aI
   rotate_left
   ·rw [if_neg c4] at H
    exact absurd H Zq
   rw [if_pos c4] at H
   have bM : decide (0 ≤ aI) = true := Kn c4
   clear c4
   by_cases c5 : (rdOf ByteArray.empty l0 aI).toList = a1.toList
   ·rw [if_pos c5] at H
    have dG : ((rdOf ByteArray.empty l0 aI).toList == a1.toList) = true := Kx c5
    have oT : ((rdOf ByteArray.empty l0 aI).toList != a1.toList) = false := Ku c5
    clear c5
    obtain rfl := Kr H
    have wU : 0 ≤ (aI : Int) := Km Zc
    have wV : aI < (l0.length : Int) := Km Zc
    obtain ⟨aMI, aHp, aDZ⟩ := Kd.at_string HR0.out aI wU wV
    cases aHp
    replace wU := Kp wU
    replace wV := Kp wV
    go_wp2
    go_ret
    exact ⟨Zf, Zh⟩
   rw [if_neg c5] at H
   have dG : ((rdOf ByteArray.empty l0 aI).toList == a1.toList) = false := Kv c5
   have oT : ((rdOf ByteArray.empty l0 aI).toList != a1.toList) = true := Kw c5
   have H' := Ya.mk H
   clear H
   have wU : 0 ≤ (aI : Int) := Km Zc
   have wV : aI < (l0.length : Int) := Km Zc
   obtain ⟨aMI, aHp, aDZ⟩ := Kd.at_string HR0.out aI wU wV
   cases aHp
   replace wU := Kp wU
   replace wV := Kp wV
   go_wp2
   go_roundg k1
   case measure => have := cC.out; omega
   case rel => exact ⟨(wrap64 (aI + 1)), Zf, H', ⟨Zu⟩, Zh⟩
def Yih.f (a0 : Y) : Option (Int × Int) := (strings_Cut.f a0 (⟨#[58]⟩ : Y)).bind fun jQ => (if (jQ.1.size : Int) = 1 then (if jQ.2.1.toList = ([] : List UInt8) then (some (0, 6)) else (if 0 < (jQ.1.size : Int) then ((strings_IndexByte.f (⟨#[117, 108, 104]⟩ : Y) (bt jQ.1 0)).bind fun qU => (if qU < 0 then (some (0, 6)) else (some (bt jQ.1 0, 0)))) else (none))) else (some (0, 6)))
theorem Yih.calls (a0 : Y) (r1 r2 : Int) (w : World) (hE : EnvOk w) (h : Yih.f a0 = some (r1, r2)) :
  Calls Tryz.prog 13 #[.string a0] w fun e w' => e = .returned (.tuple #[.int .u8 r1, .int .i64 r2]) ∧ Drawn0 w w' := by
 have HE := Ya.mk hE
 clear hE
 have H : ((strings_Cut.f a0 (⟨#[58]⟩ : Y)).bind fun jQ => (if (jQ.1.size : Int) = 1 then (if jQ.2.1.toList = ([] : List UInt8) then (some (0, 6)) else (if 0 < (jQ.1.size : Int) then ((strings_IndexByte.f (⟨#[117, 108, 104]⟩ : Y) (bt jQ.1 0)).bind fun qU => (if qU < 0 then (some (0, 6)) else (some (bt jQ.1 0, 0)))) else (none))) else (some (0, 6)))) = some (r1, r2) := h
 clear h
 obtain ⟨⟨dL, qV, aEa⟩, dX, H⟩ := Kq H
 try dsimp -simprocs only at H
 have A2 := Ya.mk dX
 clear dX
 by_cases c3 : (dL.size : Int) = 1
 rotate_left
 ·rw [if_neg c3] at H
  have bV : ((dL.size : Int) == 1) = false := Kv c3
  have dY : ((dL.size : Int) != 1) = true := Kw c3
  simp only [Kz, Kaa] at H
  obtain ⟨rfl, rfl⟩ := H
  go_enter Tryz.func13, Tryz.ntmps13
  go_wp2_with (first | ((with_reducible refine Yh (f := 24) rfl ?_); refine Yy (some 9) rfl rfl Tryz.func24 Zi rfl #[.string a0, .string (⟨#[58]⟩ : Y)] rfl Zb ?_; (with_reducible refine (strings_Cut.calls a0 (⟨#[58]⟩ : Y) dL qV aEa _ ?z1 A2.out).mono ?_); (case z1 => exact Kg); rintro e w' ⟨rfl, ⟨nd, rfl⟩⟩; refine ⟨_, rfl, ?_⟩))
  go_ret2
  exact ⟨Zf, Zh⟩
 rw [if_pos c3] at H
 have bV : ((dL.size : Int) == 1) = true := Kx c3
 have dY : ((dL.size : Int) != 1) = false := Ku c3
 clear c3
 by_cases c4 : qV.toList = ([] : List UInt8)
 ·rw [if_pos c4] at H
  have bM : (qV.toList == ([] : List UInt8)) = true := Kx c4
  have jZ : (qV.toList != ([] : List UInt8)) = false := Ku c4
  clear c4
  simp only [Kz, Kaa] at H
  obtain ⟨rfl, rfl⟩ := H
  go_enter Tryz.func13, Tryz.ntmps13
  go_wp2_with (first | ((with_reducible refine Yh (f := 24) rfl ?_); refine Yy (some 9) rfl rfl Tryz.func24 Zi rfl #[.string a0, .string (⟨#[58]⟩ : Y)] rfl Zb ?_; (with_reducible refine (strings_Cut.calls a0 (⟨#[58]⟩ : Y) dL qV aEa _ ?z1 A2.out).mono ?_); (case z1 => exact Kg); rintro e w' ⟨rfl, ⟨nd, rfl⟩⟩; refine ⟨_, rfl, ?_⟩))
  go_ret2
  exact ⟨Zf, Zh⟩
 rw [if_neg c4] at H
 have bM : (qV.toList == ([] : List UInt8)) = false := Kv c4
 have jZ : (qV.toList != ([] : List UInt8)) = true := Kw c4
 by_cases c5 : 0 < (dL.size : Int)
 rotate_left
 ·rw [if_neg c5] at H
  exact absurd H Zq
 rw [if_pos c5] at H
 have dG : decide (0 < (dL.size : Int)) = true := Kn c5
 have oT : decide (0 < dL.size) = true := Kn Zj
 clear c5
 obtain ⟨qU, pG, H⟩ := Kq H
 try dsimp -simprocs only at H
 have A7 := Ya.mk pG
 clear pG
 by_cases c8 : qU < 0
 ·rw [if_pos c8] at H
  have fS : decide (qU < 0) = true := Kn c8
  clear c8
  simp only [Kz, Kaa] at H
  obtain ⟨rfl, rfl⟩ := H
  go_enter Tryz.func13, Tryz.ntmps13
  go_wp2_with (first | ((with_reducible refine Yh (f := 24) rfl ?_); refine Yy (some 9) rfl rfl Tryz.func24 Zi rfl #[.string a0, .string (⟨#[58]⟩ : Y)] rfl Zb ?_; (with_reducible refine (strings_Cut.calls a0 (⟨#[58]⟩ : Y) dL qV aEa _ ?z1 A2.out).mono ?_); (case z1 => exact Kg); rintro e w' ⟨rfl, ⟨nd, rfl⟩⟩; refine ⟨_, rfl, ?_⟩; have p6 : 0 ≤ (0 : Int) := Zj; have q6 : 0 < dL.size := (by have : (0 : Int) < (dL.size : Int) := Km Zc; omega); have hx6 : ∀ h : 0 < dL.size, ((dL[0]'h).toNat : Int) = bt dL 0 := Ypa dL 0; clear p6; have qi6 : (0 < (dL.size : Int)) = True := Kp (Km Zc); replace q6 := Kp q6) | (go_at_call 25; (with_reducible refine (strings_IndexByte.calls (⟨#[117, 108, 104]⟩ : Y) (bt dL 0) qU _ ?z1 A7.out).mono ?_); (case z1 => exact Kg); rintro e w' ⟨rfl, ⟨nd, rfl⟩⟩))
  go_ret2
  exact ⟨Zf, Zh⟩
 rw [if_neg c8] at H
 have fS : decide (qU < 0) = false := Ko c8
 clear c8
 simp only [Kz, Kaa] at H
 obtain ⟨rfl, rfl⟩ := H
 go_enter Tryz.func13, Tryz.ntmps13
 go_wp2_with (first | ((with_reducible refine Yh (f := 24) rfl ?_); refine Yy (some 9) rfl rfl Tryz.func24 Zi rfl #[.string a0, .string (⟨#[58]⟩ : Y)] rfl Zb ?_; (with_reducible refine (strings_Cut.calls a0 (⟨#[58]⟩ : Y) dL qV aEa _ ?z1 A2.out).mono ?_); (case z1 => exact Kg); rintro e w' ⟨rfl, ⟨nd, rfl⟩⟩; refine ⟨_, rfl, ?_⟩; have p6 : 0 ≤ (0 : Int) := Zj; have q6 : 0 < dL.size := (by have : (0 : Int) < (dL.size : Int) := Km Zc; omega); have hx6 : ∀ h : 0 < dL.size, ((dL[0]'h).toNat : Int) = bt dL 0 := Ypa dL 0; clear p6; have qi6 : (0 < (dL.size : Int)) = True := Kp (Km Zc); replace q6 := Kp q6) | (go_at_call 25; (with_reducible refine (strings_IndexByte.calls (⟨#[117, 108, 104]⟩ : Y) (bt dL 0) qU _ ?z1 A7.out).mono ?_); (case z1 => exact Kg); rintro e w' ⟨rfl, ⟨nd, rfl⟩⟩; have p9 : 0 ≤ (0 : Int) := Zj; have q9 : 0 < dL.size := (by have : (0 : Int) < (dL.size : Int) := Km Zc; omega); have hx9 : ∀ h : 0 < dL.size, ((dL[0]'h).toNat : Int) = bt dL 0 := Ypa dL 0; clear p9; have qi9 : (0 < (dL.size : Int)) = True := Kp (Km Zc); replace q9 := Kp q9))
 go_ret2
 exact ⟨Zf, Zh⟩
def Yae.f (a0 : Y) : Option (Int × Int) := if (a0.size : Int) < 3 then (some (0, 6)) else (if 1 < (a0.size : Int) then (if (bt a0 1) = 58 then (if 0 < (a0.size : Int) then (if (bt a0 0) = 117 then (some (bt a0 0, 0)) else (if (bt a0 0) = 108 then (some (bt a0 0, 0)) else (if (bt a0 0) = 104 then (some (bt a0 0, 0)) else (some (0, 6))))) else (none)) else (some (0, 6))) else (none))
theorem Yae.calls (a0 : Y) (r1 r2 : Int) (w : World) (hE : EnvOk w) (h : Yae.f a0 = some (r1, r2)) :
  Calls Tryz.prog 14 #[.string a0] w fun e w' => e = .returned (.tuple #[.int .u8 r1, .int .i64 r2]) ∧ Drawn0 w w' := by
 have HE := Ya.mk hE
 clear hE
 have H : (if (a0.size : Int) < 3 then (some (0, 6)) else (if 1 < (a0.size : Int) then (if (bt a0 1) = 58 then (if 0 < (a0.size : Int) then (if (bt a0 0) = 117 then (some (bt a0 0, 0)) else (if (bt a0 0) = 108 then (some (bt a0 0, 0)) else (if (bt a0 0) = 104 then (some (bt a0 0, 0)) else (some (0, 6))))) else (none)) else (some (0, 6))) else (none))) = some (r1, r2) := h
 clear h
 by_cases c2 : (a0.size : Int) < 3
 ·rw [if_pos c2] at H
  have dS : decide ((a0.size : Int) < 3) = true := Kn c2
  have lD : decide (a0.size < 3) = true := Kn Zj
  clear c2
  simp only [Kz, Kaa] at H
  obtain ⟨rfl, rfl⟩ := H
  go_enter Tryz.func14, Tryz.ntmps14
  go_wp2
  go_ret2
  exact ⟨Zf, Zh⟩
 rw [if_neg c2] at H
 have dS : decide ((a0.size : Int) < 3) = false := Ko c2
 have lD : decide (a0.size < 3) = false := Ko Zj
 clear c2
 by_cases c3 : 1 < (a0.size : Int)
 rotate_left
 ·rw [if_neg c3] at H
  exact absurd H Zq
 rw [if_pos c3] at H
 have bV : decide (1 < (a0.size : Int)) = true := Kn c3
 have dY : decide (1 < a0.size) = true := Kn Zj
 clear c3
 by_cases c5 : (bt a0 1) = 58
 rotate_left
 ·rw [if_neg c5] at H
  have dG : ((bt a0 1) == 58) = false := Kv c5
  have oT : ((bt a0 1) != 58) = true := Kw c5
  simp only [Kz, Kaa] at H
  obtain ⟨rfl, rfl⟩ := H
  have p4 : 0 ≤ (1 : Int) := Zj
  have q4 : 1 < a0.size := (by have : (1 : Int) < (a0.size : Int) := Km Zc; omega)
  have kA : ∀ h : 1 < a0.size, ((a0[1]'h).toNat : Int) = bt a0 1 := Ypa a0 1
  clear p4
  have uF : (1 < (a0.size : Int)) = True := Kp (Km Zc)
  replace q4 := Kp q4
  go_enter Tryz.func14, Tryz.ntmps14
  go_wp2
  go_ret2
  exact ⟨Zf, Zh⟩
 rw [if_pos c5] at H
 have dG : ((bt a0 1) == 58) = true := Kx c5
 have oT : ((bt a0 1) != 58) = false := Ku c5
 clear c5
 by_cases c6 : 0 < (a0.size : Int)
 rotate_left
 ·rw [if_neg c6] at H
  exact absurd H Zq
 rw [if_pos c6] at H
 have dN : decide (0 < (a0.size : Int)) = true := Kn c6
 have lF : decide (0 < a0.size) = true := Kn Zj
 clear c6
 by_cases c8 : (bt a0 0) = 117
 ·rw [if_pos c8] at H
  have fS : ((bt a0 0) == 117) = true := Kx c8
  have jA : ((bt a0 0) != 117) = false := Ku c8
  clear c8
  simp only [Kz, Kaa] at H
  obtain ⟨rfl, rfl⟩ := H
  have p4 : 0 ≤ (1 : Int) := Zj
  have q4 : 1 < a0.size := (by have : (1 : Int) < (a0.size : Int) := Km Zc; omega)
  have kA : ∀ h : 1 < a0.size, ((a0[1]'h).toNat : Int) = bt a0 1 := Ypa a0 1
  clear p4
  have uF : (1 < (a0.size : Int)) = True := Kp (Km Zc)
  replace q4 := Kp q4
  have p7 : 0 ≤ (0 : Int) := Zj
  have q7 : 0 < a0.size := (by have : (0 : Int) < (a0.size : Int) := Km Zc; omega)
  have hx7 : ∀ h : 0 < a0.size, ((a0[0]'h).toNat : Int) = bt a0 0 := Ypa a0 0
  clear p7
  have qi7 : (0 < (a0.size : Int)) = True := Kp (Km Zc)
  replace q7 := Kp q7
  have p9 : 0 ≤ (0 : Int) := Zj
  have q9 : 0 < a0.size := (by have : (0 : Int) < (a0.size : Int) := Km Zc; omega)
  have hx9 : ∀ h : 0 < a0.size, ((a0[0]'h).toNat : Int) = bt a0 0 := Ypa a0 0
  clear p9
  have qi9 : (0 < (a0.size : Int)) = True := Kp (Km Zc)
  replace q9 := Kp q9
  go_enter Tryz.func14, Tryz.ntmps14
  go_wp2
  go_ret2
  exact ⟨Zf, Zh⟩
 rw [if_neg c8] at H
 have fS : ((bt a0 0) == 117) = false := Kv c8
 have jA : ((bt a0 0) != 117) = true := Kw c8
 by_cases bK : (bt a0 0) = 108
 ·rw [if_pos bK] at H
  have fM : ((bt a0 0) == 108) = true := Kx bK
  have kH : ((bt a0 0) != 108) = false := Ku bK
  clear bK
  simp only [Kz, Kaa] at H
  obtain ⟨rfl, rfl⟩ := H
  have p4 : 0 ≤ (1 : Int) := Zj
  have q4 : 1 < a0.size := (by have : (1 : Int) < (a0.size : Int) := Km Zc; omega)
  have kA : ∀ h : 1 < a0.size, ((a0[1]'h).toNat : Int) = bt a0 1 := Ypa a0 1
  clear p4
  have uF : (1 < (a0.size : Int)) = True := Kp (Km Zc)
  replace q4 := Kp q4
  have p7 : 0 ≤ (0 : Int) := Zj
  have q7 : 0 < a0.size := (by have : (0 : Int) < (a0.size : Int) := Km Zc; omega)
  have hx7 : ∀ h : 0 < a0.size, ((a0[0]'h).toNat : Int) = bt a0 0 := Ypa a0 0
  clear p7
  have qi7 : (0 < (a0.size : Int)) = True := Kp (Km Zc)
  replace q7 := Kp q7
  have mU : 0 ≤ (0 : Int) := Zj
  have iQ : 0 < a0.size := (by have : (0 : Int) < (a0.size : Int) := Km Zc; omega)
  have rL : ∀ h : 0 < a0.size, ((a0[0]'h).toNat : Int) = bt a0 0 := Ypa a0 0
  clear mU
  have aMJ : (0 < (a0.size : Int)) = True := Kp (Km Zc)
  replace iQ := Kp iQ
  have p12 : 0 ≤ (0 : Int) := Zj
  have rE : 0 < a0.size := (by have : (0 : Int) < (a0.size : Int) := Km Zc; omega)
  have bAK : ∀ h : 0 < a0.size, ((a0[0]'h).toNat : Int) = bt a0 0 := Ypa a0 0
  clear p12
  have bAL : (0 < (a0.size : Int)) = True := Kp (Km Zc)
  replace rE := Kp rE
  go_enter Tryz.func14, Tryz.ntmps14
  go_wp2
  go_ret2
  exact ⟨Zf, Zh⟩
 rw [if_neg bK] at H
 have fM : ((bt a0 0) == 108) = false := Kv bK
 have kH : ((bt a0 0) != 108) = true := Kw bK
 by_cases cD : (bt a0 0) = 104
 rotate_left
 ·rw [if_neg cD] at H
  have gC : ((bt a0 0) == 104) = false := Kv cD
  have aBD : ((bt a0 0) != 104) = true := Kw cD
  simp only [Kz, Kaa] at H
  obtain ⟨rfl, rfl⟩ := H
  have p4 : 0 ≤ (1 : Int) := Zj
  have q4 : 1 < a0.size := (by have : (1 : Int) < (a0.size : Int) := Km Zc; omega)
  have kA : ∀ h : 1 < a0.size, ((a0[1]'h).toNat : Int) = bt a0 1 := Ypa a0 1
  clear p4
  have uF : (1 < (a0.size : Int)) = True := Kp (Km Zc)
  replace q4 := Kp q4
  have p7 : 0 ≤ (0 : Int) := Zj
  have q7 : 0 < a0.size := (by have : (0 : Int) < (a0.size : Int) := Km Zc; omega)
  have hx7 : ∀ h : 0 < a0.size, ((a0[0]'h).toNat : Int) = bt a0 0 := Ypa a0 0
  clear p7
  have qi7 : (0 < (a0.size : Int)) = True := Kp (Km Zc)
  replace q7 := Kp q7
  have mU : 0 ≤ (0 : Int) := Zj
  have iQ : 0 < a0.size := (by have : (0 : Int) < (a0.size : Int) := Km Zc; omega)
  have rL : ∀ h : 0 < a0.size, ((a0[0]'h).toNat : Int) = bt a0 0 := Ypa a0 0
  clear mU
  have aMJ : (0 < (a0.size : Int)) = True := Kp (Km Zc)
  replace iQ := Kp iQ
  have pO : 0 ≤ (0 : Int) := Zj
  have iP : 0 < a0.size := (by have : (0 : Int) < (a0.size : Int) := Km Zc; omega)
  have zO : ∀ h : 0 < a0.size, ((a0[0]'h).toNat : Int) = bt a0 0 := Ypa a0 0
  clear pO
  have aYB : (0 < (a0.size : Int)) = True := Kp (Km Zc)
  replace iP := Kp iP
  go_enter Tryz.func14, Tryz.ntmps14
  go_wp2
  go_ret2
  exact ⟨Zf, Zh⟩
 rw [if_pos cD] at H
 have gC : ((bt a0 0) == 104) = true := Kx cD
 have aBD : ((bt a0 0) != 104) = false := Ku cD
 clear cD
 simp only [Kz, Kaa] at H
 obtain ⟨rfl, rfl⟩ := H
 have p4 : 0 ≤ (1 : Int) := Zj
 have q4 : 1 < a0.size := (by have : (1 : Int) < (a0.size : Int) := Km Zc; omega)
 have kA : ∀ h : 1 < a0.size, ((a0[1]'h).toNat : Int) = bt a0 1 := Ypa a0 1
 clear p4
 have uF : (1 < (a0.size : Int)) = True := Kp (Km Zc)
 replace q4 := Kp q4
 have p7 : 0 ≤ (0 : Int) := Zj
 have q7 : 0 < a0.size := (by have : (0 : Int) < (a0.size : Int) := Km Zc; omega)
 have hx7 : ∀ h : 0 < a0.size, ((a0[0]'h).toNat : Int) = bt a0 0 := Ypa a0 0
 clear p7
 have qi7 : (0 < (a0.size : Int)) = True := Kp (Km Zc)
 replace q7 := Kp q7
 have mU : 0 ≤ (0 : Int) := Zj
 have iQ : 0 < a0.size := (by have : (0 : Int) < (a0.size : Int) := Km Zc; omega)
 have rL : ∀ h : 0 < a0.size, ((a0[0]'h).toNat : Int) = bt a0 0 := Ypa a0 0
 clear mU
 have aMJ : (0 < (a0.size : Int)) = True := Kp (Km Zc)
 replace iQ := Kp iQ
 have pO : 0 ≤ (0 : Int) := Zj
 have iP : 0 < a0.size := (by have : (0 : Int) < (a0.size : Int) := Km Zc; omega)
 have zO : ∀ h : 0 < a0.size, ((a0[0]'h).toNat : Int) = bt a0 0 := Ypa a0 0
 clear pO
 have aYB : (0 < (a0.size : Int)) = True := Kp (Km Zc)
 replace iP := Kp iP
 have p15 : 0 ≤ (0 : Int) := Zj
 have rF : 0 < a0.size := (by have : (0 : Int) < (a0.size : Int) := Km Zc; omega)
 have bAM : ∀ h : 0 < a0.size, ((a0[0]'h).toNat : Int) = bt a0 0 := Ypa a0 0
 clear p15
 have bAN : (0 < (a0.size : Int)) = True := Kp (Km Zc)
 replace rF := Kp rF
 go_enter Tryz.func14, Tryz.ntmps14
 go_wp2
 go_ret2
 exact ⟨Zf, Zh⟩
end Go.Proofs.YtihaeeldgimdiaaGreatDoor.X
