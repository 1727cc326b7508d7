import Derived.Test.YtnmglnglbdpjjaaGreatDoorUfX10
set_option linter.all false
namespace Go.Proofs.YtnmglnglbdpjjaaGreatDoor.X
open Go.RowKit Go.Yw.PrintWords Go.Yw.PrintLast Go.Yw.PrintMore
attribute [local go_sem] Yfe Ybe Yre Yue Yld Ykd Yee Yde
set_option maxHeartbeats 8000000
set_option maxRecDepth 100000
def Yye.f (k : Nat) (a0 : Y) : Option (Y × Int) := (Yn.f k a0).bind fun lF => ((Yfa.f k lF).bind fun gZ => (if gZ.toList = ([] : List UInt8) then (some ((⟨#[]⟩ : Y), 4)) else ((Yj.f k gZ).bind fun vO => (if vO = true then (some (gZ, 0)) else (some ((⟨#[]⟩ : Y), 17))))))
theorem Yye.calls (k : Nat) (a0 r1 : Y) (r2 : Int) (w : World) (hE : EnvOk w) (h : Yye.f k a0 = some (r1, r2)) :
  Calls Tryz.prog 20 #[.string a0] w fun e w' => e = .returned (.tuple #[.string r1, .int .i64 r2]) ∧ Below w.heap.size w w' := by
 have HE := Ya.mk hE
 clear hE
 have HB := Ya.mk (Below.refl w.heap.size w)
 have H : ((Yn.f k a0).bind fun lF => ((Yfa.f k lF).bind fun gZ => (if gZ.toList = ([] : List UInt8) then (some ((⟨#[]⟩ : Y), 4)) else ((Yj.f k gZ).bind fun vO => (if vO = true then (some (gZ, 0)) else (some ((⟨#[]⟩ : Y), 17))))))) = some (r1, r2) := h
 clear h
 obtain ⟨lF, dW, H⟩ := Ku H
 try dsimp -simprocs only at H
 have A2 := Ya.mk dW
 clear dW
 obtain ⟨gZ, jC, H⟩ := Ku H
 try dsimp -simprocs only at H
 have A3 := Ya.mk jC
 clear jC
 by_cases c4 : gZ.toList = ([] : List UInt8)
 ·rw [if_pos c4] at H
  have bX : (gZ.toList == ([] : List UInt8)) = true := Kba c4
  have jJ : (gZ.toList != ([] : List UInt8)) = false := Ky c4
  clear c4
  simp only [Kda, Kea] at H
  obtain ⟨rfl, rfl⟩ := H
  go_enter Tryz.func20, Tryz.ntmps20
  go_wp2_with (first | ((with_reducible refine Yh (f := 55) rfl ?_); refine Yca (some 5) rfl rfl Tryz.func55 Zi rfl #[.string a0] rfl Zb ?_; (with_reducible refine (Yn.calls k a0 lF _ ?z1 A2.out).mono ?_); (case z1 => exact Kh); rintro e w5 ⟨rfl, hb⟩; refine ⟨_, rfl, ?_⟩; replace HB := Ya.mk (Yt Za hb); (try clear hb)) | ((with_reducible refine Yh (f := 47) rfl ?_); refine Yca (some 6) rfl rfl Tryz.func47 Zi rfl #[.string lF] rfl Zb ?_; (with_reducible refine (Yfa.calls k lF gZ _ ?z1 A3.out).mono ?_); (case z1 => exact Kh); rintro e w6 ⟨rfl, hb⟩; refine ⟨_, rfl, ?_⟩; replace HB := Ya.mk (Yt Za hb); (try clear hb)))
  go_ret2
  exact ⟨Zl, Za⟩
 rw [if_neg c4] at H
 have bX : (gZ.toList == ([] : List UInt8)) = false := Kz c4
 have jJ : (gZ.toList != ([] : List UInt8)) = true := Kaa c4
 obtain ⟨vO, oA, H⟩ := Ku H
 try dsimp -simprocs only at H
 have A7 := Ya.mk oA
 clear oA
 by_cases c8 : vO = true
 ·subst c8
  rw [if_pos rfl] at H
  simp only [Kda, Kea] at H
  obtain ⟨rfl, rfl⟩ := H
  go_enter Tryz.func20, Tryz.ntmps20
  go_wp2_with (first | ((with_reducible refine Yh (f := 55) rfl ?_); refine Yca (some 5) rfl rfl Tryz.func55 Zi rfl #[.string a0] rfl Zb ?_; (with_reducible refine (Yn.calls k a0 lF _ ?z1 A2.out).mono ?_); (case z1 => exact Kh); rintro e w9 ⟨rfl, hb⟩; refine ⟨_, rfl, ?_⟩; replace HB := Ya.mk (Yt Za hb); (try clear hb)) | ((with_reducible refine Yh (f := 47) rfl ?_); refine Yca (some 6) rfl rfl Tryz.func47 Zi rfl #[.string lF] rfl Zb ?_; (with_reducible refine (Yfa.calls k lF gZ _ ?z1 A3.out).mono ?_); (case z1 => exact Kh); rintro e pN ⟨rfl, hb⟩; refine ⟨_, rfl, ?_⟩; replace HB := Ya.mk (Yt Za hb); (try clear hb)) | ((with_reducible refine Yh (f := 56) rfl ?_); refine Yca (some 10) rfl rfl Tryz.func56 Zi rfl #[.string gZ] rfl Zb ?_; (with_reducible refine (Yj.calls k gZ true _ ?z1 A7.out).mono ?_); (case z1 => exact Kh); rintro e w11 ⟨rfl, hb⟩; refine ⟨_, rfl, ?_⟩; replace HB := Ya.mk (Yt Za hb); (try clear hb)))
  go_ret2
  exact ⟨Zl, Za⟩
 replace c8 := Kx c8
 subst c8
 rw [if_neg (show ¬ (false = true) by decide)] at H
 simp only [Kda, Kea] at H
 obtain ⟨rfl, rfl⟩ := H
 go_enter Tryz.func20, Tryz.ntmps20
 go_wp2_with (first | ((with_reducible refine Yh (f := 55) rfl ?_); refine Yca (some 5) rfl rfl Tryz.func55 Zi rfl #[.string a0] rfl Zb ?_; (with_reducible refine (Yn.calls k a0 lF _ ?z1 A2.out).mono ?_); (case z1 => exact Kh); rintro e uS ⟨rfl, hb⟩; refine ⟨_, rfl, ?_⟩; replace HB := Ya.mk (Yt Za hb); (try clear hb)) | ((with_reducible refine Yh (f := 47) rfl ?_); refine Yca (some 6) rfl rfl Tryz.func47 Zi rfl #[.string lF] rfl Zb ?_; (with_reducible refine (Yfa.calls k lF gZ _ ?z1 A3.out).mono ?_); (case z1 => exact Kh); rintro e nH ⟨rfl, hb⟩; refine ⟨_, rfl, ?_⟩; replace HB := Ya.mk (Yt Za hb); (try clear hb)) | ((with_reducible refine Yh (f := 56) rfl ?_); refine Yca (some 10) rfl rfl Tryz.func56 Zi rfl #[.string gZ] rfl Zb ?_; (with_reducible refine (Yj.calls k gZ false _ ?z1 A7.out).mono ?_); (case z1 => exact Kh); rintro e w14 ⟨rfl, hb⟩; refine ⟨_, rfl, ?_⟩; replace HB := Ya.mk (Yt Za hb); (try clear hb)))
 go_ret2
 exact ⟨Zl, Za⟩
mutual
def Yq.j1 : Nat → Y → Option (Y)
 | 0, _ => none
 | k + 1, x0 => Yq.l1 k x0
def Yq.j3 : Nat → Y → Option (Y)
 | 0, _ => none
 | k + 1, x0 => Yq.l2 k x0 ([] : List Int) 0
def Yq.l2 : Nat → Y → List Int → Int → Option (Y)
 | 0, _, _, _ => none
 | k + 1, x0, x3, x4 => if x4 < (x0.size : Int) then (if 0 ≤ x4 then (if (bt x0 x4) = 9 then (Yq.l2 k x0 x3 (wrap64 (x4 + 1))) else (if (bt x0 x4) = 10 then (Yq.l2 k x0 x3 (wrap64 (x4 + 1))) else (if (bt x0 x4) = 13 then (Yq.l2 k x0 x3 (wrap64 (x4 + 1))) else (if x3.length < 140737488355328 then (Yq.l2 k x0 (x3 ++ [bt x0 x4]) (wrap64 (x4 + 1))) else (none))))) else (none)) else (some (strOfNums x3))
def Yq.l1 : Nat → Y → Option (Y)
 | 0, _ => none
 | k + 1, x0 => if (x0.size : Int) > 0 then (if 0 ≤ (wrap64 ((x0.size : Int) - 1)) then (if (wrap64 ((x0.size : Int) - 1)) < (x0.size : Int) then (if (bt x0 (wrap64 ((x0.size : Int) - 1))) ≤ 32 then (if (wrap64 ((x0.size : Int) - 1)) ≤ (x0.size : Int) then (Yq.l1 k (x0.extract 0 ((wrap64 ((x0.size : Int) - 1)) : Int).toNat)) else (none)) else (Yq.j3 k x0)) else (none)) else (none)) else (Yq.j3 k x0)
def Yq.l0 : Nat → Y → Option (Y)
 | 0, _ => none
 | k + 1, x0 => if (x0.size : Int) > 0 then (if 0 < (x0.size : Int) then (if (bt x0 0) ≤ 32 then (if 1 ≤ (x0.size : Int) then (Yq.l0 k (x0.extract 1 x0.size)) else (none)) else (Yq.j1 k x0)) else (none)) else (Yq.j1 k x0)
end
def Yq.f (k : Nat) (a0 : Y) : Option (Y) := Yq.l0 k a0
theorem Yq.calls (k : Nat) (a0 r : Y) (w : World) (hE : EnvOk w) (h : Yq.f k a0 = some r) :
  Calls Tryz.prog 22 #[.string a0] w fun e w' => e = .returned (.string r) ∧ Below w.heap.size w w' := by
 have HE := Ya.mk hE
 clear hE
 have HB := Ya.mk (Below.refl w.heap.size w)
 have H : (Yq.l0 k a0) = some r := h
 clear h
 have HC2 := Ya.mk H
 clear H
 go_enter Tryz.func22, Tryz.ntmps22
 go_upto_block 0 with (fail)
 go_cut [0] (fun v0 wc => ∃ (kq : Nat) (aX : Y), v0 = .string aX ∧ Ya (Yq.j1 kq aX = some r) ∧ Ya (kq ≤ k) ∧ Ya (Below w.heap.size w wc))
 case first =>
  have H := HC2.out
  clear HC2
  have H' := Ya.mk H
  clear H
  go_wp2
  go_loopg [0] k (fun kq v0 w' => ∃ (aX : Y), v0 = .string aX ∧ Ya (Yq.l0 kq aX = some r) ∧ Ya (kq ≤ k) ∧ Ya (Below w.heap.size w w'))
  case atStart => exact ⟨(a0), Zf, H', ⟨Kw _⟩, ⟨Za⟩⟩
  case round =>
   clear H'
   try clear c2
   try clear p2
   obtain ⟨aX, rfl, HA, dB, HB⟩ := hrel
   cases gk with
   | zero => exact absurd HA.out (by simp [Yq.l0])
   | succ k1 =>
    have H := HA.out
    clear HA
    simp only [Yq.l0] at H
    by_cases c3 : (aX.size : Int) > 0
    rotate_left
    ·rw [if_neg c3] at H
     have cC : decide (0 < (aX.size : Int)) = false := Ks c3
     have fX : decide (0 < aX.size) = false := Ks Zk
     clear c3
     (first | rw [cC] | (simp only [Yaa, Yda]; rw [cC]) | skip)
     have H' := Ya.mk H
     clear H
     go_wp2
     go_meet
     case rel => exact ⟨_, (aX), Zf, H', ⟨Zia⟩, ⟨Za⟩⟩
    rw [if_pos c3] at H
    have cC : decide (0 < (aX.size : Int)) = true := Kr c3
    have fX : decide (0 < aX.size) = true := Kr Zk
    clear c3
    (first | rw [cC] | (simp only [Yaa, Yda]; rw [cC]) | skip)
    by_cases c4 : 0 < (aX.size : Int)
    rotate_left
    ·rw [if_neg c4] at H
     exact absurd H Zv
    rw [if_pos c4] at H
    have bX : decide (0 < (aX.size : Int)) = true := Kr c4
    have jJ : decide (0 < aX.size) = true := Kr Zk
    clear c4
    by_cases c6 : (bt aX 0) ≤ 32
    rotate_left
    ·rw [if_neg c6] at H
     have dN : decide ((bt aX 0) ≤ 32) = false := Ks c6
     clear c6
     have H' := Ya.mk H
     clear H
     have p5 : 0 ≤ (0 : Int) := Zk
     have q5 : 0 < aX.size := (by have : (0 : Int) < (aX.size : Int) := Kq Zc; omega)
     have dV : ∀ h : 0 < aX.size, ((aX[0]'h).toNat : Int) = bt aX 0 := Ybb aX 0
     clear p5
     have qi5 : (0 < (aX.size : Int)) = True := Kt (Kq Zc)
     replace q5 := Kt q5
     go_wp2
     go_meet
     case rel => exact ⟨_, (aX), Zf, H', ⟨Zia⟩, ⟨Za⟩⟩
    rw [if_pos c6] at H
    have dN : decide ((bt aX 0) ≤ 32) = true := Kr c6
    clear c6
    by_cases c7 : 1 ≤ (aX.size : Int)
    rotate_left
    ·rw [if_neg c7] at H
     exact absurd H Zv
    rw [if_pos c7] at H
    have cW := Kt c7
    have iD : decide (1 ≤ (aX.size : Int)) = true := Kr c7
    clear c7
    have H' := Ya.mk H
    clear H
    have p5 : 0 ≤ (0 : Int) := Zk
    have q5 : 0 < aX.size := (by have : (0 : Int) < (aX.size : Int) := Kq Zc; omega)
    have dV : ∀ h : 0 < aX.size, ((aX[0]'h).toNat : Int) = bt aX 0 := Ybb aX 0
    clear p5
    have qi5 : (0 < (aX.size : Int)) = True := Kt (Kq Zc)
    replace q5 := Kt q5
    go_wp2
    go_roundg k1
    case measure => have := dB.out; omega
    case rel => exact ⟨(aX.extract 1 aX.size), Zf, H', ⟨Zba⟩, ⟨Za⟩⟩
 case rest =>
  clear HC2
  obtain ⟨kq, aX, rfl, HA, HJ1, HB⟩ := hcut
  cases kq with
  | zero => exact absurd HA.out (by simp [Yq.j1])
  | succ kj1 =>
   have H := HA.out
   clear HA
   simp only [Yq.j1] at H
   have HC8 := Ya.mk H
   clear H
   go_upto_block 2 with (fail)
   go_cut [0] (fun v0 wc => ∃ (kq : Nat) (cZ : Y), v0 = .string cZ ∧ Ya (Yq.j3 kq cZ = some r) ∧ Ya (kq ≤ kj1) ∧ Ya (Below w.heap.size w wc))
   case first =>
    have H := HC8.out
    clear HC8
    have H' := Ya.mk H
    clear H
    go_wp2
    go_loopg [0] kj1 (fun kq v0 w' => ∃ (fT : Y), v0 = .string fT ∧ Ya (Yq.l1 kq fT = some r) ∧ Ya (kq ≤ kj1) ∧ Ya (Below w.heap.size w w'))
    case atStart => exact ⟨(aX), Zf, H', ⟨Kw _⟩, ⟨Za⟩⟩
    case round =>
     clear H'
     try clear c2
     try clear p2
     try clear c3
     try clear cC
     try clear fX
     try clear c4
     try clear bX
     try clear jJ
     try clear p5
     try clear q5
     try clear dV
     try clear qi5
     try clear c6
     try clear dN
     try clear c7
     try clear cW
     try clear iD
     try clear p2
     try clear p5
     try clear q5
     obtain ⟨fT, rfl, HA, jX, HB⟩ := hrel
     cases gk with
     | zero => exact absurd HA.out (by simp [Yq.l1])
     | succ k2 =>
      have H := HA.out
      clear HA
      simp only [Yq.l1] at H
      by_cases c9 : (fT.size : Int) > 0
      rotate_left
      ·rw [if_neg c9] at H
       have iC : decide (0 < (fT.size : Int)) = false := Ks c9
       have lT : decide (0 < fT.size) = false := Ks Zk
       clear c9
       (first | rw [iC] | (simp only [Yaa, Yda]; rw [iC]) | skip)
       have H' := Ya.mk H
       clear H
       go_wp2
       go_meet
       case rel => exact ⟨_, (fT), Zf, H', ⟨by have := HJ1.out; have := jX.out; first | omega | exact Kw _⟩, ⟨Za⟩⟩
      rw [if_pos c9] at H
      have iC : decide (0 < (fT.size : Int)) = true := Kr c9
      have lT : decide (0 < fT.size) = true := Kr Zk
      clear c9
      (first | rw [iC] | (simp only [Yaa, Yda]; rw [iC]) | skip)
      obtain ⟨ji10, jP⟩ : ∃ j_ : Int, (wrap64 ((fT.size : Int) - 1)) = j_ := ⟨_, rfl⟩
      replace H : (if 0 ≤ (ji10) then (if (ji10) < (fT.size : Int) then (if (bt fT (ji10)) ≤ 32 then (if (ji10) ≤ (fT.size : Int) then (Yq.l1 k2 (fT.extract 0 ((ji10) : Int).toNat)) else (none)) else (Yq.j3 k2 fT)) else (none)) else (none)) = some r := by first | (rw [jP] at H; exact H) | (simp only [jP] at H ⊢; exact H)
      have hji10w : (IntKind.i64.wrap ((fT.size : Int) - 1)) = ji10 := (Yaa _).trans jP
      by_cases c11 : 0 ≤ (ji10)
      rotate_left
      ·rw [if_neg c11] at H
       exact absurd H Zv
      rw [if_pos c11] at H
      have gT : decide (0 ≤ (ji10)) = true := Kr c11
      clear c11
      by_cases dD : (ji10) < (fT.size : Int)
      rotate_left
      ·rw [if_neg dD] at H
       exact absurd H Zv
      rw [if_pos dD] at H
      have dS : decide ((ji10) < (fT.size : Int)) = true := Kr dD
      clear dD
      by_cases gQ : (bt fT (ji10)) ≤ 32
      rotate_left
      ·rw [if_neg gQ] at H
       have iE : decide ((bt fT (ji10)) ≤ 32) = false := Ks gQ
       clear gQ
       have H' := Ya.mk H
       clear H
       have mL : (0 ≤ ((ji10) : Int)) = True := Kp
       have mM : (ji10) < (fT.size : Int) := Kq Zc
       have sZ := Ybb fT (ji10)
       replace mM := Kt mM
       go_wp2
       go_meet
       case rel => exact ⟨_, (fT), Zf, H', ⟨by have := HJ1.out; have := jX.out; first | omega | exact Kw _⟩, ⟨Za⟩⟩
      rw [if_pos gQ] at H
      have iE : decide ((bt fT (ji10)) ≤ 32) = true := Kr gQ
      clear gQ
      have eT := Kt (Kq Zc : 0 ≤ (ji10))
      by_cases eO : (ji10) ≤ (fT.size : Int)
      rotate_left
      ·rw [if_neg eO] at H
       exact absurd H Zv
      rw [if_pos eO] at H
      have hF := Kt eO
      have kF : decide ((ji10) ≤ (fT.size : Int)) = true := Kr eO
      clear eO
      have H' := Ya.mk H
      clear H
      have mL : (0 ≤ ((ji10) : Int)) = True := Kp
      have mM : (ji10) < (fT.size : Int) := Kq Zc
      have sZ := Ybb fT (ji10)
      replace mM := Kt mM
      go_wp2
      go_roundg k2
      case measure => have := HJ1.out; have := jX.out; omega
      case rel => exact ⟨(fT.extract 0 ((ji10) : Int).toNat), (by first | rfl | (simp; done) | (simp only [← jP] <;> (first | rfl | simp)) | (simp [*]; done)), H', ⟨by have := HJ1.out; have := jX.out; omega⟩, ⟨Za⟩⟩
   case rest =>
    clear HC8
    try clear c2
    try clear p2
    try clear c3
    try clear cC
    try clear fX
    try clear c4
    try clear bX
    try clear jJ
    try clear p5
    try clear q5
    try clear dV
    try clear qi5
    try clear c6
    try clear dN
    try clear c7
    try clear cW
    try clear iD
    try clear p2
    try clear p5
    try clear q5
    obtain ⟨kq, cZ, rfl, HA, HJ7, HB⟩ := hcut
    cases kq with
    | zero => exact absurd HA.out (by simp [Yq.j3])
    | succ kj7 =>
     have H := HA.out
     clear HA
     simp only [Yq.j3] at H
     have H' := Ya.mk H
     clear H
     go_wp2
     go_loopg [3, 4] kj7 (fun kq v3 v4 w' => ∃ (gP : List Int) (cA : Int), v4 = .int .i64 cA ∧ Ya (Yq.l2 kq cZ gP cA = some r) ∧ Ya (kq ≤ kj7) ∧ Ya (Kd.R (Kd.int .u8) 5 w' w.heap.size (fun _ => True) v3 gP) ∧ Ya (Below w.heap.size w w'))
     case atStart => exact ⟨(([] : List Int)), (0), Zf, H', ⟨Kw _⟩, ⟨Zfa⟩, ⟨Za⟩⟩
     case round =>
      clear H'
      try clear c1
      try clear p1
      try clear q1
      try clear wE
      try clear c2
      try clear p2
      try clear c3
      try clear cC
      try clear fX
      try clear c4
      try clear bX
      try clear jJ
      try clear p5
      try clear q5
      try clear dV
      try clear qi5
      try clear c6
      try clear dN
      try clear p6
      try clear c7
      try clear cW
      try clear iD
      try clear c9
      try clear iC
      try clear lT
      try clear c11
      try clear gT
      try clear dD
      try clear dS
      try clear mL
      try clear mM
      try clear sZ
      try clear gQ
      try clear iE
      try clear dG
      try clear eT
      try clear eO
      try clear hF
      try clear kF
      try clear p1
      try clear mL
      try clear p2
      try clear p5
      try clear p6
      try clear q1
      try clear mM
      try clear q5
      obtain ⟨gP, cA, rfl, HA, sM, HO_3, HB⟩ := hrel
      cases gk with
      | zero => exact absurd HA.out (by simp [Yq.l2])
      | succ k3 =>
       have H := HA.out
       clear HA
       simp only [Yq.l2] at H
       by_cases eG : cA < (cZ.size : Int)
       rotate_left
       ·rw [if_neg eG] at H
        have jO : decide (cA < (cZ.size : Int)) = false := Ks eG
        clear eG
        obtain rfl := Kv H
        have aXq := Ygh (P := Tryz.prog) Tryz.underlying62 Tryz.underlying5 Tryz.underlying9 (Kd.own_of_R HO_3.out)
        go_wp2
        go_ret
        exact ⟨Zl, Za⟩
       rw [if_pos eG] at H
       have jO : decide (cA < (cZ.size : Int)) = true := Kr eG
       clear eG
       by_cases eP : 0 ≤ cA
       rotate_left
       ·rw [if_neg eP] at H
        exact absurd H Zv
       rw [if_pos eP] at H
       have oB : decide (0 ≤ cA) = true := Kr eP
       clear eP
       by_cases gX : (bt cZ cA) = 9
       ·rw [if_pos gX] at H
        have kE : ((bt cZ cA) == 9) = true := Kba gX
        have sX : ((bt cZ cA) != 9) = false := Ky gX
        clear gX
        have H' := Ya.mk H
        clear H
        have p19 : (0 ≤ (cA : Int)) = True := Kp
        have q19 : (cA < (cZ.size : Int)) = True := Kp
        have aGp := Ybb cZ cA
        go_wp2
        go_roundg k3
        case measure => have := HJ1.out; have := HJ7.out; have := sM.out; omega
        case rel => exact ⟨(gP), (wrap64 (cA + 1)), Zf, H', ⟨Zhb⟩, ⟨Zm⟩, ⟨Za⟩⟩
       rw [if_neg gX] at H
       have kE : ((bt cZ cA) == 9) = false := Kz gX
       have sX : ((bt cZ cA) != 9) = true := Kaa gX
       by_cases iF : (bt cZ cA) = 10
       ·rw [if_pos iF] at H
        have lP : ((bt cZ cA) == 10) = true := Kba iF
        have oN : ((bt cZ cA) != 10) = false := Ky iF
        clear iF
        have H' := Ya.mk H
        clear H
        have p19 : (0 ≤ (cA : Int)) = True := Kp
        have q19 : (cA < (cZ.size : Int)) = True := Kp
        have aGp := Ybb cZ cA
        have p21 : (0 ≤ (cA : Int)) = True := Kp
        have q21 : (cA < (cZ.size : Int)) = True := Kp
        have aDq := Ybb cZ cA
        go_wp2
        go_roundg k3
        case measure => have := HJ1.out; have := HJ7.out; have := sM.out; omega
        case rel => exact ⟨(gP), (wrap64 (cA + 1)), Zf, H', ⟨Zhb⟩, ⟨Zm⟩, ⟨Za⟩⟩
       rw [if_neg iF] at H
       have lP : ((bt cZ cA) == 10) = false := Kz iF
       have oN : ((bt cZ cA) != 10) = true := Kaa iF
       by_cases kB : (bt cZ cA) = 13
       ·rw [if_pos kB] at H
        have pY : ((bt cZ cA) == 13) = true := Kba kB
        have pZ : ((bt cZ cA) != 13) = false := Ky kB
        clear kB
        have H' := Ya.mk H
        clear H
        have p19 : (0 ≤ (cA : Int)) = True := Kp
        have q19 : (cA < (cZ.size : Int)) = True := Kp
        have aGp := Ybb cZ cA
        have p21 : (0 ≤ (cA : Int)) = True := Kp
        have q21 : (cA < (cZ.size : Int)) = True := Kp
        have aDq := Ybb cZ cA
        have p23 : (0 ≤ (cA : Int)) = True := Kp
        have q23 : (cA < (cZ.size : Int)) = True := Kp
        have aWi := Ybb cZ cA
        go_wp2
        go_roundg k3
        case measure => have := HJ1.out; have := HJ7.out; have := sM.out; omega
        case rel => exact ⟨(gP), (wrap64 (cA + 1)), Zf, H', ⟨Zhb⟩, ⟨Zm⟩, ⟨Za⟩⟩
       rw [if_neg kB] at H
       have pY : ((bt cZ cA) == 13) = false := Kz kB
       have pZ : ((bt cZ cA) != 13) = true := Kaa kB
       by_cases vF : gP.length < 140737488355328
       rotate_left
       ·rw [if_neg vF] at H
        exact absurd H Zv
       rw [if_pos vF] at H
       have aJZ := Ya.mk vF
       clear vF
       obtain ⟨aKa, uJ⟩ : ∃ y_ : List Int, y_ = (gP ++ [bt cZ cA]) := ⟨_, rfl⟩
       replace H : (Yq.l2 k3 cZ aKa (wrap64 (cA + 1))) = some r := by first | (rw [uJ]; with_reducible exact H) | (have dH := (Kfa _ _).symm.trans H; rw [uJ]; with_reducible exact dH) | (have dH := (Kfa _ _).symm.trans H; with_reducible exact dH) | with_reducible exact H | (rw [uJ]; exact H) | exact H
       have aKb := Ya.mk uJ
       clear uJ
       have H' := Ya.mk H
       clear H
       have p19 : (0 ≤ (cA : Int)) = True := Kp
       have q19 : cA < (cZ.size : Int) := Kq Zc
       have aGp := Ybb cZ cA
       replace q19 := Kt q19
       have p21 : (0 ≤ (cA : Int)) = True := Kp
       have q21 : cA < (cZ.size : Int) := Kq Zc
       have aDq := Ybb cZ cA
       replace q21 := Kt q21
       have p23 : (0 ≤ (cA : Int)) = True := Kp
       have q23 : cA < (cZ.size : Int) := Kq Zc
       have aWi := Ybb cZ cA
       replace q23 := Kt q23
       have p25 : (0 ≤ (cA : Int)) = True := Kp
       have q25 : cA < (cZ.size : Int) := Kq Zc
       have aYs := Ybb cZ cA
       replace q25 := Kt q25
       go_wp2_with (first | ((with_reducible refine Yje (b := .append) (xs := #[.tmp 53, .tmp 57]) rfl ?_); (try (refine Yni Zga ?_; dsimp only)); at_builtin; refine Kd.R_append (Kd.int .u8) (w0 := w) w.heap.size rfl (.tmp 53) (.tmp 57) 62 5 (.int .u8 0) 1 rfl Tryz.underlying62 Yqm rfl Zca Zk u3 gP (bt cZ cA) [.int .u8 (bt cZ cA)] (fun _ => True) (fun _ => False) rfl rfl ?aP (fun _ hk => hk.elim) ?aF ?aO ?aB ?aS ?aL ?_; (case aP => exact rfl); (case aB => exact Za); (case aF => exact (fun _ _ => trivial)); (case aO => exact Zm); (case aS => exact Kg); (case aL => have := aJZ.out; omega); intro aYt w27 ho hb hg hat; rw [← aKb.out] at ho; replace HB := Ya.mk (hb); have aKc := Ya.mk (ho); clear HO_3; clear ho hb hg hat))
       go_roundg k3
       case measure => have := HJ1.out; have := HJ7.out; have := sM.out; omega
       case rel => exact ⟨(aKa), (wrap64 (cA + 1)), Zf, H', ⟨Zhb⟩, ⟨by (with_reducible repeat (first | apply Kd.R_alloc | apply Kd.R_drewN | apply Kd.R_drew)); exact aKc.out⟩, ⟨Za⟩⟩
end Go.Proofs.YtnmglnglbdpjjaaGreatDoor.X
