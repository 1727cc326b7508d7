import Derived.Test.YtnmglnglbdpjjaaGreatDoorUfZx
set_option linter.all false
namespace Go.Proofs.YtnmglnglbdpjjaaGreatDoor.X
open Go.RowKit Go.Lib Go.Shelf Go.Yw.PrintWords Go.Yw.PrintLast Go.Yw.PrintMore
theorem Yal (q : List UInt8) : Ypa.f (ofL q) = some (match q with | [] => false | c :: _ => Yrb c) := by
 unfold Ypa.f
 cases q with
 | nil => rw [if_pos (Ywc [])]
 | cons c t =>
  have hb : bt (ofL (c :: t)) 0 = (c.toNat : Int) := (Yvc (ofL (c :: t)) 0 c t rfl).2.1
  rw [if_neg (by rw [Ywc]; simp), if_pos (by rw [Yy, List.length_cons]; omega), hb, Yci]; rfl
def Ysl (q : List UInt8) : Bool := match q with | [] => false | c :: _ => Yrb c
theorem Yhn (q : List UInt8) : Yjh q = 0 ↔ Ysl q = false := by
 unfold Yjh Ysl
 cases q with
 | nil => simp
 | cons c t =>
  rw [List.take_succ_cons]
  by_cases h : Yrb c = true
  ·rw [List.takeWhile_cons_of_pos h]; simp [h]
  ·rw [List.takeWhile_cons_of_neg h]; simp [h]
theorem Ynn (c : UInt8) (t : List UInt8) : Yjh (c :: t) = 2 ↔ Yrb c = true ∧ Ysl t = true := by
 unfold Yjh Ysl
 cases t with
 | nil =>
  by_cases h : Yrb c = true
  ·simp [List.takeWhile_cons, h]
  ·simp [List.takeWhile_cons, h]
 | cons d r =>
  by_cases h : Yrb c = true
  ·by_cases h2 : Yrb d = true
   ·simp [List.takeWhile_cons, h, h2]
   ·simp [List.takeWhile_cons, h, h2]
  ·simp [List.takeWhile_cons, h]
theorem Yns (c : List UInt8) : if Yud c = 0 then Yoe c = ([], [], false) else Yoe c = (c.take (Yud c - 1), c.drop (Yud c), true) := by
 have pC : Ywb 58 = false := by decide
 unfold Yud
 by_cases H : Yyc (c.headD 0) = true ∧ (c.dropWhile Ywb).head? = some 58
 ·rw [if_pos H]
  obtain ⟨h1, h2⟩ := H
  obtain ⟨b, hb⟩ : ∃ b, c.dropWhile Ywb = 58 :: b := by
   cases hd : c.dropWhile Ywb with
   | nil => rw [hd] at h2; cases h2
   | cons x y => rw [hd] at h2; simp at h2; exact ⟨y, by rw [h2]⟩
  have hc : c = c.takeWhile Ywb ++ 58 :: b := by rw [← hb, List.takeWhile_append_dropWhile]
  have hall : ∀ x ∈ c.takeWhile Ywb, Ywb x = true := fun x hx => List.all_eq_true.1 (List.all_takeWhile) x hx
  generalize ha : c.takeWhile Ywb = a at hc hall
  have hn : (58 : UInt8) ∉ a := fun hm => by have := hall 58 hm; rw [pC] at this; cases this
  subst hc
  have hne : a ≠ [] := by
   rintro rfl
   simp at h1
   revert h1; decide
  have hhd : (a ++ 58 :: b).headD 0 = a.headD 0 := by cases a with | nil => exact absurd rfl hne | cons x y => rfl
  have hcond : (Lib.cut (a ++ 58 :: b) [58]).2.2 = true ∧ (Lib.cut (a ++ 58 :: b) [58]).1 ≠ [] ∧ Yyc ((Lib.cut (a ++ 58 :: b) [58]).1.headD 0) = true ∧ (Lib.cut (a ++ 58 :: b) [58]).1.all Ywb = true := by
   rw [Yun 58 a b hn]
   exact ⟨rfl, hne, by rw [← hhd]; exact h1, List.all_eq_true.2 hall⟩
  rw [if_neg (show ¬ a.length + 1 = 0 by omega)]
  unfold Yoe
  rw [if_pos hcond, Yun 58 a b hn]
  have e1 : (a ++ 58 :: b).take (a.length + 1 - 1) = a := by rw [Nat.add_sub_cancel]; exact List.take_left
  have e2 : (a ++ 58 :: b).drop (a.length + 1) = b := by
   rw [show a ++ 58 :: b = (a ++ [58]) ++ b by simp, show a.length + 1 = (a ++ [58]).length by simp]; exact List.drop_left
  rw [e1, e2]
 ·rw [if_neg H, if_pos rfl]
  unfold Yoe
  rw [if_neg]
  rintro ⟨k1, k2, k3, k4⟩
  apply H
  rw [Yvr] at k1 k2 k3 k4
  simp only at k1 k2 k3 k4
  have hm : (58 : UInt8) ∈ c := by simpa using k1
  obtain ⟨a, b, rfl, hn⟩ := Ywk 58 c hm
  have ha : ∀ x ∈ a, (x != 58) = true := fun x hx => by rw [bne_iff_ne]; rintro rfl; exact hn hx
  have ht := Ypk (· != 58) a (58 :: b) ha
  rw [ht.1, List.takeWhile_cons_of_neg Zv, List.append_nil] at k2 k3 k4
  have hs := Ypk Ywb a (58 :: b) (List.all_eq_true.1 k4)
  refine ⟨?_, ?_⟩
  ·cases a with
   | nil => exact absurd rfl k2
   | cons x y => exact k3
  ·rw [hs.2, List.dropWhile_cons_of_neg (by rw [pC]; simp)]; rfl
def ansV (r : UrlE) : Array Value := #[.agg (uc r.1 r.2.1 r.2.2.1 r.2.2.2.1 r.2.2.2.2.1 r.2.2.2.2.2.1 r.2.2.2.2.2.2.1 r.2.2.2.2.2.2.2.1), .int .i64 r.2.2.2.2.2.2.2.2]
theorem Yon (s : Y) (hs : s.size ≤ 100000000) : Ysb.f s = some (Yqf s.data.toList) := by unfold Ysb.f; rw [if_pos hs]
theorem Yso (b1 b2 : Y) (b3 : Int) (b4 b5 b6 : Y) (b7 b8 : Bool) (s : Y) (hs : s.size ≤ 30000000) : Yac.f b1 b2 b3 b4 b5 b6 b7 b8 s = some (b1, b2, b3, Ycd s.data.toList, Yyb s.data.toList, Ycc s.data.toList, Yqc s.data.toList, Ydc s.data.toList) := by unfold Yac.f; rw [if_pos hs]
theorem low_sch {sch : List UInt8} (h : sch = Yeh ∨ sch = Yzf) : lowL sch = sch := by rcases h with rfl | rfl <;> decide
section
variable {sch host : List UInt8} {p : Int} {path query frag : List UInt8} {hq hf : Bool}
abbrev Ybi (f : FuncId) (sch host : List UInt8) (p : Int) (path query frag : List UInt8) (hq hf : Bool) (s : Y) (r : UrlE) : Prop :=
 ∀ W : World, EnvOk W → Calls Tryz.prog f #[.agg (uc (ofL sch) (ofL host) p (ofL path) (ofL query) (ofL frag) hq hf), .string s] W fun e w' => e = .returned (.tuple (ansV r)) ∧ Below W.heap.size W w'
theorem Yct (h : Canon sch host p path query frag hq hf) (s : Y) (hs : s.size ≤ 1000000) (r : UrlE) (hlong : 2048 < (Yqd s.data.toList).length → r = Ytb 5)
  (hj : (Yqd s.data.toList).length ≤ 2048 → Ybi 74 sch host p path query frag hq hf (ofL (Yqd s.data.toList)) r) : Ybi 34 sch host p path query frag hq hf s r := by
 intro W hE
 have hz := h.size
 rw [← Ykj _ _ _ _ _ _ _ _ h.p0] at hz
 obtain ⟨k0, h0⟩ := Yet (u7 := hq) (u8 := hf) (Yyo h) Zk
 rw [Ydn h] at h0
 obtain ⟨k1, h1⟩ := Yot s Zk
 have g0 := h0 k0 (Kw _)
 have g1 := h1 k1 (Kw _)
 by_cases hl : 2048 < (Yqd s.data.toList).length
 ·rw [hlong hl]
  exact rJoin_far k0 k1 _ _ p _ _ _ hq hf s _ W hE g0 g1 (by rw [Yy]; exact hl)
 ·have := hj Zk
  obtain ⟨r1, r2, r3, r4, r5, r6, r7, r8, r9⟩ := r
  exact rJoin_in k0 k1 _ _ p _ _ _ hq hf s _ r1 r2 r3 r4 r5 r6 r7 r8 r9 W hE g0 g1 Zda this
theorem Ylj (v1 v2 : Y) (v3 : Int) (v4 v5 v6 : Y) (v7 v8 : Bool) (hp : 0 ≤ v3) : (if ((Ysd v1 v2 v3 v4 v5 v6 v7 v8).size : Int) > 2048 then #[Value.agg (uc ⟨#[]⟩ ⟨#[]⟩ 0 ⟨#[]⟩ ⟨#[]⟩ ⟨#[]⟩ false false), Value.int .i64 5] else #[Value.agg (uc v1 v2 v3 v4 v5 v6 v7 v8), Value.int .i64 0]) = ansV (Yzg (v1, v2, v3, v4, v5, v6, v7, v8)) := by
 unfold Yzg
 simp only
 rw [Ykj _ _ _ _ _ _ _ _ hp]
 by_cases hb : ((Ytd v1 v2 v3 v4 v5 v6 v7 v8).size : Int) > 2048
 ·rw [if_pos hb, if_pos hb]; rfl
 ·rw [if_neg hb, if_neg hb]; rfl
theorem Ysp (h : Canon sch host p path query frag hq hf) (s : Y) (hs : s.size ≤ 2048) (h0 : Yud s.data.toList = 0) (h2 : Yjh s.data.toList ≠ 2) :
  Ybi 74 sch host p path query frag hq hf s (Yzg (Yfh (ofL sch) (ofL host) p (ofL path) (ofL query) hq s.data.toList)) := by
 intro W hE
 obtain ⟨z1, z2, z3, z4, z5⟩ := Ywj h
 obtain ⟨k0, h00⟩ := Yok s Zk
 have hsc : Yr.f k0 s = some 0 := by have := h00 k0 (Kw _); rw [h0] at this; exact this
 have hso : ofL s.data.toList = s := Yhi s
 have hlen : s.data.toList.length = s.size := (Lib.size_eq s).symm
 have jG := Yal s.data.toList
 rw [hso] at jG
 have str : ∀ (v4 v5 v6 : Y) (v7 v8 : Bool), v4.size ≤ 1000000 → v5.size ≤ 1000000 → v6.size ≤ 1000000 → ∃ kt, Yx.f kt (ofL sch) (ofL host) p v4 v5 v6 v7 v8 = some (Ysd (ofL sch) (ofL host) p v4 v5 v6 v7 v8) := by
  intro v4 v5 v6 v7 v8 a4 a5 a6
  obtain ⟨kt, ht⟩ := Yam (ofL sch) (ofL host) p v4 v5 v6 v7 v8 Zda Zda Zk Zk Zk (by have := h.p0; omega) (by have := h.p1; omega)
  exact ⟨kt, ht kt (Kw _)⟩
 cases hd : s.data.toList with
 | nil =>
  rw [hd] at jG
  have hb := Ywu h
  have hz := hb.size
  have he : Yzg (Yfh (ofL sch) (ofL host) p (ofL path) (ofL query) hq []) = (ofL sch, ofL host, p, ofL path, ofL query, ⟨#[]⟩, hq, false, 0) := by
   unfold Yfh Yzg
   simp only
   rw [if_neg]
   have he : ofL [] = (⟨#[]⟩ : Y) := rfl
   rw [he] at hz
   omega
  rw [he]
  exact Ycu k0 _ _ p _ _ _ hq hf s W hE hsc jG (by rw [Lib.toList_data, hd])
 | cons c t =>
  rw [hd] at jG hlen
  have hne : ¬ s.toList = ([] : List UInt8) ∧ 0 < s.size := ⟨by rw [Lib.toList_data, hd]; simp, by rw [← hlen]; simp⟩
  have hbt : bt s 0 = (c.toNat : Int) := (Yvc s 0 c t hd).2.1
  have h35 : bt s 0 = 35 ↔ c = 35 := by rw [hbt]; have := Yzk c 35 Zk; simpa using this
  have zJ : bt s 0 = 63 ↔ c = 63 := by rw [hbt]; have := Yzk c 63 Zk; simpa using this
  have htl := Yso (ofL sch) (ofL host) p (ofL path) (ofL query) ⟨#[]⟩ hq false s Zk
  rw [hd] at htl
  have hts := Yyh (c :: t)
  have hl2 : (c :: t).length ≤ 2048 := by omega
  rw [Yki]
  by_cases c1 : c = 35
  ·rw [if_pos c1]
   have hsp : Yrb c = false := by rw [c1]; decide
   rw [show (match c :: t with | [] => false | c :: _ => Yrb c) = Yrb c from rfl, hsp] at jG
   have uT : Ydc (c :: t) = true := by
    subst c1
    have e : Yjd (35 :: t) = 35 :: t := by unfold Yjd; rw [List.dropWhile_cons_of_neg Zca]
    unfold Ydc
    rw [e]; simp [Yeb, Ycf]
   rw [uT] at htl
   obtain ⟨kt, ht⟩ := str (ofL path) (ofL query) (Ycc (c :: t)) hq true Zda Zda Zk
   exact Yxt k0 kt _ _ p _ _ _ hq hf s _ _ _ _ _ _ _ W hE hsc jG hne (h35.2 c1) htl ht (Ylj _ _ _ _ _ _ _ _ h.p0)
  ·rw [if_neg c1]
   by_cases c2 : c = 63
   ·rw [if_pos c2]
    have hsp : Yrb c = false := by rw [c2]; decide
    rw [show (match c :: t with | [] => false | c :: _ => Yrb c) = Yrb c from rfl, hsp] at jG
    obtain ⟨kt, ht⟩ := str (ofL path) (Yyb (c :: t)) (Ycc (c :: t)) (Yqc (c :: t)) (Ydc (c :: t)) Zda Zk Zk
    exact Yds k0 kt _ _ p _ _ _ hq hf s _ _ _ _ _ _ _ W hE hsc jG hne (fun x => c1 (h35.1 x)) (zJ.2 c2) htl ht (Ylj _ _ _ _ _ _ _ _ h.p0)
   ·rw [if_neg c2]
    by_cases c3 : Yrb c = true
    ·rw [if_pos c3]
     rw [show (match c :: t with | [] => false | c :: _ => Yrb c) = Yrb c from rfl, c3] at jG
     have hx : s.extract 1 s.size = ofL t := by rw [Yuc, hd]; rfl
     have rH : Ypa.f (s.extract 1 s.size) = some false := by
      rw [hx, Yal]
      have : Ysl t = false := by
       cases hh : Ysl t with
       | false => rfl
       | true => exact absurd ((Ynn c t).2 ⟨c3, hh⟩) (by rw [← hd]; exact h2)
      exact congrArg some this
     unfold Yii
     obtain ⟨kt, ht⟩ := str (Ycd (c :: t)) (Yyb (c :: t)) (Ycc (c :: t)) (Yqc (c :: t)) (Ydc (c :: t)) Zk Zk Zk
     exact Yjr k0 kt _ _ p _ _ _ hq hf s _ _ _ _ _ _ _ W hE hsc jG Zk rH hne (fun x => c1 (h35.1 x)) (fun x => c2 (zJ.1 x)) htl ht (Ylj _ _ _ _ _ _ _ _ h.p0)
    ·rw [if_neg c3]
     rw [Bool.not_eq_true] at c3
     rw [show (match c :: t with | [] => false | c :: _ => Yrb c) = Yrb c from rfl, c3] at jG
     have hup := Yor path
     obtain ⟨kk, hkk⟩ : ∃ kk, kk = (upTo path).length := ⟨_, rfl⟩
     have hx : ((ofL path).extract 0 (kk : Int).toNat ++ s).data.toList = upTo path ++ c :: t := by
      rw [ByteArray.data_append, Array.toList_append, Yge, Int.toNat_natCast, Ygb, Ygb, hd, hkk, ← Yxq]
     have hxs : ((ofL path).extract 0 (kk : Int).toNat ++ s).size ≤ 30000000 := by rw [ByteArray.size_append, ByteArray.size_extract, Yy]; omega
     have htx := Yso (ofL sch) (ofL host) p (ofL path) (ofL query) ⟨#[]⟩ hq false _ hxs
     rw [hx] at htx
     rw [Ygb]
     have htz := Yyh (upTo path ++ c :: t)
     have hl3 : (upTo path ++ c :: t).length ≤ 5000 := by rw [List.length_append]; omega
     unfold Yii
     obtain ⟨kt, ht⟩ := str (Ycd (upTo path ++ c :: t)) (Yyb (upTo path ++ c :: t)) (Ycc (upTo path ++ c :: t)) (Yqc (upTo path ++ c :: t)) (Ydc (upTo path ++ c :: t)) Zk Zk Zk
     exact Yut k0 kt _ _ p _ _ _ hq hf s _ _ _ _ _ _ _ kk W hE hsc jG hne (fun x => c1 (h35.1 x)) (fun x => c2 (zJ.1 x)) ⟨by rw [Ygb]; exact hkk.symm, Zda⟩ Zda htx ht (Ylj _ _ _ _ _ _ _ _ h.p0)
theorem rjoined (h : Canon sch host p path query frag hq hf) : ∀ (n : Nat) (s : Y), s.size < n → s.size ≤ 2048 → Ybi 74 sch host p path query frag hq hf s (Yhl (ofL sch) (ofL host) p (ofL path) (ofL query) hq n s.data.toList) := by
 intro n
 induction n with
 | zero => intro s h0 _; omega
 | succ n ih =>
  intro s hn hs
  have hlen : s.data.toList.length = s.size := (Lib.size_eq s).symm
  have hsb := Yns s.data.toList
  have hsch : lowL sch = sch := low_sch h.schIs
  have hscl : sch.length ≤ 5 := by rcases h.schIs with e | e <;> rw [e] <;> decide
  unfold Yhl
  rw [hlen, if_neg Zk, Ygb]
  by_cases h0 : Yud s.data.toList = 0
  ·rw [if_pos h0] at hsb
   rw [hsb, if_neg Zca]
   by_cases h2 : Yjh s.data.toList = 2
   ·rw [if_pos h2]
    intro W hE
    obtain ⟨k0, h00⟩ := Yok s Zk
    have hsc : Yr.f k0 s = some 0 := by have := h00 k0 (Kw _); rw [h0] at this; exact this
    have hso : ofL s.data.toList = s := Yhi s
    cases hd : s.data.toList with
    | nil => rw [hd] at h2; exact absurd h2 Zca
    | cons c t =>
     rw [hd] at h2
     obtain ⟨a1, a2⟩ := (Ynn c t).1 h2
     have jG : Ypa.f s = some true := by rw [← hso, hd, Yal]; exact congrArg some a1
     have hx : s.extract 1 s.size = ofL t := by rw [Yuc, hd]; rfl
     have rH : Ypa.f (s.extract 1 s.size) = some true := by rw [hx, Yal]; exact congrArg some a2
     have uW : 1 ≤ s.size := by rw [← hlen, hd, List.length_cons]; omega
     have pC : (⟨#[58]⟩ : Y).size = 1 := rfl
     have hc : (ofL sch ++ (⟨#[58]⟩ : Y) ++ s).data.toList = sch ++ 58 :: c :: t := by rw [Yqi, Yqi, Ygb, hd]; simp
     have hp := Yon (ofL sch ++ (⟨#[58]⟩ : Y) ++ s) (by rw [ByteArray.size_append, ByteArray.size_append, Yy, pC]; omega)
     rw [hc] at hp
     exact Yku k0 _ _ p _ _ _ hq hf s _ _ _ _ _ _ _ _ _ W hE hsc jG uW rH Zda hp
   ·rw [if_neg h2]
    exact Ysp h s hs h0 h2
  ·rw [if_neg h0] at hsb
   rw [hsb, if_pos rfl]
   simp only
   have hlt := Ylo s.data.toList (by rw [hsb])
   rw [hsb, hlen] at hlt
   simp only at hlt
   obtain ⟨N, hN⟩ : ∃ N, N = Yud s.data.toList := ⟨_, rfl⟩
   rw [← hN] at h0 hlt ⊢
   have hNs : N ≤ s.size := by
    have := hlt
    rw [List.length_drop, hlen] at this
    by_cases hx : N ≤ s.size
    ·exact hx
    ·exfalso
     have e := Ybo s.data.toList
     have jY : Yud s.data.toList ≤ s.data.toList.length := by
      unfold Yud
      split
      ·next hc =>
       obtain ⟨_, h2⟩ := hc
       have := List.takeWhile_append_dropWhile (p := Ywb) (l := s.data.toList)
       have hl := congrArg List.length this
       rw [List.length_append] at hl
       cases hd : s.data.toList.dropWhile Ywb with
       | nil => rw [hd] at h2; cases h2
       | cons x y => rw [hd, List.length_cons] at hl; omega
      ·omega
     rw [← hN, hlen] at jY
     exact hx jY
   obtain ⟨k0, h00⟩ := Yok s Zk
   have hsc : Yr.f k0 s = some (N : Int) := by have := h00 k0 (Kw _); rw [← hN] at this; exact this
   have hm : 0 < (N : Int) ∧ (N : Int) ≤ (s.size : Int) ∧ ((N : Int) - 1) = (N : Int) - 1 := ⟨Zk, Zk, rfl⟩
   have hw : wrap64 ((N : Int) - 1) = (N : Int) - 1 := by unfold wrap64; omega
   have hmt : ((N : Int) - 1).toNat = N - 1 := by omega
   obtain ⟨kl, hkl⟩ := Yyn (s.extract 0 ((N : Int) - 1).toNat) Zpa
   have hle : (s.extract 0 ((N : Int) - 1).toNat).data.toList = s.data.toList.take (N - 1) := by rw [hmt, Yge, Ygb]
   have hlo := hkl kl (Kw _)
   simp only at hlo
   rw [hle] at hlo
   have hrest : s.extract (N : Int).toNat s.size = ofL (s.data.toList.drop N) := by rw [Yuc, Int.toNat_natCast]
   have hp := Yon s Zk
   by_cases hx : lowL (s.data.toList.take (N - 1)) = lowL sch
   ·have qA : (ofL (lowL (s.data.toList.take (N - 1)))).toList = (ofL sch).toList := by rw [hx, hsch]
    cases hh : Ysl (s.data.toList.drop N) with
    | true =>
     have hy : Ypa.f (s.extract (N : Int).toNat s.size) = some true := by rw [hrest, Yal]; exact congrArg some hh
     rw [if_neg (fun hz => by have := (Yhn _).1 hz.2; rw [hh] at this; cases this)]
     intro W hE
     exact Ysr k0 kl _ _ p _ _ _ hq hf s _ _ _ _ _ _ _ _ _ _ _ _ W hE hsc hm hw hlo qA hy hp
    | false =>
     have hy : Ypa.f (s.extract (N : Int).toNat s.size) = some false := by rw [hrest, Yal]; exact congrArg some hh
     rw [if_pos ⟨hx, (Yhn _).2 hh⟩]
     intro W hE
     have hcle := Yti (s.data.toList.drop N)
     have hJ : Ybi 34 sch host p path query frag hq hf (s.extract (N : Int).toNat s.size) (Yhl (ofL sch) (ofL host) p (ofL path) (ofL query) hq n (Yqd (s.data.toList.drop N))) := by
      rw [hrest]
      refine Yct h _ Zda _ (fun hx => ?_) (fun hx => ?_)
      ·rw [Ygb] at hx; omega
      ·rw [Ygb] at hx ⊢
       have := ih (ofL (Yqd (s.data.toList.drop N))) Zda Zda
       rw [Ygb] at this
       exact this
     exact Ydr k0 kl _ _ p _ _ _ hq hf s _ _ _ _ _ _ _ _ _ _ _ _ W hE hsc hm hw hlo qA hy hJ
   ·have qA : ¬ (ofL (lowL (s.data.toList.take (N - 1)))).toList = (ofL sch).toList := by
     intro hz; apply hx; rw [hsch]; simpa [Ywc] using hz
    rw [if_neg (fun hz => hx hz.1)]
    intro W hE
    exact Yur k0 kl _ _ p _ _ _ hq hf s _ _ _ _ _ _ _ _ _ _ _ _ W hE hsc hm hw hlo qA hp
end
theorem Yin {b1 b2 : Y} {b3 : Int} {b4 b5 b6 : Y} {b7 b8 : Bool} (hr : Room b1 b2 b3 b4 b5 b6) (hz : (Ysd b1 b2 b3 b4 b5 b6 b7 b8).size ≤ 1000000) (s : Y) (hs : s.size ≤ 1000000) (r1 r2 : Y) (r3 : Int) (r4 r5 r6 : Y) (r7 r8 : Bool) (r9 : Int)
  (hj : Ylk b1 b2 b3 b4 b5 b6 b7 b8 s.data.toList = (r1, r2, r3, r4, r5, r6, r7, r8, r9)) (w : World) (hE : EnvOk w) :
  Calls Tryz.prog 34 #[.agg (uc b1 b2 b3 b4 b5 b6 b7 b8), .string s] w fun e w' => e = .returned (.tuple #[.agg (uc r1 r2 r3 r4 r5 r6 r7 r8), .int .i64 r9]) ∧ Below w.heap.size w w' := by
 unfold Ylk at hj
 cases hm : mayB b1 b2 b3 b4 b5 b6 b7 b8 with
 | false =>
  rw [hm, if_neg Zca] at hj
  simp only [Ytb, Kea] at hj
  obtain ⟨rfl, rfl, rfl, rfl, rfl, rfl, rfl, rfl, rfl⟩ := hj
  obtain ⟨k0, h0⟩ := Yet (u7 := b7) (u8 := b8) hr hz
  have g0 := h0 k0 (Kw _)
  rw [hm] at g0
  exact rJoin_not k0 b1 b2 b3 b4 b5 b6 b7 b8 s w hE g0
 | true =>
  rw [if_pos hm] at hj
  obtain ⟨sch, host, path, query, frag, rfl, rfl, rfl, rfl, rfl, hc⟩ := Ynk hm
  have hlen : s.data.toList.length = s.size := (Lib.size_eq s).symm
  have hcle := Yti s.data.toList
  have := Yct hc s hs (r1, r2, r3, r4, r5, r6, r7, r8, r9) (fun hx => by
   rw [← hj]
   unfold Yhl
   rw [if_pos Zk]) (fun hx => by
   have h2 := rjoined hc (s.data.toList.length + 1) (ofL (Yqd s.data.toList)) Zda (by rw [Yy]; exact hx)
   rw [Ygb, hj] at h2
   exact h2)
  exact this w hE
end Go.Proofs.YtnmglnglbdpjjaaGreatDoor.X
