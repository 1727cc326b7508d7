/- The document's Join is the program's. -/
import Derived.Test.YtnmglnglbdpjjaaGreatDoorUlWords
import Derived.Test.YtnmglnglbdpjjaaGreatDoorUlZx
namespace Go.Proofs.YtnmglnglbdpjjaaGreatDoor.X
open Go.RowKit Go.Lib Go.Shelf Go.Yw.PrintWords Go.Yw.PrintLast Go.Yw.PrintMore
set_option linter.unusedVariables false
set_option linter.unusedSimpArgs false
theorem Yrk (q : List UInt8) : Ypa.f (ofL q) = some (match q with | [] => false | c :: _ => Yqb c) := by
 unfold Ypa.f
 cases q with
 | nil => rw [if_pos (Ywc [])]
 | cons c t =>
  have hb : bt (ofL (c :: t)) 0 = (c.toNat : Int) := (Yvc (ofL (c :: t)) 0 c t rfl).2.1
  rw [if_neg (by rw [Ywc]; simp), if_pos (by rw [Yx, List.length_cons]; omega), hb, Yzh]; rfl
def Yjl (q : List UInt8) : Bool := match q with | [] => false | c :: _ => Yqb c
theorem Yan (q : List UInt8) : Yih q = 0 ↔ Yjl q = false := by
 unfold Yih Yjl
 cases q with
 | nil => simp
 | cons c t =>
  rw [List.take_succ_cons]
  by_cases h : Yqb c = true
  ·rw [List.takeWhile_cons_of_pos h]; simp [h]
  ·rw [List.takeWhile_cons_of_neg h]; simp [h]
theorem Ycn (c : UInt8) (t : List UInt8) : Yih (c :: t) = 2 ↔ Yqb c = true ∧ Yjl t = true := by
 unfold Yih Yjl
 cases t with
 | nil =>
  by_cases h : Yqb c = true
  ·simp [List.takeWhile_cons, h]
  ·simp [List.takeWhile_cons, h]
 | cons d r =>
  by_cases h : Yqb c = true
  ·by_cases h2 : Yqb d = true
   ·simp [List.takeWhile_cons, h, h2]
   ·simp [List.takeWhile_cons, h, h2]
  ·simp [List.takeWhile_cons, h]
theorem Yqs (c : List UInt8) : if Yrd c = 0 then Yne c = ([], [], false) else Yne c = (c.take (Yrd c - 1), c.drop (Yrd c), true) := by
 have oY : Ywb 58 = false := by decide
 unfold Yrd
 by_cases H : Yyc (c.headD 0) = true ∧ (c.dropWhile Ywb).head? = some 58
 ·rw [if_pos H]
  obtain ⟨h1, h2⟩ := H
  obtain ⟨b, hb⟩ : ∃ b, c.dropWhile Ywb = 58 :: b := by
   cases hd : c.dropWhile Ywb with
   | nil => rw [hd] at h2; cases h2
   | cons x y => rw [hd] at h2; simp at h2; exact ⟨y, by rw [h2]⟩
  have hc : c = c.takeWhile Ywb ++ 58 :: b := by rw [← hb, List.takeWhile_append_dropWhile]
  have hall : ∀ x ∈ c.takeWhile Ywb, Ywb x = true := fun x hx => List.all_eq_true.1 (List.all_takeWhile) x hx
  generalize ha : c.takeWhile Ywb = a at hc hall
  have hn : (58 : UInt8) ∉ a := fun hm => by have := hall 58 hm; rw [oY] at this; cases this
  subst hc
  have hne : a ≠ [] := by
   rintro rfl
   simp at h1
   revert h1; decide
  have hhd : (a ++ 58 :: b).headD 0 = a.headD 0 := by cases a with | nil => exact absurd rfl hne | cons x y => rfl
  have hcond : (Lib.cut (a ++ 58 :: b) [58]).2.2 = true ∧ (Lib.cut (a ++ 58 :: b) [58]).1 ≠ [] ∧ Yyc ((Lib.cut (a ++ 58 :: b) [58]).1.headD 0) = true ∧ (Lib.cut (a ++ 58 :: b) [58]).1.all Ywb = true := by
   rw [Ykn 58 a b hn]
   exact ⟨rfl, hne, by rw [← hhd]; exact h1, List.all_eq_true.2 hall⟩
  rw [if_neg (show ¬ a.length + 1 = 0 by omega)]
  unfold Yne
  rw [if_pos hcond, Ykn 58 a b hn]
  have e1 : (a ++ 58 :: b).take (a.length + 1 - 1) = a := by rw [Nat.add_sub_cancel]; exact List.take_left
  have e2 : (a ++ 58 :: b).drop (a.length + 1) = b := by
   rw [show a ++ 58 :: b = (a ++ [58]) ++ b by simp, show a.length + 1 = (a ++ [58]).length by simp]; exact List.drop_left
  rw [e1, e2]
 ·rw [if_neg H, if_pos rfl]
  unfold Yne
  rw [if_neg]
  rintro ⟨k1, k2, k3, k4⟩
  apply H
  rw [Ytq] at k1 k2 k3 k4
  simp only at k1 k2 k3 k4
  have hm : (58 : UInt8) ∈ c := by simpa using k1
  obtain ⟨a, b, rfl, hn⟩ := Yjk 58 c hm
  have ha : ∀ x ∈ a, (x != 58) = true := fun x hx => by rw [bne_iff_ne]; rintro rfl; exact hn hx
  have ht := Ykk (· != 58) a (58 :: b) ha
  rw [ht.1, List.takeWhile_cons_of_neg Zv, List.append_nil] at k2 k3 k4
  have hs := Ykk Ywb a (58 :: b) (List.all_eq_true.1 k4)
  refine ⟨?_, ?_⟩
  ·cases a with
   | nil => exact absurd rfl k2
   | cons x y => exact k3
  ·rw [hs.2, List.dropWhile_cons_of_neg (by rw [oY]; simp)]; rfl
def ansV (r : UrlE) : Array Value := #[.agg (uc r.1 r.2.1 r.2.2.1 r.2.2.2.1 r.2.2.2.2.1 r.2.2.2.2.2.1 r.2.2.2.2.2.2.1 r.2.2.2.2.2.2.2.1), .int .i64 r.2.2.2.2.2.2.2.2]
theorem Ydn (s : ByteArray) (hs : s.size ≤ 100000000) : Ysb.f s = some (Yjg s.data.toList) := by unfold Ysb.f; rw [if_pos hs]
theorem Yio (b1 b2 : ByteArray) (b3 : Int) (b4 b5 b6 : ByteArray) (b7 b8 : Bool) (s : ByteArray) (hs : s.size ≤ 30000000) : Yxb.f b1 b2 b3 b4 b5 b6 b7 b8 s = some (b1, b2, b3, Ydd s.data.toList, Yzb s.data.toList, Ybc s.data.toList, Ytc s.data.toList, Yqc s.data.toList) := by unfold Yxb.f; rw [if_pos hs]
theorem low_sch {sch : List UInt8} (h : sch = Yxg ∨ sch = Yuf) : lowL sch = sch := by rcases h with rfl | rfl <;> decide
section
variable {sch host : List UInt8} {p : Int} {path query frag : List UInt8} {hq hf : Bool}
abbrev Ybi (f : FuncId) (sch host : List UInt8) (p : Int) (path query frag : List UInt8) (hq hf : Bool) (s : ByteArray) (r : UrlE) : Prop :=
 ∀ W : World, EnvOk W → Calls Tryz.prog f #[.agg (uc (ofL sch) (ofL host) p (ofL path) (ofL query) (ofL frag) hq hf), .string s] W fun e w' => e = .returned (.tuple (ansV r)) ∧ Below W.heap.size W w'
theorem Yys (h : Canon sch host p path query frag hq hf) (s : ByteArray) (hs : s.size ≤ 1000000) (r : UrlE) (hlong : 2048 < (Ypd s.data.toList).length → r = Yac 5)
  (hj : (Ypd s.data.toList).length ≤ 2048 → Ybi 74 sch host p path query frag hq hf (ofL (Ypd s.data.toList)) r) : Ybi 34 sch host p path query frag hq hf s r := by
 intro W hE
 have hz := h.size
 rw [← Ypl _ _ _ _ _ _ _ _ h.p0] at hz
 obtain ⟨k0, h0⟩ := Yws (u7 := hq) (u8 := hf) (Ytt h) Zk
 rw [may_canon h] at h0
 obtain ⟨k1, h1⟩ := Yks s Zk
 have g0 := h0 k0 (Nat.le_refl _)
 have g1 := h1 k1 (Nat.le_refl _)
 by_cases hl : 2048 < (Ypd s.data.toList).length
 ·rw [hlong hl]
  exact rJoin_far k0 k1 _ _ p _ _ _ hq hf s _ W hE g0 g1 (by rw [Yx]; exact hl)
 ·have := hj Zk
  obtain ⟨r1, r2, r3, r4, r5, r6, r7, r8, r9⟩ := r
  exact rJoin_in k0 k1 _ _ p _ _ _ hq hf s _ r1 r2 r3 r4 r5 r6 r7 r8 r9 W hE g0 g1 Zba this
theorem Ymj (v1 v2 : ByteArray) (v3 : Int) (v4 v5 v6 : ByteArray) (v7 v8 : Bool) (hp : 0 ≤ v3) : (if ((Yre v1 v2 v3 v4 v5 v6 v7 v8).size : Int) > 2048 then #[Value.agg (uc ⟨#[]⟩ ⟨#[]⟩ 0 ⟨#[]⟩ ⟨#[]⟩ ⟨#[]⟩ false false), Value.int .i64 5] else #[Value.agg (uc v1 v2 v3 v4 v5 v6 v7 v8), Value.int .i64 0]) = ansV (Ygi (v1, v2, v3, v4, v5, v6, v7, v8)) := by
 unfold Ygi
 simp only
 rw [Ypl _ _ _ _ _ _ _ _ hp]
 by_cases hb : ((Yie v1 v2 v3 v4 v5 v6 v7 v8).size : Int) > 2048
 ·rw [if_pos hb, if_pos hb]; rfl
 ·rw [if_neg hb, if_neg hb]; rfl
theorem Ylp (h : Canon sch host p path query frag hq hf) (s : ByteArray) (hs : s.size ≤ 2048) (h0 : Yrd s.data.toList = 0) (h2 : Yih s.data.toList ≠ 2) :
  Ybi 74 sch host p path query frag hq hf s (Ygi (Ygh (ofL sch) (ofL host) p (ofL path) (ofL query) hq s.data.toList)) := by
 intro W hE
 obtain ⟨z1, z2, z3, z4, z5⟩ := Yrj h
 obtain ⟨k0, h00⟩ := Yqk s Zk
 have hsc : Yr.f k0 s = some 0 := by have := h00 k0 (Nat.le_refl _); rw [h0] at this; exact this
 have hso : ofL s.data.toList = s := Yci s
 have hlen : s.data.toList.length = s.size := (Lib.size_eq s).symm
 have jC := Yrk s.data.toList
 rw [hso] at jC
 have str : ∀ (v4 v5 v6 : ByteArray) (v7 v8 : Bool), v4.size ≤ 1000000 → v5.size ≤ 1000000 → v6.size ≤ 1000000 → ∃ kt, Yy.f kt (ofL sch) (ofL host) p v4 v5 v6 v7 v8 = some (Yre (ofL sch) (ofL host) p v4 v5 v6 v7 v8) := by
  intro v4 v5 v6 v7 v8 a4 a5 a6
  obtain ⟨kt, ht⟩ := Yil (ofL sch) (ofL host) p v4 v5 v6 v7 v8 Zba Zba Zk Zk Zk (by have := h.p0; omega) (by have := h.p1; omega)
  exact ⟨kt, ht kt (Nat.le_refl _)⟩
 cases hd : s.data.toList with
 | nil =>
  rw [hd] at jC
  have hb := Ynu h
  have hz := hb.size
  have he : Ygi (Ygh (ofL sch) (ofL host) p (ofL path) (ofL query) hq []) = (ofL sch, ofL host, p, ofL path, ofL query, ⟨#[]⟩, hq, false, 0) := by
   unfold Ygh Ygi
   simp only
   rw [if_neg]
   have he : ofL [] = (⟨#[]⟩ : ByteArray) := rfl
   rw [he] at hz
   omega
  rw [he]
  exact Yct k0 _ _ p _ _ _ hq hf s W hE hsc jC (by rw [Lib.toList_data, hd])
 | cons c t =>
  rw [hd] at jC hlen
  have hne : ¬ s.toList = ([] : List UInt8) ∧ 0 < s.size := ⟨by rw [Lib.toList_data, hd]; simp, by rw [← hlen]; simp⟩
  have hbt : bt s 0 = (c.toNat : Int) := (Yvc s 0 c t hd).2.1
  have h35 : bt s 0 = 35 ↔ c = 35 := by rw [hbt]; have := Ylk c 35 Zk; simpa using this
  have h63 : bt s 0 = 63 ↔ c = 63 := by rw [hbt]; have := Ylk c 63 Zk; simpa using this
  have htl := Yio (ofL sch) (ofL host) p (ofL path) (ofL query) ⟨#[]⟩ hq false s Zk
  rw [hd] at htl
  have hts := Yth (c :: t)
  have hl2 : (c :: t).length ≤ 2048 := by omega
  rw [Yij]
  by_cases c1 : c = 35
  ·rw [if_pos c1]
   have hsp : Yqb c = false := by rw [c1]; decide
   rw [show (match c :: t with | [] => false | c :: _ => Yqb c) = Yqb c from rfl, hsp] at jC
   have yQ : Yqc (c :: t) = true := by
    subst c1
    have e : Yud (35 :: t) = 35 :: t := by unfold Yud; rw [List.dropWhile_cons_of_neg Zda]
    unfold Yqc
    rw [e]; simp [Ygb, Yif]
   rw [yQ] at htl
   obtain ⟨kt, ht⟩ := str (ofL path) (ofL query) (Ybc (c :: t)) hq true Zba Zba Zk
   exact Yjs k0 kt _ _ p _ _ _ hq hf s _ _ _ _ _ _ _ W hE hsc jC hne (h35.2 c1) htl ht (Ymj _ _ _ _ _ _ _ _ h.p0)
  ·rw [if_neg c1]
   by_cases c2 : c = 63
   ·rw [if_pos c2]
    have hsp : Yqb c = false := by rw [c2]; decide
    rw [show (match c :: t with | [] => false | c :: _ => Yqb c) = Yqb c from rfl, hsp] at jC
    obtain ⟨kt, ht⟩ := str (ofL path) (Yzb (c :: t)) (Ybc (c :: t)) (Ytc (c :: t)) (Yqc (c :: t)) Zba Zk Zk
    exact Ynq k0 kt _ _ p _ _ _ hq hf s _ _ _ _ _ _ _ W hE hsc jC hne (fun x => c1 (h35.1 x)) (h63.2 c2) htl ht (Ymj _ _ _ _ _ _ _ _ h.p0)
   ·rw [if_neg c2]
    by_cases c3 : Yqb c = true
    ·rw [if_pos c3]
     rw [show (match c :: t with | [] => false | c :: _ => Yqb c) = Yqb c from rfl, c3] at jC
     have hx : s.extract 1 s.size = ofL t := by rw [Yuc, hd]; rfl
     have rC : Ypa.f (s.extract 1 s.size) = some false := by
      rw [hx, Yrk]
      have : Yjl t = false := by
       cases hh : Yjl t with
       | false => rfl
       | true => exact absurd ((Ycn c t).2 ⟨c3, hh⟩) (by rw [← hd]; exact h2)
      exact congrArg some this
     unfold Yzi
     obtain ⟨kt, ht⟩ := str (Ydd (c :: t)) (Yzb (c :: t)) (Ybc (c :: t)) (Ytc (c :: t)) (Yqc (c :: t)) Zk Zk Zk
     exact Yfr k0 kt _ _ p _ _ _ hq hf s _ _ _ _ _ _ _ W hE hsc jC Zk rC hne (fun x => c1 (h35.1 x)) (fun x => c2 (h63.1 x)) htl ht (Ymj _ _ _ _ _ _ _ _ h.p0)
    ·rw [if_neg c3]
     rw [Bool.not_eq_true] at c3
     rw [show (match c :: t with | [] => false | c :: _ => Yqb c) = Yqb c from rfl, c3] at jC
     have hup := Ycr path
     obtain ⟨kk, hkk⟩ : ∃ kk, kk = (upTo path).length := ⟨_, rfl⟩
     have hx : ((ofL path).extract 0 (kk : Int).toNat ++ s).data.toList = upTo path ++ c :: t := by
      rw [ByteArray.data_append, Array.toList_append, Yfe, Int.toNat_natCast, Yfb, Yfb, hd, hkk, ← Ynp]
     have hxs : ((ofL path).extract 0 (kk : Int).toNat ++ s).size ≤ 30000000 := by rw [ByteArray.size_append, ByteArray.size_extract, Yx]; omega
     have htx := Yio (ofL sch) (ofL host) p (ofL path) (ofL query) ⟨#[]⟩ hq false _ hxs
     rw [hx] at htx
     rw [Yfb]
     have htz := Yth (upTo path ++ c :: t)
     have hl3 : (upTo path ++ c :: t).length ≤ 5000 := by rw [List.length_append]; omega
     unfold Yzi
     obtain ⟨kt, ht⟩ := str (Ydd (upTo path ++ c :: t)) (Yzb (upTo path ++ c :: t)) (Ybc (upTo path ++ c :: t)) (Ytc (upTo path ++ c :: t)) (Yqc (upTo path ++ c :: t)) Zk Zk Zk
     exact Ywr k0 kt _ _ p _ _ _ hq hf s _ _ _ _ _ _ _ kk W hE hsc jC hne (fun x => c1 (h35.1 x)) (fun x => c2 (h63.1 x)) ⟨by rw [Yfb]; exact hkk.symm, Zba⟩ Zba htx ht (Ymj _ _ _ _ _ _ _ _ h.p0)
theorem rjoined (h : Canon sch host p path query frag hq hf) : ∀ (n : Nat) (s : ByteArray), s.size < n → s.size ≤ 2048 → Ybi 74 sch host p path query frag hq hf s (Ybn (ofL sch) (ofL host) p (ofL path) (ofL query) hq n s.data.toList) := by
 intro n
 induction n with
 | zero => intro s h0 _; omega
 | succ n ih =>
  intro s hn hs
  have hlen : s.data.toList.length = s.size := (Lib.size_eq s).symm
  have hsb := Yqs s.data.toList
  have hsch : lowL sch = sch := low_sch h.schIs
  have hscl : sch.length ≤ 5 := by rcases h.schIs with e | e <;> rw [e] <;> decide
  unfold Ybn
  rw [hlen, if_neg Zk, Yfb]
  by_cases h0 : Yrd s.data.toList = 0
  ·rw [if_pos h0] at hsb
   rw [hsb, if_neg Zda]
   by_cases h2 : Yih s.data.toList = 2
   ·rw [if_pos h2]
    intro W hE
    obtain ⟨k0, h00⟩ := Yqk s Zk
    have hsc : Yr.f k0 s = some 0 := by have := h00 k0 (Nat.le_refl _); rw [h0] at this; exact this
    have hso : ofL s.data.toList = s := Yci s
    cases hd : s.data.toList with
    | nil => rw [hd] at h2; exact absurd h2 Zda
    | cons c t =>
     rw [hd] at h2
     obtain ⟨a1, a2⟩ := (Ycn c t).1 h2
     have jC : Ypa.f s = some true := by rw [← hso, hd, Yrk]; exact congrArg some a1
     have hx : s.extract 1 s.size = ofL t := by rw [Yuc, hd]; rfl
     have rC : Ypa.f (s.extract 1 s.size) = some true := by rw [hx, Yrk]; exact congrArg some a2
     have zE : 1 ≤ s.size := by rw [← hlen, hd, List.length_cons]; omega
     have oY : (⟨#[58]⟩ : ByteArray).size = 1 := rfl
     have hc : (ofL sch ++ (⟨#[58]⟩ : ByteArray) ++ s).data.toList = sch ++ 58 :: c :: t := by rw [Ypi, Ypi, Yfb, hd]; simp
     have hp := Ydn (ofL sch ++ (⟨#[58]⟩ : ByteArray) ++ s) (by rw [ByteArray.size_append, ByteArray.size_append, Yx, oY]; omega)
     rw [hc] at hp
     exact Yqu k0 _ _ p _ _ _ hq hf s _ _ _ _ _ _ _ _ _ W hE hsc jC zE rC Zba hp
   ·rw [if_neg h2]
    exact Ylp h s hs h0 h2
  ·rw [if_neg h0] at hsb
   rw [hsb, if_pos rfl]
   simp only
   have hlt := Yon s.data.toList (by rw [hsb])
   rw [hsb, hlen] at hlt
   simp only at hlt
   obtain ⟨N, hN⟩ : ∃ N, N = Yrd s.data.toList := ⟨_, rfl⟩
   rw [← hN] at h0 hlt ⊢
   have hNs : N ≤ s.size := by
    have := hlt
    rw [List.length_drop, hlen] at this
    by_cases hx : N ≤ s.size
    ·exact hx
    ·exfalso
     have e := Ylo s.data.toList
     have jU : Yrd s.data.toList ≤ s.data.toList.length := by
      unfold Yrd
      split
      ·next hc =>
       obtain ⟨_, h2⟩ := hc
       have := List.takeWhile_append_dropWhile (p := Ywb) (l := s.data.toList)
       have hl := congrArg List.length this
       rw [List.length_append] at hl
       cases hd : s.data.toList.dropWhile Ywb with
       | nil => rw [hd] at h2; cases h2
       | cons x y => rw [hd, List.length_cons] at hl; omega
      ·omega
     rw [← hN, hlen] at jU
     exact hx jU
   obtain ⟨k0, h00⟩ := Yqk s Zk
   have hsc : Yr.f k0 s = some (N : Int) := by have := h00 k0 (Nat.le_refl _); rw [← hN] at this; exact this
   have hm : 0 < (N : Int) ∧ (N : Int) ≤ (s.size : Int) ∧ ((N : Int) - 1) = (N : Int) - 1 := ⟨Zk, Zk, rfl⟩
   have hw : wrap64 ((N : Int) - 1) = (N : Int) - 1 := by unfold wrap64; omega
   have hmt : ((N : Int) - 1).toNat = N - 1 := by omega
   obtain ⟨kl, hkl⟩ := Yin (s.extract 0 ((N : Int) - 1).toNat) Zpa
   have hle : (s.extract 0 ((N : Int) - 1).toNat).data.toList = s.data.toList.take (N - 1) := by rw [hmt, Yfe, Yfb]
   have hlo := hkl kl (Nat.le_refl _)
   simp only at hlo
   rw [hle] at hlo
   have hrest : s.extract (N : Int).toNat s.size = ofL (s.data.toList.drop N) := by rw [Yuc, Int.toNat_natCast]
   have hp := Ydn s Zk
   by_cases hx : lowL (s.data.toList.take (N - 1)) = lowL sch
   ·have pW : (ofL (lowL (s.data.toList.take (N - 1)))).toList = (ofL sch).toList := by rw [hx, hsch]
    cases hh : Yjl (s.data.toList.drop N) with
    | true =>
     have hy : Ypa.f (s.extract (N : Int).toNat s.size) = some true := by rw [hrest, Yrk]; exact congrArg some hh
     rw [if_neg (fun hz => by have := (Yan _).1 hz.2; rw [hh] at this; cases this)]
     intro W hE
     exact Ykr k0 kl _ _ p _ _ _ hq hf s _ _ _ _ _ _ _ _ _ _ _ _ W hE hsc hm hw hlo pW hy hp
    | false =>
     have hy : Ypa.f (s.extract (N : Int).toNat s.size) = some false := by rw [hrest, Yrk]; exact congrArg some hh
     rw [if_pos ⟨hx, (Yan _).2 hh⟩]
     intro W hE
     have hcle := Yri (s.data.toList.drop N)
     have hJ : Ybi 34 sch host p path query frag hq hf (s.extract (N : Int).toNat s.size) (Ybn (ofL sch) (ofL host) p (ofL path) (ofL query) hq n (Ypd (s.data.toList.drop N))) := by
      rw [hrest]
      refine Yys h _ Zba _ (fun hx => ?_) (fun hx => ?_)
      ·rw [Yfb] at hx; omega
      ·rw [Yfb] at hx ⊢
       have := ih (ofL (Ypd (s.data.toList.drop N))) Zba Zba
       rw [Yfb] at this
       exact this
     exact Yjr k0 kl _ _ p _ _ _ hq hf s _ _ _ _ _ _ _ _ _ _ _ _ W hE hsc hm hw hlo pW hy hJ
   ·have pW : ¬ (ofL (lowL (s.data.toList.take (N - 1)))).toList = (ofL sch).toList := by
     intro hz; apply hx; rw [hsch]; simpa [Ywc] using hz
    rw [if_neg (fun hz => hx hz.1)]
    intro W hE
    exact Ymq k0 kl _ _ p _ _ _ hq hf s _ _ _ _ _ _ _ _ _ _ _ _ W hE hsc hm hw hlo pW hp
end
theorem Ybs {b1 b2 : ByteArray} {b3 : Int} {b4 b5 b6 : ByteArray} {b7 b8 : Bool} (hr : Room b1 b2 b3 b4 b5 b6) (hz : (Yre b1 b2 b3 b4 b5 b6 b7 b8).size ≤ 1000000) (s : ByteArray) (hs : s.size ≤ 1000000) (r1 r2 : ByteArray) (r3 : Int) (r4 r5 r6 : ByteArray) (r7 r8 : Bool) (r9 : Int)
  (hj : Ywp b1 b2 b3 b4 b5 b6 b7 b8 s.data.toList = (r1, r2, r3, r4, r5, r6, r7, r8, r9)) (w : World) (hE : EnvOk w) :
  Calls Tryz.prog 34 #[.agg (uc b1 b2 b3 b4 b5 b6 b7 b8), .string s] w fun e w' => e = .returned (.tuple #[.agg (uc r1 r2 r3 r4 r5 r6 r7 r8), .int .i64 r9]) ∧ Below w.heap.size w w' := by
 unfold Ywp at hj
 cases hm : mayB b1 b2 b3 b4 b5 b6 b7 b8 with
 | false =>
  rw [hm, if_neg Zda] at hj
  simp only [Yac, Prod.mk.injEq] at hj
  obtain ⟨rfl, rfl, rfl, rfl, rfl, rfl, rfl, rfl, rfl⟩ := hj
  obtain ⟨k0, h0⟩ := Yws (u7 := b7) (u8 := b8) hr hz
  have g0 := h0 k0 (Nat.le_refl _)
  rw [hm] at g0
  exact rJoin_not k0 b1 b2 b3 b4 b5 b6 b7 b8 s w hE g0
 | true =>
  rw [if_pos hm] at hj
  obtain ⟨sch, host, path, query, frag, rfl, rfl, rfl, rfl, rfl, hc⟩ := Yaq hm
  have hlen : s.data.toList.length = s.size := (Lib.size_eq s).symm
  have hcle := Yri s.data.toList
  have := Yys hc s hs (r1, r2, r3, r4, r5, r6, r7, r8, r9) (fun hx => by
   rw [← hj]
   unfold Ybn
   rw [if_pos Zk]) (fun hx => by
   have h2 := rjoined hc (s.data.toList.length + 1) (ofL (Ypd s.data.toList)) Zba (by rw [Yx]; exact hx)
   rw [Yfb, hj] at h2
   exact h2)
  exact this w hE
end Go.Proofs.YtnmglnglbdpjjaaGreatDoor.X
