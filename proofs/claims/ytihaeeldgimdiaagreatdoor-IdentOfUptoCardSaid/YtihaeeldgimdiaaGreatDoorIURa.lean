import Derived.Test.YtihaeeldgimdiaaGreatDoorIUZs
import Derived.Test.YtihaeeldgimdiaaGreatDoorIUMs
import Derived.Test.YtihaeeldgimdiaaGreatDoorIUX15
set_option linter.all false
namespace Go.Proofs.YtihaeeldgimdiaaGreatDoor.X
open Go.RowKit Go.Lib Go.Yw.PrintWords Go.Yw.PrintLast Go.Yw.PrintMore
theorem and15_mod (n : Int) (h0 : 0 ≤ n) (h1 : n < 18446744073709551616) : Go.bits .and .u64 n 15 = n % 16 := by
 have e : Go.bits .and .u64 n 15 = ((BitVec.ofInt 64 n &&& BitVec.ofInt 64 15).toNat : Int) := by
  have h : (BitVec.ofInt 64 n &&& BitVec.ofInt 64 15).toNat < 18446744073709551616 := (BitVec.ofInt 64 n &&& BitVec.ofInt 64 15).isLt
  show IntKind.u64.wrap ((BitVec.ofInt 64 n &&& BitVec.ofInt 64 15).toNat : Int) = _
  generalize (BitVec.ofInt 64 n &&& BitVec.ofInt 64 15).toNat = m at h
  unfold IntKind.wrap
  simp [IntKind.bits, IntKind.signed]
  omega
 rw [e, BitVec.toNat_and]
 have e1 : (BitVec.ofInt 64 n).toNat = n.toNat := by
  rw [BitVec.toNat_ofInt]
  have : ((2 ^ 64 : Nat) : Int) = 18446744073709551616 := by decide
  rw [this, Int.emod_eq_of_lt h0 h1]
 have e2 : (BitVec.ofInt 64 15).toNat = 2 ^ 4 - 1 := by decide
 rw [e1, e2, Nat.and_two_pow_sub_one_eq_mod]
 omega
theorem xor_back (x b : Int) (h0 : 0 ≤ x) (h1 : x < 18446744073709551616) : Go.bits .xor .u64 (Go.bits .xor .u64 x b) b = x := by
 have e : ∀ a b : Int, Go.bits .xor .u64 a b = ((BitVec.ofInt 64 a ^^^ BitVec.ofInt 64 b).toNat : Int) := by
  intro a b
  have h : (BitVec.ofInt 64 a ^^^ BitVec.ofInt 64 b).toNat < 18446744073709551616 := (BitVec.ofInt 64 a ^^^ BitVec.ofInt 64 b).isLt
  show IntKind.u64.wrap ((BitVec.ofInt 64 a ^^^ BitVec.ofInt 64 b).toNat : Int) = _
  generalize (BitVec.ofInt 64 a ^^^ BitVec.ofInt 64 b).toNat = m at h
  unfold IntKind.wrap
  simp [IntKind.bits, IntKind.signed]
  omega
 rw [e, e]
 have e3 : BitVec.ofInt 64 ((BitVec.ofInt 64 x ^^^ BitVec.ofInt 64 b).toNat : Int) = BitVec.ofInt 64 x ^^^ BitVec.ofInt 64 b := by
  rw [BitVec.ofInt_natCast, BitVec.ofNat_toNat, BitVec.setWidth_eq]
 rw [e3, BitVec.xor_assoc, BitVec.xor_self, BitVec.xor_zero, BitVec.toNat_ofInt]
 have : ((2 ^ 64 : Nat) : Int) = 18446744073709551616 := by decide
 rw [this, Int.emod_eq_of_lt h0 h1]
 omega
theorem Ybh (a b : Int) : 0 ≤ Go.bits .xor .u64 a b ∧ Go.bits .xor .u64 a b < 18446744073709551616 := by
 show 0 ≤ IntKind.u64.wrap _ ∧ IntKind.u64.wrap _ < _
 unfold IntKind.wrap
 simp [IntKind.bits, IntKind.signed]
 omega
theorem Ymm (m b : Int) : 0 ≤ Yyh m b ∧ Yyh m b < 18446744073709551616 := by
 unfold Yyh IntKind.wrap
 simp [IntKind.bits, IntKind.signed]
 omega
abbrev MB : Int := 14695981039346656037
theorem Yvi : ∀ (bs : List Int) (m : Int), 0 ≤ m → m < 18446744073709551616 → 0 ≤ bs.foldl Yyh m ∧ bs.foldl Yyh m < 18446744073709551616
 | [], m, h0, h1 => ⟨h0, h1⟩
 | b :: bs, m, _, _ => Yvi bs (Yyh m b) (Ymm m b).1 (Ymm m b).2
theorem Yop (m : Int) (bs : List Int) (h0 : 0 ≤ m) (h1 : m < 18446744073709551616) : Go.bits .xor .u64 (addM m bs) MB = bs.foldl Yyh (Go.bits .xor .u64 m MB) := by
 unfold addM
 exact xor_back _ _ (Yvi _ _ (Ybh _ _).1 (Ybh _ _).2).1 (Yvi _ _ (Ybh _ _).1 (Ybh _ _).2).2
def allB (l : List Y) : List Int := l.flatMap (fun s => bytesOf s ++ [0])
theorem Ygm (m : Int) (s : Y) : 0 ≤ Ypl m s ∧ Ypl m s < 18446744073709551616 := Ybh _ _
theorem Yrs (m : Int) (s : Y) (h0 : 0 ≤ m) (h1 : m < 18446744073709551616) : Go.bits .xor .u64 (Ypl m s) MB = (bytesOf s ++ [0]).foldl Yyh (Go.bits .xor .u64 m MB) := by
 unfold Ypl
 rw [Yop _ _ (by unfold addM; exact (Ybh _ _).1) (by unfold addM; exact (Ybh _ _).2), Yop m _ h0 h1, List.foldl_append]
theorem Yio : ∀ (l : List Y) (m : Int), 0 ≤ m → m < 18446744073709551616 → Go.bits .xor .u64 (l.foldl Ypl m) MB = (allB l).foldl Yyh (Go.bits .xor .u64 m MB)
 | [], m, _, _ => rfl
 | s :: l, m, h0, h1 => by
  rw [List.foldl_cons, Yio l (Ypl m s) (Ygm m s).1 (Ygm m s).2, Yrs m s h0 h1, ← List.foldl_append]
  rfl
theorem markZ_eq (l : List Y) : Ypg l = strOfNums (hexD ((allB l).foldl Yyh MB) 16) := by
 unfold Ypg
 rw [Yio l 0 Zw Zw]
 rfl
theorem Yqr (bs : List Int) (hb : ∀ b ∈ bs, 0 ≤ b ∧ b < 256) (hl : bs.length ≤ 1000000000) : ∀ (d i : Nat) (m : Int), i + d = bs.length → EvR (fun k => Yob.l0 k bs m (i : Int)) ((bs.drop i).foldl Yyh m)
 | 0, i, m, hi => by
  refine EvR.succ (EvR.of fun k => ?_)
  simp only [Yob.l0]
  rw [if_neg Zj, List.drop_eq_nil_of_le Zj]
  rfl
 | d + 1, i, m, hi => by
  have hlt : i < bs.length := by omega
  have hrd : rd bs (i : Int) = bs[i] := by unfold rd; rw [Int.toNat_natCast, List.getD_eq_getElem?_getD, List.getElem?_eq_getElem hlt]; rfl
  have hdrop : bs.drop i = bs[i] :: bs.drop (i + 1) := List.drop_eq_getElem_cons hlt
  have iN : wrap64 ((i : Int) + 1) = ((i + 1 : Nat) : Int) := by unfold wrap64; omega
  have hr := hb _ (List.getElem_mem hlt)
  have hwb : IntKind.u64.wrap bs[i] = bs[i] % 18446744073709551616 := by
   unfold IntKind.wrap
   simp [IntKind.bits, IntKind.signed]
  rw [hdrop]
  refine EvR.succ (EvR.congr (Yqr bs hb hl d (i + 1) (Yyh m bs[i]) Zj) (fun k => ?_))
  ·simp only [Yob.l0]
   rw [if_pos Zj, if_pos Zj, hrd, iN, hwb]
   rfl
theorem shr_div (n : Int) (j : Nat) (hj : j ≤ 15) : shr .u64 n (4 * (j : Int)) = n / 2 ^ (4 * j) := by
 unfold shr
 have : min (4 * (j : Int)).toNat IntKind.u64.bits = 4 * j := by
  have e : IntKind.u64.bits = 64 := rfl
  rw [e]
  omega
 rw [this]
theorem hex_step (n : Int) (h0 : 0 ≤ n) (h1 : n < 18446744073709551616) (j : Nat) (hj : j ≤ 15) : hexD n (j + 1) = bt Yrl (n / 2 ^ (4 * j) % 16) :: hexD n j := by
 have hp : (0 : Int) < 2 ^ (4 * j) := Int.pow_pos Zw
 have hle : n / 2 ^ (4 * j) ≤ n := Int.ediv_le_self _ h0
 simp only [hexD]
 rw [shr_div n j hj, and15_mod _ (Int.ediv_nonneg h0 Zj) Zj]
theorem hexD_len (n : Int) (d : Nat) : (hexD n d).length = d := by
 induction d with
 | zero => rfl
 | succ d ih => simp [hexD, ih]
theorem hex_ext : ∀ d : Fin 16, (Yrl.extract d.1 (d.1 + 1)).data.toList = (strOfNums [bt Yrl (d.1 : Int)]).data.toList := by decide +kernel
theorem rHex_l0 (n : Int) (h0 : 0 ≤ n) (h1 : n < 18446744073709551616) : ∀ (d j : Nat), j + d = 16 → EvR (fun k => Ylb.l0 k (n / 2 ^ (4 * j)) 16 Yrl (strOfNums (hexD n j)) (j : Int)) (strOfNums (hexD n 16))
 | 0, j, hj => by
  obtain rfl : j = 16 := by omega
  refine EvR.succ (EvR.of fun k => ?_)
  simp only [Ylb.l0]
  rw [if_neg Zj]
 | d + 1, j, hj => by
  have hp : (0 : Int) < 2 ^ (4 * j) := Int.pow_pos Zw
  have hle : n / 2 ^ (4 * j) ≤ n := Int.ediv_le_self _ h0
  have hge : 0 ≤ n / 2 ^ (4 * j) := Int.ediv_nonneg h0 Zj
  have hnext : n / 2 ^ (4 * (j + 1)) = n / 2 ^ (4 * j) / 16 := by
   rw [Int.ediv_ediv_of_nonneg Zj, show 4 * (j + 1) = 4 * j + 4 by omega, Int.pow_add]
   rfl
  have ih := rHex_l0 n h0 h1 d (j + 1) Zj
  rw [hnext] at ih
  have hst := hex_step n h0 h1 j Zj
  rw [hst] at ih
  generalize n / 2 ^ (4 * j) = x at hle hge ih
  have aYC : j ≤ 16 := by omega
  clear hp hst hnext
  have hm : Int.tmod x 16 = x % 16 := Int.tmod_eq_emod_of_nonneg hge
  have hd : Int.tdiv x 16 = x / 16 := Int.tdiv_eq_ediv_of_nonneg hge
  have iN : wrap64 ((j : Int) + 1) = ((j + 1 : Nat) : Int) := by unfold wrap64; omega
  have hq0 : 0 ≤ x % 16 := Int.emod_nonneg _ Zw
  have hq1 : x % 16 < 16 := Int.emod_lt_of_pos _ Zw
  have hwm : IntKind.u64.wrap (x % 16 + 1) = x % 16 + 1 := by
   unfold IntKind.wrap
   simp [IntKind.bits, IntKind.signed]
   omega
  have hwd : IntKind.u64.wrap (x / 16) = x / 16 := by
   unfold IntKind.wrap
   simp [IntKind.bits, IntKind.signed]
   omega
  obtain ⟨q, hq⟩ : ∃ q : Nat, x % 16 = (q : Int) := ⟨(x % 16).toNat, Zj⟩
  have hext : Yrl.extract q (q + 1) = strOfNums [bt Yrl (q : Int)] := Ydk (hex_ext ⟨q, Zj⟩)
  have hz : Yrl.size = 16 := rfl
  have hzl : (strOfNums (hexD n j)).size ≤ 16 := by rw [strOfNums_size, hexD_len]; exact aYC
  have zC : (strOfNums [bt Yrl (q : Int)]).size = 1 := by rw [strOfNums_size]; rfl
  refine EvR.succ (EvR.congr ih (fun k => ?_))
  simp only [Ylb.l0]
  rw [hq] at hwm hq0 hq1
  rw [hm, hd, hq]
  rw [if_pos Zj, if_pos Zj, if_pos Zj, hwm, if_pos Zj, if_pos (by rw [hz]; omega), hwd, iN]
  have e1 : ((q : Int)).toNat = q := Int.toNat_natCast q
  have e2 : ((q : Int) + 1).toNat = q + 1 := by omega
  rw [e1, e2, hext, if_pos (by rw [zC]; omega), Ynl]
  rfl
theorem rHex_f (n : Int) (h0 : 0 ≤ n) (h1 : n < 18446744073709551616) : EvR (fun k => Ylb.f k n 16) (strOfNums (hexD n 16)) := by
 have := rHex_l0 n h0 h1 16 0 rfl
 rw [Nat.mul_zero, Int.pow_zero, Int.ediv_one] at this
 exact this
theorem Ysq (s : Y) : ∀ b ∈ bytesOf s, 0 ≤ b ∧ b < 256 := by
 intro b hb
 unfold bytesOf at hb
 obtain ⟨c, _, rfl⟩ := List.mem_map.1 hb
 have := c.toNat_lt
 omega
theorem Yjs (l : List Y) : ∀ b ∈ allB l, 0 ≤ b ∧ b < 256 := by
 intro b hb
 unfold allB at hb
 obtain ⟨s, _, hs⟩ := List.mem_flatMap.1 hb
 rcases List.mem_append.1 hs with hs | hs
 ·exact Ysq s b hs
 ·rw [List.mem_singleton.1 hs]; omega
theorem Yyo (l : List Y) (hz : (allB l).length ≤ 1000000000) (hll : l.length ≤ 1000000000) : ∀ (d i : Nat) (acc : List Int), i + d = l.length → acc ++ allB (l.drop i) = allB l → EvR (fun k => Ykb.l0 k l acc (i : Int)) (Ypg l)
 | 0, i, acc, hi, ha => by
  have hacc : acc = allB l := by
   rw [List.drop_eq_nil_of_le Zj] at ha
   rw [← ha]
   simp [allB]
  subst hacc
  have h1 := Yqr (allB l) (Yjs l) hz (allB l).length 0 MB Zj
  rw [List.drop_zero] at h1
  have hr := Yvi (allB l) MB Zw Zw
  have h2 := rHex_f _ hr.1 hr.2
  rw [markZ_eq]
  refine EvR.succ (EvR.congr (f := fun k => (Yob.f k (allB l)).bind fun t => (Ylb.f k t 16).bind fun u => some u) ?_ (fun k => ?_))
  ·exact EvR.bind h1 (EvR.bind h2 (EvR.of fun _ => rfl))
  ·simp only [Ykb.l0]
   rw [if_neg Zj]
 | d + 1, i, acc, hi, ha => by
  have hlt : i < l.length := by omega
  have hrd : rdOf ByteArray.empty l (i : Int) = l[i] := by unfold rdOf; rw [Int.toNat_natCast, List.getD_eq_getElem?_getD, List.getElem?_eq_getElem hlt]; rfl
  have hdrop : l.drop i = l[i] :: l.drop (i + 1) := List.drop_eq_getElem_cons hlt
  have iN : wrap64 ((i : Int) + 1) = ((i + 1 : Nat) : Int) := by unfold wrap64; omega
  rw [hdrop] at ha
  have ha2 : (acc ++ bytesOf l[i]) ++ [0] ++ allB (l.drop (i + 1)) = allB l := by
   rw [← ha]
   show _ = acc ++ ((bytesOf l[i] ++ [0]) ++ allB (l.drop (i + 1)))
   simp only [List.append_assoc]
  have hlen := congrArg List.length ha2
  simp only [List.length_append, List.length_singleton, bytesOf_length] at hlen
  refine EvR.succ (EvR.congr (Yyo l hz hll d (i + 1) _ Zj ha2) (fun k => ?_))
  simp only [Ykb.l0]
  rw [if_pos Zj, if_pos Zj, hrd, iN, if_pos Zj]
  simp only [Kba]
  rw [if_pos (by rw [List.length_append, bytesOf_length]; omega)]
theorem rMarks_f (l : List Y) (hz : (allB l).length ≤ 1000000000) (hll : l.length ≤ 1000000000) : EvR (fun k => Ykb.f k l) (Ypg l) := by
 have := Yyo l hz hll l.length 0 [] Zj (by rw [List.drop_zero]; rfl)
 exact this
end Go.Proofs.YtihaeeldgimdiaaGreatDoor.X
