/- The identity of an entry, as a plain function. -/
import Derived.Test.YtihaeeldgimdiaaDoorUiPp
import Derived.Test.YtihaeeldgimdiaaDoorUiIh
import Derived.Test.YtihaeeldgimdiaaDoorUiX4
namespace Go.Proofs.YtihaeeldgimdiaaDoor.X
open Go.RowKit Go.Lib Go.Proofs.YtihaeeldgimdiaaDoorW.PrintWords Go.Proofs.YtihaeeldgimdiaaDoorW.PrintLast Go.Proofs.YtihaeeldgimdiaaDoorW.PrintMore
set_option linter.unusedVariables false
set_option linter.unusedSimpArgs false
def countL (n : Nat) : ByteArray := strOfNums (textN n)
def partsL : List ByteArray → List (List ByteArray) → List ByteArray
 | p, [] => p
 | p, l :: r => partsL ((p ++ [countL l.length]) ++ l) r
def keyE (u : UrlE) : ByteArray := stringB u.1 u.2.1 u.2.2.1 u.2.2.2.1 u.2.2.2.2.1 ⟨#[]⟩ u.2.2.2.2.2.2.1 false
def ofParts (uid url name text html : ByteArray) (photos replies likes reposts : List ByteArray) : ByteArray :=
 if uid.toList = ([] : List UInt8) then
  (if (parseR url.data.toList).2.2.2.2.2.2.2.2 = 0 then (⟨#[108, 58]⟩ : ByteArray) ++ keyE (parseR url.data.toList)
  else (if url.toList = ([] : List UInt8) then (⟨#[104, 58]⟩ : ByteArray) ++ markZ (partsL [name, text, html] [replies, likes, reposts, photos])
  else (⟨#[108, 58]⟩ : ByteArray) ++ url))
 else (⟨#[117, 58]⟩ : ByteArray) ++ uid
theorem markZ_size (l : List ByteArray) : (markZ l).size = 16 := by
 unfold markZ
 rw [strOfNums_size]
 have : ∀ (n : Int) (d : Nat), (hexD n d).length = d := fun n d => by
  induction d with
  | zero => rfl
  | succ d ih => simp [hexD, ih]
 exact this _ 16
theorem parsed_sizes {u1 u2 : ByteArray} {u3 : Int} {u4 u5 u6 : ByteArray} {u7 u8 : Bool} {host r : List UInt8} (hp : ParsedAs u1 u2 u3 u4 u5 u6 u7 u8 host r) :
  u1.size ≤ 100000 ∧ u2.size ≤ 100000 ∧ u4.size ≤ 100000 ∧ u5.size ≤ 100000 := by
 have hrl := hp.rest
 have ht := tail_sizes r
 refine ⟨?_, ?_, ?_, ?_⟩
 ·rcases hp.sch with e | e <;> (rw [e]; decide)
 ·have e1 := hp.hostEq
  have hn := hp.name
  unfold nameL at hn
  simp only [Bool.and_eq_true, decide_eq_true_eq] at hn
  rw [e1, ofL_size]; omega
 ·rw [hp.path]; omega
 ·rw [hp.query]; omega
theorem ofKey_f {u1 u2 : ByteArray} {u3 : Int} {u4 u5 u6 : ByteArray} {u7 u8 : Bool} {host r : List UInt8} (hp : ParsedAs u1 u2 u3 u4 u5 u6 u7 u8 host r) :
  EvR (fun k => join_Key.f k u1 u2 u3 u4 u5 u6 u7 u8) (stringB u1 u2 u3 u4 u5 ⟨#[]⟩ u7 false) := by
 obtain ⟨s1, s2, s4, s5⟩ := parsed_sizes hp
 have hz : (⟨#[]⟩ : ByteArray).size = 0 := rfl
 have h3 := string_f u1 u2 u3 u4 u5 ⟨#[]⟩ u7 false (by omega) (by omega) (by omega) (by omega) (by omega) hp.p0 (by have := hp.p1; omega)
 unfold join_Key.f url_Bare.f
 simp only [Option.bind_some]
 exact EvR.bind h3 (EvR.of fun k => rfl)
theorem key_size {u1 u2 : ByteArray} {u3 : Int} {u4 u5 u6 : ByteArray} {u7 u8 : Bool} {host r : List UInt8} (hp : ParsedAs u1 u2 u3 u4 u5 u6 u7 u8 host r) :
  (stringB u1 u2 u3 u4 u5 ⟨#[]⟩ u7 false).size ≤ 1000000 := by
 obtain ⟨s1, s2, s4, s5⟩ := parsed_sizes hp
 have ho := originB_size u1 u2 u3
 have hz : (⟨#[]⟩ : ByteArray).size = 0 := rfl
 unfold stringB stringF stringQ
 cases u7 <;> simp [ByteArray.size_append, size63, hz] <;> omega
end Go.Proofs.YtihaeeldgimdiaaDoor.X
