/-
  Plain law: numbers and texts as bytes.
-/
import Derived.Test.YtobgnklebfdbnaaGen
namespace Go.Proofs.Ytobgnklebfdbnaa
open Go.RowKit

/-- a number's bytes, seven bits each -/
def vb (z : Nat) : List UInt8 := if 127 < z then UInt8.ofNat (z % 128 + 128) :: vb (z / 128) else [UInt8.ofNat z]
termination_by z
decreasing_by omega
theorem vb_more {z : Nat} (h : 127 < z) : vb z = UInt8.ofNat (z % 128 + 128) :: vb (z / 128) := by rw [vb, if_pos h]
theorem vb_last {z : Nat} (h : ¬ 127 < z) : vb z = [UInt8.ofNat z] := by rw [vb, if_neg h]
/-- a number without its sign -/
def zz (n : Int) : Nat := if 0 ≤ n then (2 * n).toNat else (-2 * n - 1).toNat
def numB (n : Int) : List UInt8 := vb (zz n)
def textB (s : ByteArray) : List UInt8 := numB s.size ++ s.data.toList
def textsB (l : List ByteArray) : List UInt8 := l.flatMap textB
theorem textsB_append (a b : List ByteArray) : textsB (a ++ b) = textsB a ++ textsB b := by unfold textsB; rw [List.flatMap_append]
def numsB (l : List Int) : List UInt8 := l.flatMap numB
theorem numsB_append (a b : List Int) : numsB (a ++ b) = numsB a ++ numsB b := by unfold numsB; rw [List.flatMap_append]
theorem vb_length (z : Nat) (n : Nat) (h : z < 128 ^ n) (hn : 0 < n) : (vb z).length ≤ n := by
  induction n generalizing z with
  | zero => omega
  | succ n ih =>
    by_cases h1 : 127 < z
    · rw [vb_more h1, List.length_cons]
      have h2 : z / 128 < 128 ^ n := by rw [Nat.pow_succ] at h; omega
      have hn0 : 0 < n := by
        rcases Nat.eq_zero_or_pos n with h3 | h3
        · subst h3; simp at h2; omega
        · exact h3
      have := ih (z / 128) h2 hn0
      omega
    · rw [vb_last h1]; simp
theorem numB_length (n : Int) (h0 : -9223372036854775808 ≤ n) (h1 : n < 9223372036854775808) : (numB n).length ≤ 10 := by
  refine vb_length _ 10 ?_ (by omega)
  have : zz n < 18446744073709551616 := by unfold zz; split <;> omega
  have h2 : (18446744073709551616 : Nat) ≤ 128 ^ 10 := by decide
  omega
theorem xor_ones (a : Nat) (h : a < 18446744073709551616) : a ^^^ 18446744073709551615 = 18446744073709551615 - a := by
  have h1 := congrArg BitVec.toNat (BitVec.xor_allOnes (x := BitVec.ofNat 64 a))
  rw [BitVec.toNat_xor, BitVec.toNat_not, BitVec.toNat_ofNat, Nat.mod_eq_of_lt (by omega), BitVec.toNat_allOnes] at h1
  exact h1
end Go.Proofs.Ytobgnklebfdbnaa
