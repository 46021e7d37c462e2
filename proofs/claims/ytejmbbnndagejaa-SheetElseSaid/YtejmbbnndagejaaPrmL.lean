/-
  Plain law: primes, the first bits of their square and cube roots, as the reference reckons them.
-/
import Derived.Test.YtejmbbnndagejaaShaL
namespace Go.Proofs.Ytejmbbnndagejaa
open Go

/-- no divisor from 2 on -/
def noDiv (p : Nat) : Nat → Bool
  | 0 => true
  | d + 1 => noDiv p d && (decide (d < 2) || decide (p < d * d) || decide (p % d ≠ 0))
def isP (p : Nat) : Bool := noDiv p 20
theorem noDiv_iff (p n : Nat) : noDiv p n = true ↔ ∀ d, d < n → 2 ≤ d → d * d ≤ p → p % d ≠ 0 := by
  induction n with
  | zero => simp [noDiv]
  | succ n ih =>
    rw [noDiv, Bool.and_eq_true, ih]
    constructor
    · rintro ⟨h1, h2⟩ d hd h3 h4
      rcases Nat.lt_or_ge d n with h | h
      · exact h1 d h h3 h4
      · obtain rfl : d = n := by omega
        simp only [Bool.or_eq_true, decide_eq_true_eq] at h2
        omega
    · intro h
      refine ⟨fun d hd => h d (by omega), ?_⟩
      simp only [Bool.or_eq_true, decide_eq_true_eq]
      by_cases h1 : n < 2
      · exact .inl (.inl h1)
      · by_cases h2 : p < n * n
        · exact .inl (.inr h2)
        · exact .inr (h n (by omega) (by omega) (by omega))
/-- behind p: the n-th prime, in so many steps -/
def pgo : Nat → Nat → Nat → Option Nat
  | 0, _, _ => none
  | f + 1, p, n => if isP (p + 1) then (match n with | 0 => some (p + 1) | n + 1 => pgo f (p + 1) n) else pgo f (p + 1) n
def P64 : List Nat := [2, 3, 5, 7, 11, 13, 17, 19, 23, 29, 31, 37, 41, 43, 47, 53, 59, 61, 67, 71, 73, 79, 83, 89, 97, 101, 103, 107, 109, 113, 127, 131, 137, 139, 149, 151, 157, 163, 167, 173, 179, 181, 191, 193, 197, 199, 211, 223, 227, 229, 233, 239, 241, 251, 257, 263, 269, 271, 277, 281, 283, 293, 307, 311]
theorem pgo_P64 : ∀ i, i < 64 → pgo 398 1 i = some (P64.getD i 0) := by decide +kernel

def pnext (P : Nat) : Nat → Option Nat
  | 0 => some P
  | n + 1 => pgo (399 - P) P n
theorem pgo_step {p n : Nat} (h : p ≤ 398) : pgo (399 - p) p n = if isP (p + 1) then pnext (p + 1) n else pgo (399 - (p + 1)) (p + 1) n := by
  rw [show 399 - p = (399 - (p + 1)) + 1 by omega]
  cases n <;> rfl
theorem isP_at {P d : Nat} (hP : P ≤ 399) (hlo : d = 2 ∨ (d - 1) * (d - 1) ≤ P) (hhi : P < d * d) : isP P = true ↔ ∀ e, 2 ≤ e → e < d → P % e ≠ 0 := by
  unfold isP
  rw [noDiv_iff]
  constructor
  · intro h e h2 hed
    have h3 : e * e ≤ (d - 1) * (d - 1) := Nat.mul_le_mul (by omega) (by omega)
    have h4 : e * e ≤ P := by omega
    refine h e ?_ h2 h4
    rcases Nat.lt_or_ge e 20 with h5 | h5
    · exact h5
    · have := Nat.mul_le_mul h5 h5; omega
  · intro h e _ h2 hee
    refine h e h2 ?_
    rcases Nat.lt_or_ge e d with h5 | h5
    · exact h5
    · have := Nat.mul_le_mul h5 h5; omega
def wq (x : Int) : Int := x % 18446744073709551616
def an32 (x : Int) : Int := Go.bits .and .u64 x 4294967295
/-- a bit more, if its square is not too great -/
def sqN (p r : Int) (b : Nat) : Int :=
  let x := wq (r + wq (2 ^ b)); let hi := x / 4294967296; let lo := an32 x; let t := wq (hi * lo)
  let top := wq (wq (hi * hi) + t / 2147483648); let mid := wq (an32 (wq (t * 2)) * 4294967296); let rest := wq (wq (lo * lo) + mid)
  let T := if rest < mid then wq (top + 1) else top
  if T < p then x else if T = p then (if rest = 0 then x else r) else r
def sqGo (p : Int) : Nat → Int → Int
  | 0, r => r
  | b + 1, r => sqGo p b (sqN p r b)
theorem sq_P64 : ∀ i, i < 8 → sqGo ((P64.getD i 0 : Nat) : Int) 36 0 % 4294967296 = ((H0.l.getD i 0).toNat : Int) := by decide +kernel
end Go.Proofs.Ytejmbbnndagejaa
