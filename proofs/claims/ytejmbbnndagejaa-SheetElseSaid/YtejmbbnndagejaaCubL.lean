/-
  Plain law: the reference's 'less' and 'cube' as it reckons them, by parts of 16 bits.
-/
import Derived.Test.YtejmbbnndagejaaPrmL
namespace Go.Proofs.Ytejmbbnndagejaa

def M64 : Nat := 18446744073709551616
def digits : Nat → Nat → Nat → List Nat → Option (List Nat)
  | 0, _, _, _ => none
  | f + 1, y, n, a => if y = 0 then some a else if n < 12 then digits f (y / 65536) (n + 1) (a.set n ((a.getD n 0 + y % 65536) % 18446744073709551616)) else none
def one3 (x i : Nat) : Nat := if i = 0 then x % 65536 else if i = 1 then x / 65536 % 65536 else x / 4294967296
def kgo (x i j : Nat) : Nat → Nat → List Nat → Option (List Nat)
  | 0, _, a => some a
  | f + 1, k, a => match digits 5 (one3 x i * one3 x j % 18446744073709551616 * one3 x k % 18446744073709551616) (i + j + k) a with
    | some a' => kgo x i j f (k + 1) a'
    | none => none
def jgo (x i : Nat) : Nat → Nat → List Nat → Option (List Nat)
  | 0, _, a => some a
  | f + 1, j, a => match kgo x i j 3 0 a with
    | some a' => jgo x i f (j + 1) a'
    | none => none
def igo (x : Nat) : Nat → Nat → List Nat → Option (List Nat)
  | 0, _, a => some a
  | f + 1, i, a => match jgo x i 3 0 a with
    | some a' => igo x f (i + 1) a'
    | none => none
def carryGo : Nat → Nat → List Nat → List Nat
  | 0, _, a => a
  | f + 1, n, a => carryGo f (n + 1) ((a.set (n + 1) ((a.getD (n + 1) 0 + a.getD n 0 / 65536) % 18446744073709551616)).set n (a.getD n 0 % 65536))
def topGo (a : List Nat) : Nat → Nat → Nat
  | 0, t => t
  | f + 1, t => topGo a f ((t * 65536 % 18446744073709551616 + a.getD (f + 6) 0) % 18446744073709551616)
def ad (a b : Nat) : Nat := (a + b) % 18446744073709551616
def restOf (b : List Nat) : Nat := ad (ad (ad (ad (ad (b.getD 0 0) (b.getD 1 0)) (b.getD 2 0)) (b.getD 3 0)) (b.getD 4 0)) (b.getD 5 0)
def lessOf (b : List Nat) (p : Nat) : Bool := let top := topGo b 6 0; decide (top < p) || (decide (top = p) && decide (restOf b = 0))
def lessR (x p : Nat) : Option Bool :=
  match igo x 3 0 (List.replicate 12 0) with
  | none => none
  | some a => some (lessOf (carryGo 11 0 a) p)
def cubeR (p : Nat) : Nat → Nat → Option Nat
  | 0, r => some r
  | b + 1, r => match lessR ((r + 2 ^ b % 18446744073709551616) % 18446744073709551616) p with
    | some true => cubeR p b ((r + 2 ^ b % 18446744073709551616) % 18446744073709551616)
    | some false => cubeR p b r
    | none => none

theorem digits_zero {f n : Nat} {a r : List Nat} (h : digits f 0 n a = some r) : a = r := by
  cases f with
  | zero => cases h
  | succ f => rw [digits, if_pos rfl] at h; injection h
theorem digits_pos {f y n : Nat} {a r : List Nat} (h : digits f y n a = some r) (hy : 0 < y) : n < 12 ∧ digits (f - 1) (y / 65536) (n + 1) (a.set n ((a.getD n 0 + y % 65536) % 18446744073709551616)) = some r := by
  cases f with
  | zero => cases h
  | succ f =>
    rw [digits, if_neg (by omega)] at h
    by_cases hn : n < 12
    · rw [if_pos hn] at h; exact ⟨hn, h⟩
    · rw [if_neg hn] at h; cases h
theorem kgo_step {x i j k : Nat} {a r : List Nat} (hk : k < 3) (h : kgo x i j (3 - k) k a = some r) : ∃ a', digits 5 (one3 x i * one3 x j % 18446744073709551616 * one3 x k % 18446744073709551616) (i + j + k) a = some a' ∧ kgo x i j (3 - (k + 1)) (k + 1) a' = some r := by
  rw [show 3 - k = (3 - (k + 1)) + 1 by omega, kgo] at h
  split at h
  · rename_i a' ha; exact ⟨a', ha, h⟩
  · cases h
theorem jgo_step {x i j : Nat} {a r : List Nat} (hj : j < 3) (h : jgo x i (3 - j) j a = some r) : ∃ a', kgo x i j 3 0 a = some a' ∧ jgo x i (3 - (j + 1)) (j + 1) a' = some r := by
  rw [show 3 - j = (3 - (j + 1)) + 1 by omega, jgo] at h
  split at h
  · rename_i a' ha; exact ⟨a', ha, h⟩
  · cases h
theorem igo_step {x i : Nat} {a r : List Nat} (hi : i < 3) (h : igo x (3 - i) i a = some r) : ∃ a', jgo x i 3 0 a = some a' ∧ igo x (3 - (i + 1)) (i + 1) a' = some r := by
  rw [show 3 - i = (3 - (i + 1)) + 1 by omega, igo] at h
  split at h
  · rename_i a' ha; exact ⟨a', ha, h⟩
  · cases h
theorem carry_step {n : Nat} {a : List Nat} (hn : n < 11) : carryGo (11 - n) n a = carryGo (11 - (n + 1)) (n + 1) ((a.set (n + 1) ((a.getD (n + 1) 0 + a.getD n 0 / 65536) % 18446744073709551616)).set n (a.getD n 0 % 65536)) := by
  rw [show 11 - n = (11 - (n + 1)) + 1 by omega, carryGo]
end Go.Proofs.Ytejmbbnndagejaa
