/-
  Plain law: the first bits of the first 64 primes' cube roots are sha's constants, by reckoning.
-/
import Derived.Test.YtejmbbnndagejaaCubL
namespace Go.Proofs.Ytejmbbnndagejaa
def cubesAre (i : Nat) : Bool := (cubeR (P64.getD i 0) 35 0).map (· % 4294967296) == some (K64.getD i 0).toNat
theorem cubes_0 : (cubesAre 0 && cubesAre 1 && cubesAre 2 && cubesAre 3) = true := by decide +kernel
theorem cubes_1 : (cubesAre 4 && cubesAre 5 && cubesAre 6 && cubesAre 7) = true := by decide +kernel
theorem cubes_2 : (cubesAre 8 && cubesAre 9 && cubesAre 10 && cubesAre 11) = true := by decide +kernel
theorem cubes_3 : (cubesAre 12 && cubesAre 13 && cubesAre 14 && cubesAre 15) = true := by decide +kernel
theorem cubes_4 : (cubesAre 16 && cubesAre 17 && cubesAre 18 && cubesAre 19) = true := by decide +kernel
theorem cubes_5 : (cubesAre 20 && cubesAre 21 && cubesAre 22 && cubesAre 23) = true := by decide +kernel
theorem cubes_6 : (cubesAre 24 && cubesAre 25 && cubesAre 26 && cubesAre 27) = true := by decide +kernel
theorem cubes_7 : (cubesAre 28 && cubesAre 29 && cubesAre 30 && cubesAre 31) = true := by decide +kernel
theorem cubes_8 : (cubesAre 32 && cubesAre 33 && cubesAre 34 && cubesAre 35) = true := by decide +kernel
theorem cubes_9 : (cubesAre 36 && cubesAre 37 && cubesAre 38 && cubesAre 39) = true := by decide +kernel
theorem cubes_10 : (cubesAre 40 && cubesAre 41 && cubesAre 42 && cubesAre 43) = true := by decide +kernel
theorem cubes_11 : (cubesAre 44 && cubesAre 45 && cubesAre 46 && cubesAre 47) = true := by decide +kernel
theorem cubes_12 : (cubesAre 48 && cubesAre 49 && cubesAre 50 && cubesAre 51) = true := by decide +kernel
theorem cubes_13 : (cubesAre 52 && cubesAre 53 && cubesAre 54 && cubesAre 55) = true := by decide +kernel
theorem cubes_14 : (cubesAre 56 && cubesAre 57 && cubesAre 58 && cubesAre 59) = true := by decide +kernel
theorem cubes_15 : (cubesAre 60 && cubesAre 61 && cubesAre 62 && cubesAre 63) = true := by decide +kernel
theorem cube_P64 (i : Nat) (h : i < 64) : ∃ F, cubeR (P64.getD i 0) 35 0 = some F ∧ F % 4294967296 = (K64.getD i 0).toNat := by
  have key : cubesAre i = true := by
    have h16 : i / 4 = 0 ∨ i / 4 = 1 ∨ i / 4 = 2 ∨ i / 4 = 3 ∨ i / 4 = 4 ∨ i / 4 = 5 ∨ i / 4 = 6 ∨ i / 4 = 7 ∨ i / 4 = 8 ∨ i / 4 = 9 ∨ i / 4 = 10 ∨ i / 4 = 11 ∨ i / 4 = 12 ∨ i / 4 = 13 ∨ i / 4 = 14 ∨ i / 4 = 15 := by omega
    have four : ∀ q : Nat, i / 4 = q → (cubesAre (4 * q) && cubesAre (4 * q + 1) && cubesAre (4 * q + 2) && cubesAre (4 * q + 3)) = true → cubesAre i = true := by
      intro q hq hc
      simp only [Bool.and_eq_true] at hc
      obtain ⟨⟨⟨h0, h1⟩, h2⟩, h3⟩ := hc
      rcases (by omega : i = 4 * q ∨ i = 4 * q + 1 ∨ i = 4 * q + 2 ∨ i = 4 * q + 3) with e | e | e | e
      · rw [e]; exact h0
      · rw [e]; exact h1
      · rw [e]; exact h2
      · rw [e]; exact h3
    rcases h16 with h | h | h | h | h | h | h | h | h | h | h | h | h | h | h | h
    · exact four _ h cubes_0
    · exact four _ h cubes_1
    · exact four _ h cubes_2
    · exact four _ h cubes_3
    · exact four _ h cubes_4
    · exact four _ h cubes_5
    · exact four _ h cubes_6
    · exact four _ h cubes_7
    · exact four _ h cubes_8
    · exact four _ h cubes_9
    · exact four _ h cubes_10
    · exact four _ h cubes_11
    · exact four _ h cubes_12
    · exact four _ h cubes_13
    · exact four _ h cubes_14
    · exact four _ h cubes_15
  unfold cubesAre at key
  cases hF : cubeR (P64.getD i 0) 35 0 with
  | none => rw [hF] at key; cases key
  | some F =>
    rw [hF] at key
    exact ⟨F, rfl, by simpa using key⟩
end Go.Proofs.Ytejmbbnndagejaa
