/-
  Plain law: numbers and texts, read from the front of bytes.
-/
import Derived.Test.YtejmbbnndagejaaPackL
namespace Go.Proofs.Ytejmbbnndagejaa
open Go.RowKit

/-- a number's bytes, read on: so many are read, the number so far -/
def rdAt : Nat → Nat → List UInt8 → Option (Nat × List UInt8)
  | _, _, [] => none
  | k, z, c :: r => if k = 9 ∧ 1 < c.toNat then none else if c.toNat < 128 then (if c.toNat = 0 ∧ 0 < k then none else some (z + c.toNat % 128 * 128 ^ k, r)) else rdAt (k + 1) (z + c.toNat % 128 * 128 ^ k) r
/-- the number that stands for itself with its sign -/
def unzz (z : Nat) : Int := if z % 2 = 1 then -1 - ((z / 2 : Nat) : Int) else ((z / 2 : Nat) : Int)
def rdNum (L : List UInt8) : Option (Int × List UInt8) := (rdAt 0 0 L).map fun p => (unzz p.1, p.2)
def rdText (L : List UInt8) : Option (List UInt8 × List UInt8) :=
  match rdNum L with
  | none => none
  | some (n, r) => if 0 ≤ n ∧ n ≤ (r.length : Int) then some (r.take n.toNat, r.drop n.toNat) else none
/-- so many texts -/
def rdTexts : Nat → List UInt8 → Option (List ByteArray × List UInt8)
  | 0, L => some ([], L)
  | n + 1, L =>
    match rdText L with
    | none => none
    | some (s, r) => (rdTexts n r).map fun p => (bs s :: p.1, p.2)

theorem pow128 {k : Nat} (h : k ≤ 8) : (128 : Nat) ^ (k + 1) ≤ 9223372036854775808 := by
  have h1 : (128 : Nat) ^ (k + 1) ≤ 128 ^ 9 := Nat.pow_le_pow_right (by omega) (by omega)
  have h2 : (128 : Nat) ^ 9 = 9223372036854775808 := by decide
  omega
theorem rd_grow {k a c : Nat} (h : a < 128 ^ k) : a + c % 128 * 128 ^ k < 128 ^ (k + 1) := by
  have h1 : c % 128 + 1 ≤ 128 := by omega
  have h2 := Nat.mul_le_mul_right (128 ^ k) h1
  rw [Nat.add_mul] at h2
  rw [Nat.pow_succ]
  omega
theorem rdAt_lt : ∀ (L : List UInt8) {k a z : Nat} {r : List UInt8}, k ≤ 9 → a < 128 ^ k → rdAt k a L = some (z, r) → z < 18446744073709551616
  | [], _, _, _, _, _, _, h => by cases h
  | c :: L, k, a, z, r, hk, ha, h => by
    unfold rdAt at h
    split at h
    · cases h
    · rename_i h9
      split at h
      · split at h
        · cases h
        · injection h with h
          injection h with h1 _
          subst h1
          by_cases hk9 : k = 9
          · subst hk9
            have h2 : (128 : Nat) ^ 9 = 9223372036854775808 := by decide
            have h3 : c.toNat ≤ 1 := by omega
            rw [h2] at ha ⊢
            have h4 : c.toNat % 128 ≤ 1 := by omega
            have := Nat.mul_le_mul_right 9223372036854775808 h4
            omega
          · have := rd_grow (c := c.toNat) ha
            have := pow128 (show k ≤ 8 by omega)
            omega
      · rename_i hc
        have hk9 : k ≠ 9 := by omega
        exact rdAt_lt L (by omega) (rd_grow ha) h
theorem unzz_bounds {z : Nat} (h : z < 18446744073709551616) : -9223372036854775808 ≤ unzz z ∧ unzz z < 9223372036854775808 := by
  unfold unzz; split <;> omega
theorem rdNum_bounds {L r : List UInt8} {n : Int} (h : rdNum L = some (n, r)) : -9223372036854775808 ≤ n ∧ n < 9223372036854775808 := by
  unfold rdNum at h
  cases h1 : rdAt 0 0 L with
  | none => rw [h1] at h; cases h
  | some p =>
    rw [h1] at h
    injection h with h
    injection h with h _
    subst h
    exact unzz_bounds (rdAt_lt L (by omega) (by decide) h1)
/-- what is left is an end of it, and shorter -/
theorem rdAt_end : ∀ (L : List UInt8) {k a z : Nat} {r : List UInt8}, rdAt k a L = some (z, r) → ∃ m, 0 < m ∧ m ≤ L.length ∧ r = L.drop m
  | [], _, _, _, _, h => by cases h
  | c :: L, k, a, z, r, h => by
    unfold rdAt at h
    split at h
    · cases h
    · split at h
      · split at h
        · cases h
        · injection h with h
          injection h with _ h1
          subst h1
          exact ⟨1, by omega, by simp, rfl⟩
      · obtain ⟨m, h1, h2, h3⟩ := rdAt_end L h
        exact ⟨m + 1, by omega, by simp; omega, by rw [h3]; rfl⟩
theorem rdNum_end {L r : List UInt8} {n : Int} (h : rdNum L = some (n, r)) : ∃ m, 0 < m ∧ m ≤ L.length ∧ r = L.drop m := by
  unfold rdNum at h
  cases h1 : rdAt 0 0 L with
  | none => rw [h1] at h; cases h
  | some p =>
    rw [h1] at h
    injection h with h
    injection h with _ h
    subst h
    exact rdAt_end L h1
theorem rdText_end {L r s : List UInt8} (h : rdText L = some (s, r)) : ∃ m, 0 < m ∧ m ≤ L.length ∧ r = L.drop m := by
  unfold rdText at h
  split at h
  · cases h
  · rename_i n r1 h1
    obtain ⟨m, h2, h3, rfl⟩ := rdNum_end h1
    split at h
    · rename_i hn
      injection h with h
      injection h with _ h
      rw [List.length_drop] at hn
      exact ⟨m + n.toNat, by omega, by omega, by rw [← h, List.drop_drop]⟩
    · cases h
theorem rdText_lt {L r s : List UInt8} (h : rdText L = some (s, r)) : r.length < L.length := by
  obtain ⟨m, h1, h2, rfl⟩ := rdText_end h
  rw [List.length_drop]; omega
theorem rdText_size {L r s : List UInt8} (h : rdText L = some (s, r)) : s.length ≤ L.length := by
  unfold rdText at h
  split at h
  · cases h
  · rename_i n r1 h1
    obtain ⟨m, h2, h3, rfl⟩ := rdNum_end h1
    split at h
    · injection h with h
      injection h with h _
      rw [← h, List.length_take, List.length_drop]; omega
    · cases h
theorem rdTexts_many : ∀ {n : Nat} {L r : List UInt8} {l : List ByteArray}, rdTexts n L = some (l, r) → n ≤ L.length ∧ l.length = n
  | 0, _, _, _, h => by injection h with h; injection h with h _; subst h; exact ⟨Nat.zero_le _, rfl⟩
  | n + 1, L, r, l, h => by
    unfold rdTexts at h
    split at h
    · cases h
    · rename_i s r1 h1
      cases h2 : rdTexts n r1 with
      | none => rw [h2] at h; cases h
      | some p =>
        rw [h2] at h
        injection h with h
        injection h with h _
        obtain ⟨h3, h4⟩ := rdTexts_many h2
        have := rdText_lt h1
        subst h
        exact ⟨by omega, by rw [List.length_cons, h4]⟩
/-! what was written is read -/
theorem rdAt_vb (r : List UInt8) : ∀ (z k a : Nat), z * 128 ^ k < 18446744073709551616 → (0 < k → z ≠ 0) → k ≤ 9 → rdAt k a (vb z ++ r) = some (a + z * 128 ^ k, r) := by
  intro z
  induction z using Nat.strongRecOn with
  | _ z ih =>
    intro k a h h0 hk
    have h9 : k = 9 → z < 2 := by
      rintro rfl
      have h2 : (128 : Nat) ^ 9 = 9223372036854775808 := by decide
      rw [h2] at h
      omega
    by_cases h1 : 127 < z
    · rw [vb_more h1, List.cons_append]
      have hc : (UInt8.ofNat (z % 128 + 128)).toNat = z % 128 + 128 := by
        rw [UInt8.toNat_ofNat']
        omega
      unfold rdAt
      rw [hc, if_neg (by omega), if_neg (by omega)]
      have e : z / 128 * 128 ^ (k + 1) = z / 128 * 128 * 128 ^ k := by rw [Nat.pow_succ, Nat.mul_assoc, Nat.mul_comm 128]
      have e2 : z % 128 * 128 ^ k + z / 128 * 128 * 128 ^ k = z * 128 ^ k := by
        rw [← Nat.add_mul]; congr 1; omega
      rw [ih (z / 128) (by omega) (k + 1) _ (by rw [e]; exact Nat.lt_of_le_of_lt (by rw [← e2]; omega) h) (fun _ => by omega) (by omega), e, show (z % 128 + 128) % 128 = z % 128 by omega]
      congr 2
      omega
    · rw [vb_last h1, List.cons_append, List.nil_append]
      have hc : (UInt8.ofNat z).toNat = z := by
        rw [UInt8.toNat_ofNat']
        omega
      unfold rdAt
      rw [hc, if_neg (by omega), if_pos (by omega), if_neg (by omega), Nat.mod_eq_of_lt (by omega)]
theorem unzz_zz (n : Int) : unzz (zz n) = n := by
  unfold unzz zz
  by_cases h : 0 ≤ n
  · rw [if_pos h, if_neg (by omega)]; omega
  · rw [if_neg h, if_pos (by omega)]; omega
theorem rdNum_numB (n : Int) (r : List UInt8) (h0 : -9223372036854775808 ≤ n) (h1 : n < 9223372036854775808) : rdNum (numB n ++ r) = some (n, r) := by
  unfold rdNum numB
  have : zz n < 18446744073709551616 := by unfold zz; split <;> omega
  rw [rdAt_vb r (zz n) 0 0 (by simpa using this) (fun h => absurd h (by omega)) (by omega)]
  simp [unzz_zz]
theorem rdText_textB (s : ByteArray) (r : List UInt8) (h : s.size < 9223372036854775808) : rdText (textB s ++ r) = some (s.data.toList, r) := by
  unfold rdText textB
  rw [List.append_assoc, rdNum_numB _ _ (by omega) (by omega)]
  have hl : s.data.toList.length = s.size := rfl
  simp only [List.length_append, hl]
  rw [if_pos (by omega), Int.toNat_natCast, ← hl, List.take_left, List.drop_left]
theorem rdTexts_textsB (l : List ByteArray) (r : List UInt8) (h : ∀ s ∈ l, s.size < 9223372036854775808) : rdTexts l.length (textsB l ++ r) = some (l, r) := by
  induction l with
  | nil => rfl
  | cons s l ih =>
    have e : textsB (s :: l) ++ r = textB s ++ (textsB l ++ r) := by unfold textsB; rw [List.flatMap_cons, List.append_assoc]
    rw [List.length_cons, e]
    unfold rdTexts
    rw [rdText_textB s _ (h s (List.mem_cons_self ..))]
    simp only [ih (fun x hx => h x (List.mem_cons_of_mem _ hx))]
    rfl
end Go.Proofs.Ytejmbbnndagejaa
