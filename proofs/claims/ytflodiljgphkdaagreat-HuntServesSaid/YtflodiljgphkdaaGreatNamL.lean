/-
  Plain law: bytes as digits, and back.
-/
import Derived.Test.YtflodiljgphkdaaGreatBase
namespace Go.Proofs.YtflodiljgphkdaaGreat

/-- a digit -/
def hexd (n : Nat) : UInt8 := UInt8.ofNat (if n < 10 then 48 + n else 87 + n)
def nameL (l : List UInt8) : List UInt8 := l.flatMap fun b => [hexd (b.toNat / 16), hexd (b.toNat % 16)]
/-- a digit's number -/
def hval (c : Nat) : Option Nat := if 48 ≤ c ∧ c ≤ 57 then some (c - 48) else if 97 ≤ c ∧ c ≤ 102 then some (c - 87) else none
def unhex : List UInt8 → Option (List UInt8)
  | [] => some []
  | [_] => none
  | a :: b :: r => match hval a.toNat, hval b.toNat with
    | some x, some y => (unhex r).map (UInt8.ofNat (x * 16 + y) :: ·)
    | _, _ => none
theorem hexd_nat (n : Nat) (h : n < 16) : (hexd n).toNat = if n < 10 then 48 + n else 87 + n := by
  unfold hexd
  rw [UInt8.toNat_ofNat', Nat.mod_eq_of_lt (by split <;> omega)]
theorem hval_hexd (n : Nat) (h : n < 16) : hval (hexd n).toNat = some n := by
  rw [hexd_nat n h]
  unfold hval
  by_cases h1 : n < 10
  · rw [if_pos h1, if_pos (by omega)]; congr 1; omega
  · rw [if_neg h1, if_neg (by omega), if_pos (by omega)]; congr 1; omega
theorem hexd_hval {c : UInt8} {x : Nat} (h : hval c.toNat = some x) : hexd x = c ∧ x < 16 := by
  unfold hval at h
  split at h
  · injection h with h
    refine ⟨?_, by omega⟩
    apply UInt8.toNat_inj.1
    rw [hexd_nat x (by omega), if_pos (by omega)]; omega
  · split at h
    · injection h with h
      refine ⟨?_, by omega⟩
      apply UInt8.toNat_inj.1
      rw [hexd_nat x (by omega), if_neg (by omega)]; omega
    · cases h
theorem nameL_cons (b : UInt8) (l : List UInt8) : nameL (b :: l) = hexd (b.toNat / 16) :: hexd (b.toNat % 16) :: nameL l := rfl
theorem nameL_append (a b : List UInt8) : nameL (a ++ b) = nameL a ++ nameL b := by unfold nameL; rw [List.flatMap_append]
theorem nameL_length (l : List UInt8) : (nameL l).length = 2 * l.length := by
  induction l with
  | nil => rfl
  | cons b l ih => rw [nameL_cons, List.length_cons, List.length_cons, ih, List.length_cons]; omega
theorem unhex_name (l : List UInt8) : unhex (nameL l) = some l := by
  induction l with
  | nil => rfl
  | cons b l ih =>
    have hb := UInt8.toNat_lt b
    rw [nameL_cons, unhex, hval_hexd _ (by omega), hval_hexd _ (by omega), ih]
    show some (UInt8.ofNat (b.toNat / 16 * 16 + b.toNat % 16) :: l) = _
    rw [show b.toNat / 16 * 16 + b.toNat % 16 = b.toNat by omega, UInt8.ofNat_toNat]
theorem name_unhex : ∀ (n b : List UInt8), unhex n = some b → nameL b = n
  | [], b, h => by injection h with h; subst h; rfl
  | [_], b, h => by cases h
  | a :: c :: r, b, h => by
    rw [unhex] at h
    cases ha : hval a.toNat with
    | none => rw [ha] at h; cases h
    | some x =>
      cases hc : hval c.toNat with
      | none => rw [ha, hc] at h; cases h
      | some y =>
        rw [ha, hc] at h
        obtain ⟨h1, h2⟩ := hexd_hval ha
        obtain ⟨h3, h4⟩ := hexd_hval hc
        cases hr : unhex r with
        | none => rw [hr] at h; cases h
        | some d =>
          rw [hr] at h
          injection h with h
          subst h
          rw [nameL_cons, UInt8.toNat_ofNat', Nat.mod_eq_of_lt (by omega), show (x * 16 + y) / 16 = x by omega, show (x * 16 + y) % 16 = y by omega, h1, h3, name_unhex r d hr]
/-- so many bytes read, D of them written -/
def HashAt (l D : List UInt8) (k : Nat) : Prop := 2 * k ≤ l.length ∧ D.length = k ∧ unhex l = (unhex (l.drop (2 * k))).map (D ++ ·)
theorem HashAt.start (l : List UInt8) : HashAt l [] 0 := ⟨by omega, rfl, by simp⟩
theorem unhex_odd : ∀ (l : List UInt8), l.length % 2 = 1 → unhex l = none
  | [], h => by cases h
  | [_], _ => rfl
  | a :: b :: r, h => by
    rw [unhex, unhex_odd r (by simp only [List.length_cons] at h; omega)]
    cases hval a.toNat <;> cases hval b.toNat <;> rfl
theorem HashAt.two {l D : List UInt8} {k : Nat} (_h : HashAt l D k) (hk : 2 * k + 1 < l.length) : l.drop (2 * k) = l.getD (2 * k) 0 :: l.getD (2 * k + 1) 0 :: l.drop (2 * (k + 1)) := by
  rw [List.drop_eq_getElem_cons (by omega), List.drop_eq_getElem_cons (by omega)]
  simp only [List.getD_eq_getElem?_getD, List.getElem?_eq_getElem (show 2 * k < l.length by omega), List.getElem?_eq_getElem (show 2 * k + 1 < l.length by omega), Option.getD_some]
  rfl
theorem HashAt.step {l D : List UInt8} {k x y : Nat} (h : HashAt l D k) (hk : 2 * k + 1 < l.length) (hx : hval (l.getD (2 * k) 0).toNat = some x) (hy : hval (l.getD (2 * k + 1) 0).toNat = some y) : HashAt l (D ++ [UInt8.ofNat (x * 16 + y)]) (k + 1) := by
  obtain ⟨h1, h2, h3⟩ := id h
  refine ⟨by omega, by rw [List.length_append, h2]; rfl, ?_⟩
  rw [h3, h.two hk, unhex, hx, hy]
  simp only [Option.map_map]
  congr 1
  funext r
  simp
theorem HashAt.bad {l D : List UInt8} {k : Nat} (h : HashAt l D k) (hk : 2 * k + 1 < l.length) (hx : hval (l.getD (2 * k) 0).toNat = none ∨ hval (l.getD (2 * k + 1) 0).toNat = none) : unhex l = none := by
  obtain ⟨h1, h2, h3⟩ := id h
  rw [h3, h.two hk, unhex]
  rcases hx with hx | hx
  · rw [hx]; rfl
  · rw [hx]; cases hval (l.getD (2 * k) 0).toNat <;> rfl
theorem HashAt.stop {l D : List UInt8} {k : Nat} (h : HashAt l D k) (hk : ¬ 2 * k < l.length) : unhex l = some D := by
  obtain ⟨h1, h2, h3⟩ := h
  rw [h3, List.drop_eq_nil_of_le (by omega)]
  simp [unhex]
/-- one of two digits after the other -/
def Two (l : List UInt8) (m : Nat) : Nat → Nat → Prop
  | 0, n => n = 0
  | 1, n => hval (l.getD m 0).toNat = some n
  | _, n => ∃ a b, hval (l.getD m 0).toNat = some a ∧ hval (l.getD (m + 1) 0).toNat = some b ∧ n = a * 16 + b
theorem Two.step {l : List UInt8} {m j n d : Nat} (hj : j < 2) (h : Two l m j n) (hd : hval (l.getD (m + j) 0).toNat = some d) : Two l m (j + 1) (n * 16 + d) := by
  rcases (by omega : j = 0 ∨ j = 1) with rfl | rfl
  · obtain rfl : n = 0 := h
    show hval _ = some _
    rw [show 0 * 16 + d = d by omega]; exact hd
  · exact ⟨n, d, h, hd, rfl⟩
theorem Two.small {l : List UInt8} {m j n : Nat} (h : Two l m j n) (hj : j + 1 < 2) : n = 0 := by
  obtain rfl : j = 0 := by omega
  exact h
theorem Two.bad {l D : List UInt8} {k j : Nat} (hH : HashAt l D k) (hk : 2 * k + 1 < l.length) (hj : j < 2) (hd : hval (l.getD (2 * k + j) 0).toNat = none) : unhex l = none := by
  rcases (by omega : j = 0 ∨ j = 1) with rfl | rfl
  · exact hH.bad hk (.inl hd)
  · exact hH.bad hk (.inr hd)
theorem Two.last {l D : List UInt8} {k n : Nat} (h : Two l (2 * k) 2 n) (hH : HashAt l D k) (hk : 2 * k + 1 < l.length) : HashAt l (D ++ [UInt8.ofNat n]) (k + 1) := by
  obtain ⟨a, b, h1, h2, rfl⟩ := h
  exact hH.step hk h1 h2
theorem hval_lt {c d : Nat} (h : hval c = some d) : d < 16 := by
  unfold hval at h
  split at h
  · injection h with h; omega
  · split at h
    · injection h with h; omega
    · cases h
end Go.Proofs.YtflodiljgphkdaaGreat
