/-
  Names that may be: byte by byte, as rune by rune.
-/
import Derived.Test.YtflodiljgphkdaaGreatM2
import Derived.Lib.DecodeN
import Derived.Shelf.GgClosure.StringsIndexFunc
namespace Go.Proofs.YtflodiljgphkdaaGreat
open Go.RowKit Go.ChangeShapes Go.WideShapes Go.ChangeAt

def oddR (c : Nat) : Bool := (decide (c < 97) || decide (122 < c)) && ((decide (c < 48) || decide (57 < c)) && decide (c ≠ 46))
theorem getD_get (s : ByteArray) (i : Nat) : s.data.toList.getD i 0 = s.get! i := by
  cases s with
  | mk d =>
    show d.toList.getD i 0 = d[i]!
    by_cases h : i < d.size
    · rw [getElem!_pos d i h]; simp [List.getD, h]
    · rw [getElem!_neg d i h]; simp [List.getD, h]; rfl
theorem decodeN_low (n b0 b1 b2 b3 : Nat) (h : b0 < 128) : Lib.decodeN n b0 b1 b2 b3 = (b0, 1) := by simp [Lib.decodeN, h]
theorem decodeN_high (n b0 b1 b2 b3 : Nat) (h : 128 ≤ b0) : 128 ≤ (Lib.decodeN n b0 b1 b2 b3).1 := by
  unfold Lib.decodeN
  rw [if_neg (by omega)]
  repeat' split
  all_goals (simp only; omega)
theorem okC_iff (c : UInt8) : okC c = true ↔ c.toNat < 128 ∧ oddR c.toNat = false := by
  have e : ∀ k : UInt8, (k ≤ c ↔ k.toNat ≤ c.toNat) ∧ (c ≤ k ↔ c.toNat ≤ k.toNat) := fun k => ⟨UInt8.le_iff_toNat_le, UInt8.le_iff_toNat_le⟩
  have e46 : c = 46 ↔ c.toNat = 46 := ⟨fun h => by rw [h]; rfl, fun h => UInt8.toNat_inj.1 h⟩
  have h97 := (e 97).1; have h122 := (e 122).2; have h48 := (e 48).1; have h57 := (e 57).2
  simp only [show (97 : UInt8).toNat = 97 from rfl, show (122 : UInt8).toNat = 122 from rfl, show (48 : UInt8).toNat = 48 from rfl, show (57 : UInt8).toNat = 57 from rfl] at h97 h122 h48 h57
  unfold okC oddR
  simp only [Bool.or_eq_true, Bool.and_eq_true, decide_eq_true_eq, beq_iff_eq, h97, h122, h48, h57, e46, Bool.and_eq_false_iff, Bool.or_eq_false_iff, decide_eq_false_iff_not, ne_eq, Decidable.not_not]
  omega
theorem idx_odd (s : ByteArray) : ∀ (n pos : Nat), s.size ≤ pos + n → (Lib.idxFuncFrom oddR true s n pos < 0 ↔ ∀ c ∈ s.data.toList.drop pos, okC c = true)
  | 0, pos, h => by
    have : s.data.toList.drop pos = [] := List.drop_eq_nil_of_le (by rw [data_length]; omega)
    rw [this]
    simp [Lib.idxFuncFrom]
  | n + 1, pos, h => by
    unfold Lib.idxFuncFrom
    by_cases hp : pos < s.size
    · rw [if_pos hp]
      have hl : pos < s.data.toList.length := by rw [data_length]; exact hp
      rw [List.drop_eq_getElem_cons hl]
      have hb : s.get! pos = s.data.toList[pos] := by rw [← getD_get, List.getD_eq_getElem?_getD, List.getElem?_eq_getElem hl]; rfl
      have hd := Lib.decode_at s pos
      rw [hb] at hd
      generalize s.data.toList[pos] = c at hd ⊢
      by_cases hc : c.toNat < 128
      · rw [decodeN_low _ _ _ _ _ hc] at hd
        rw [hd]
        by_cases ho : oddR c.toNat = true
        · rw [if_pos ho]
          constructor
          · intro h; omega
          · intro h
            have := (okC_iff c).1 (h c (List.mem_cons_self ..))
            rw [ho] at this; exact absurd this.2 (by simp)
        · rw [if_neg ho, idx_odd s n (pos + 1) (by omega)]
          have hk : okC c = true := (okC_iff c).2 ⟨hc, by simpa using ho⟩
          simp [hk]
      · have h2 := decodeN_high (s.size - pos) c.toNat (s.get! (pos + 1)).toNat (s.get! (pos + 2)).toNat (s.get! (pos + 3)).toNat (by omega)
        rw [← hd] at h2
        have ho : oddR (Utf8.decode s pos).1 = true := by unfold oddR; simp; omega
        rw [if_pos ho]
        constructor
        · intro h; omega
        · intro h
          exact absurd ((okC_iff c).1 (h c (List.mem_cons_self ..))).1 hc
    · rw [if_neg hp]
      have : s.data.toList.drop pos = [] := List.drop_eq_nil_of_le (by rw [data_length]; omega)
      rw [this]; simp
theorem fine_idx (s : ByteArray) : decide (Lib.idxFunc oddR true s < 0) = s.data.toList.all okC := by
  rw [Bool.eq_iff_iff, decide_eq_true_eq, List.all_eq_true]
  unfold Lib.idxFunc
  have := idx_odd s s.size 0 (by omega)
  rwa [List.drop_zero] at this
end Go.Proofs.YtflodiljgphkdaaGreat
