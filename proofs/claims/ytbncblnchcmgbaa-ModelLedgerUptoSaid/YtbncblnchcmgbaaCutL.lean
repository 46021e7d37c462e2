/-
  Plain law: bytes cut into chunks of 64.
-/
import Derived.Test.YtbncblnchcmgbaaGen
namespace Go.Proofs.Ytbncblnchcmgbaa

/-- Chunks of 64 bytes, the last one shorter. -/
def cutsL (l : List UInt8) : List (List UInt8) := if _h : l = [] then [] else l.take 64 :: cutsL (l.drop 64)
termination_by l.length
decreasing_by rw [List.length_drop]; have := List.length_pos_iff.2 _h; omega
theorem cutsL_nil : cutsL [] = [] := by rw [cutsL]; simp
theorem cutsL_cons {l : List UInt8} (h : l ≠ []) : cutsL l = l.take 64 :: cutsL (l.drop 64) := by rw [cutsL]; simp [h]
theorem cutsL_short {l : List UInt8} (h : l ≠ []) (h2 : l.length ≤ 64) : cutsL l = [l] := by
  rw [cutsL_cons h, List.take_of_length_le h2, List.drop_eq_nil_of_le h2, cutsL_nil]
theorem cutsL_head {a b : List UInt8} (h : a.length = 64) : cutsL (a ++ b) = a :: cutsL b := by
  rw [cutsL_cons (by intro e; rw [List.append_eq_nil_iff] at e; rw [e.1] at h; cases h), List.take_append_of_le_length (by omega), List.take_of_length_le (by omega), List.drop_append_of_le_length (by omega), List.drop_eq_nil_of_le (by omega), List.nil_append]
theorem cutsL_ind {P : List UInt8 → Prop} (h0 : P []) (h1 : ∀ l, l ≠ [] → l.length ≤ 64 → P l) (h2 : ∀ a b, a.length = 64 → b ≠ [] → P b → P (a ++ b)) : ∀ l, P l := by
  have : ∀ n, ∀ l : List UInt8, l.length ≤ n → P l := by
    intro n
    induction n with
    | zero => intro l hl; obtain rfl : l = [] := List.eq_nil_of_length_eq_zero (by omega); exact h0
    | succ n ih =>
      intro l hl
      by_cases hs : l.length ≤ 64
      · by_cases hn : l = []
        · subst hn; exact h0
        · exact h1 l hn hs
      · have := h2 (l.take 64) (l.drop 64) (by rw [List.length_take]; omega) (by intro e; have := congrArg List.length e; rw [List.length_drop] at this; simp at this; omega) (ih _ (by rw [List.length_drop]; omega))
        rwa [List.take_append_drop] at this
  exact fun l => this l.length l (Nat.le_refl _)
theorem cutsL_length (l : List UInt8) : (cutsL l).length = (l.length + 63) / 64 := by
  induction l using cutsL_ind with
  | h0 => simp [cutsL_nil]
  | h1 l h h2 => have := List.length_pos_iff.2 h; rw [cutsL_short h h2]; simp; omega
  | h2 a b ha hb ih => rw [cutsL_head ha, List.length_cons, ih, List.length_append, ha]; omega
theorem cutsL_join (l : List UInt8) : (cutsL l).flatten = l := by
  induction l using cutsL_ind with
  | h0 => simp [cutsL_nil]
  | h1 l h h2 => rw [cutsL_short h h2]; simp
  | h2 a b ha hb ih => rw [cutsL_head ha, List.flatten_cons, ih]
/-- One byte more: where the last chunk is whole, a chunk more. -/
theorem cutsL_push_new (l : List UInt8) (x : UInt8) (h : l.length % 64 = 0) : cutsL (l ++ [x]) = cutsL l ++ [[x]] := by
  induction l using cutsL_ind with
  | h0 => rw [List.nil_append, cutsL_short (by simp) (by simp), cutsL_nil]; rfl
  | h1 l hn h2 => have := List.length_pos_iff.2 hn; rw [cutsL_head (by omega), cutsL_short (by simp) (by simp), cutsL_short hn h2]; rfl
  | h2 a b ha hb ih => rw [List.append_assoc, cutsL_head ha, ih (by rw [List.length_append, ha] at h; omega), cutsL_head ha, List.cons_append]
/-- else the last one has one byte more. -/
theorem cutsL_push (l : List UInt8) (x : UInt8) (h : l.length % 64 ≠ 0) : ∃ z, (cutsL l)[l.length / 64]? = some z ∧ cutsL (l ++ [x]) = (cutsL l).set (l.length / 64) (z ++ [x]) := by
  induction l using cutsL_ind with
  | h0 => simp at h
  | h1 l hn h2 =>
    have hlt : l.length < 64 := by omega
    refine ⟨l, ?_, ?_⟩
    · rw [cutsL_short hn h2, show l.length / 64 = 0 by omega]; rfl
    · rw [cutsL_short (by simp) (by simp; omega), cutsL_short hn h2, show l.length / 64 = 0 by omega]; rfl
  | h2 a b ha hb ih =>
    have hlen : (a ++ b).length / 64 = b.length / 64 + 1 := by rw [List.length_append, ha]; omega
    obtain ⟨z, h3, h4⟩ := ih (by rw [List.length_append, ha] at h; omega)
    refine ⟨z, ?_, ?_⟩
    · rw [cutsL_head ha, hlen, List.getElem?_cons_succ, h3]
    · rw [List.append_assoc, cutsL_head ha, h4, cutsL_head ha, hlen, List.set_cons_succ]

/-- Are these chunks? -/
def fitsL (l : List (List UInt8)) : Bool := decide (∀ i, i < l.length → 1 ≤ (l.getD i []).length ∧ (l.getD i []).length ≤ 64 ∧ (i + 1 < l.length → (l.getD i []).length = 64))
theorem fitsL_nil : fitsL [] = true := by simp [fitsL]
theorem fitsL_iff (l : List (List UInt8)) : fitsL l = true ↔ ∀ i, i < l.length → 1 ≤ (l.getD i []).length ∧ (l.getD i []).length ≤ 64 ∧ (i + 1 < l.length → (l.getD i []).length = 64) := by simp [fitsL]
theorem fitsL_one (x : List UInt8) : fitsL [x] = true ↔ 1 ≤ x.length ∧ x.length ≤ 64 := by
  rw [fitsL_iff]
  constructor
  · intro h; have := h 0 (by simp); simpa using this
  · intro h i hi
    obtain rfl : i = 0 := by simp at hi; omega
    simpa using h
theorem fitsL_cons (x y : List UInt8) (r : List (List UInt8)) : fitsL (x :: y :: r) = true ↔ x.length = 64 ∧ fitsL (y :: r) = true := by
  rw [fitsL_iff, fitsL_iff]
  constructor
  · intro h
    refine ⟨(h 0 (by simp)).2.2 (by simp), fun i hi => ?_⟩
    have := h (i + 1) (by simp at hi ⊢; omega)
    simp only [List.getD_cons_succ, List.length_cons] at this ⊢
    exact ⟨this.1, this.2.1, fun hlt => this.2.2 (by omega)⟩
  · rintro ⟨h0, h⟩ i hi
    cases i with
    | zero => simp [h0]
    | succ i =>
      have := h i (by simp at hi ⊢; omega)
      simp only [List.getD_cons_succ, List.length_cons] at this ⊢
      exact ⟨this.1, this.2.1, fun hlt => this.2.2 (by omega)⟩
theorem fitsL_cuts (l : List UInt8) : fitsL (cutsL l) = true := by
  induction l using cutsL_ind with
  | h0 => rw [cutsL_nil, fitsL_nil]
  | h1 l h h2 => rw [cutsL_short h h2, fitsL_one]; exact ⟨List.length_pos_iff.2 h, h2⟩
  | h2 a b ha hb ih =>
    rw [cutsL_head ha]
    cases h : cutsL b with
    | nil => rw [fitsL_one]; omega
    | cons y r => rw [h] at ih; rw [fitsL_cons]; exact ⟨ha, ih⟩
theorem cutsL_of_fits (l : List (List UInt8)) (h : fitsL l = true) : cutsL l.flatten = l := by
  induction l with
  | nil => simp [cutsL_nil]
  | cons x r ih =>
    cases r with
    | nil =>
      rw [fitsL_one] at h
      simp only [List.flatten_cons, List.flatten_nil, List.append_nil]
      exact cutsL_short (by intro e; subst e; simp at h) h.2
    | cons y r =>
      rw [fitsL_cons] at h
      rw [List.flatten_cons, cutsL_head h.1, ih h.2]
/-- Parts fit just if they are the chunks of what they make together. -/
theorem fits_iff_cuts (l : List (List UInt8)) : fitsL l = decide (cutsL l.flatten = l) := by
  by_cases h : fitsL l = true
  · rw [h, decide_eq_true (cutsL_of_fits l h)]
  · have h2 : ¬ cutsL l.flatten = l := fun e => h (by rw [← e]; exact fitsL_cuts _)
    rw [decide_eq_false h2]; simpa using h
/-- Bytes that begin alike have the same first chunks. -/
theorem cutsL_heads (h a : List UInt8) : (cutsL (h ++ a)).take (h.length / 64) = (cutsL h).take (h.length / 64) := by
  induction h using cutsL_ind generalizing a with
  | h0 => simp
  | h1 l hn h2 =>
    by_cases h64 : l.length = 64
    · rw [cutsL_head h64, cutsL_short hn h2, h64]; simp
    · rw [show l.length / 64 = 0 by omega]; simp
  | h2 x b ha hb ih =>
    rw [List.append_assoc, cutsL_head ha, cutsL_head ha, List.length_append, ha, show (64 + b.length) / 64 = b.length / 64 + 1 by omega, List.take_succ_cons, List.take_succ_cons, ih]

/-- The same of texts. -/
def cutsB (s : ByteArray) : List ByteArray := (cutsL s.data.toList).map bs
def joinB (l : List ByteArray) : ByteArray := bs (l.map (·.data.toList)).flatten
def fitsB (l : List ByteArray) : Bool := fitsL (l.map (·.data.toList))
theorem map_bs (l : List (List UInt8)) : (l.map bs).map (·.data.toList) = l := by
  rw [List.map_map]
  conv => rhs; rw [← List.map_id l]
  exact List.map_congr_left fun a _ => bs_data a
theorem map_data (l : List ByteArray) : (l.map (·.data.toList)).map bs = l := by
  rw [List.map_map]
  conv => rhs; rw [← List.map_id l]
  exact List.map_congr_left fun a _ => bs_of a
theorem fitsB_cuts (s : ByteArray) : fitsB (cutsB s) = true := by unfold fitsB cutsB; rw [map_bs]; exact fitsL_cuts _
theorem joinB_cuts (s : ByteArray) : joinB (cutsB s) = s := by unfold joinB cutsB; rw [map_bs, cutsL_join]; exact bs_of s
theorem fitsB_iff (l : List ByteArray) : fitsB l = decide (cutsB (joinB l) = l) := by
  unfold fitsB cutsB joinB
  rw [fits_iff_cuts, bs_data]
  have : (cutsL (l.map (·.data.toList)).flatten = l.map (·.data.toList)) ↔ ((cutsL (l.map (·.data.toList)).flatten).map bs = l) := by
    constructor
    · intro h; rw [h, map_data]
    · intro h
      have := congrArg (List.map (·.data.toList)) h
      rwa [map_bs] at this
  exact decide_eq_decide.2 this
theorem cutsB_length (s : ByteArray) : (cutsB s).length = (s.size + 63) / 64 := by unfold cutsB; rw [List.length_map, cutsL_length, data_length]
theorem cutsB_heads (h a b : ByteArray) : (cutsB (h ++ a)).take (h.size / 64) = (cutsB (h ++ b)).take (h.size / 64) := by
  unfold cutsB
  rw [← List.map_take, ← List.map_take, ByteArray.data_append, ByteArray.data_append, Array.toList_append, Array.toList_append, ← data_length, cutsL_heads, cutsL_heads]
theorem cutsB_sizes (s x : ByteArray) (h : x ∈ cutsB s) : x.size ≤ 64 := by
  obtain ⟨l, hl, rfl⟩ := List.mem_map.1 h
  rw [bs_size]
  obtain ⟨i, hi, rfl⟩ := List.mem_iff_getElem.1 hl
  have := ((fitsL_iff _).1 (fitsL_cuts s.data.toList) i hi).2.1
  rwa [List.getD_eq_getElem?_getD, List.getElem?_eq_getElem hi, Option.getD_some] at this
end Go.Proofs.Ytbncblnchcmgbaa
