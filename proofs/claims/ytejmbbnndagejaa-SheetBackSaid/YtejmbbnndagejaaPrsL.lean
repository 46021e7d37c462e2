/-
  Plain law: reading a sheet.
-/
import Derived.Test.YtejmbbnndagejaaW2
import Derived.Test.YtejmbbnndagejaaQ4
import Derived.Test.YtejmbbnndagejaaShtL
namespace Go.Proofs.Ytejmbbnndagejaa
open Go.RowKit

/-- amid the reading of so many texts: so many are left, those that are read, the bytes that are left, whether something was wrong -/
def PIn (n0 : Nat) (L : List UInt8) (k : Nat) (l : List ByteArray) (M : List UInt8) (b : Bool) : Prop :=
  (b = false ∧ rdTexts n0 L = (rdTexts k M).map (fun p => (l ++ p.1, p.2))) ∨ (b = true ∧ rdTexts n0 L = none)
theorem PIn.start (n0 : Nat) (L : List UInt8) : PIn n0 L n0 [] L false := by
  left; refine ⟨rfl, ?_⟩
  cases rdTexts n0 L <;> rfl
theorem PIn.good {n0 L k l M t r} (h : PIn n0 L (k + 1) l M false) (ht : rdText M = some (t, r)) : PIn n0 L k (l ++ [bs t]) r false := by
  rcases h with ⟨_, h⟩ | ⟨h, _⟩
  · left
    refine ⟨rfl, ?_⟩
    have e : rdTexts (k + 1) M = (rdTexts k r).map fun p => (bs t :: p.1, p.2) := by conv => lhs; unfold rdTexts; rw [ht]
    rw [h, e]
    cases rdTexts k r with
    | none => rfl
    | some p => simp
  · cases h
theorem PIn.bad {n0 L k l M} (h : PIn n0 L (k + 1) l M false) (ht : rdText M = none) (l' : List ByteArray) (M' : List UInt8) : PIn n0 L k l' M' true := by
  rcases h with ⟨_, h⟩ | ⟨h, _⟩
  · right
    refine ⟨rfl, ?_⟩
    rw [h]
    unfold rdTexts
    rw [ht]
    rfl
  · cases h
theorem PIn.stop {n0 L l M} (h : PIn n0 L 0 l M false) : rdTexts n0 L = some (l, M) := by
  rcases h with ⟨_, h⟩ | ⟨h, _⟩
  · rw [h]; unfold rdTexts; simp
  · cases h
theorem PIn.none {n0 L k l M} (h : PIn n0 L k l M true) : rdTexts n0 L = none := by
  rcases h with ⟨h, _⟩ | ⟨_, h⟩
  · cases h
  · exact h

/-- the sheet that bytes are -/
def parseS (L : List UInt8) : Option (Int × List ByteArray) :=
  match rdNum L with
  | none => none
  | some (n, L1) =>
    match rdNum L1 with
    | none => none
    | some (m, L2) =>
      if m < 0 then none else
      match rdTexts m.toNat L2 with
      | none => none
      | some (l, r) => if r = [] ∧ okSheet n l = true then some (n, l) else none

theorem numSt_none {s : ByteArray} (h : rdNum s.data.toList = none) : numSt s false = (0, s, true) := by unfold numSt; rw [h]
theorem numSt_some {s : ByteArray} {p} (h : rdNum s.data.toList = some p) : numSt s false = (p.1, bs p.2, false) := by unfold numSt; rw [h]
theorem numSt_bad (s : ByteArray) : numSt s true = (0, s, true) := by unfold numSt; cases rdNum s.data.toList <;> rfl
theorem textSt_none {s : ByteArray} (h : rdText s.data.toList = none) : ∃ s', s'.size ≤ s.size ∧ textOf (numSt s false) = (ByteArray.empty, s', true) := by
  unfold rdText at h
  cases hn : rdNum s.data.toList with
  | none => exact ⟨s, Nat.le_refl _, by rw [numSt_none hn]; rfl⟩
  | some p =>
    obtain ⟨n, r⟩ := p
    rw [hn] at h
    obtain ⟨m, h1, h2, h3⟩ := rdNum_end hn
    refine ⟨bs r, by rw [bs_size, h3, List.length_drop]; rw [data_length]; omega, ?_⟩
    rw [numSt_some hn]
    have hf : ¬ fits n (bs r) := by
      intro hf
      simp only [] at h
      rw [if_pos (show 0 ≤ n ∧ n ≤ (r.length : Int) from hf)] at h
      cases h
    exact if_neg hf
theorem textSt_some {s : ByteArray} {t r} (h : rdText s.data.toList = some (t, r)) : textOf (numSt s false) = (bs t, bs r, false) := by
  unfold rdText at h
  cases hn : rdNum s.data.toList with
  | none => rw [hn] at h; cases h
  | some p =>
    obtain ⟨n, r1⟩ := p
    rw [hn] at h
    simp only [] at h
    split at h
    · rename_i hf
      injection h with h
      injection h with h1 h2
      rw [numSt_some hn]
      refine (if_pos (show fits n (bs r1) from hf)).trans ?_
      show ((bs r1).extract 0 n.toNat, (bs r1).extract n.toNat (bs r1).size, false) = _
      rw [bs_extract, bs_extract, ← h1, ← h2, bs_size, List.drop_zero, Nat.sub_zero, List.take_of_length_le (show (List.drop n.toNat r1).length ≤ _ by rw [List.length_drop]; omega)]
    · cases h
theorem numSt_size {s : ByteArray} (b : Bool) : (numSt s b).2.1.size ≤ s.size := by
  unfold numSt
  cases b with
  | true => cases rdNum s.data.toList <;> exact Nat.le_refl _
  | false =>
    cases hn : rdNum s.data.toList with
    | none => exact Nat.le_refl _
    | some p =>
      obtain ⟨n, r⟩ := p
      obtain ⟨m, h1, h2, h3⟩ := rdNum_end hn
      show r.length ≤ s.size
      rw [h3, List.length_drop, data_length]; omega
theorem numRf_bad (S : ByteArray) (p : Nat) : numRf S p true = (0, p, true) := by unfold numRf; cases rdNum (S.data.toList.drop p) <;> rfl
theorem numRf_none {S : ByteArray} {p : Nat} (h : rdNum (S.data.toList.drop p) = none) : numRf S p false = (0, p, true) := by unfold numRf; rw [h]
theorem numRf_some {S : ByteArray} {p : Nat} {q} (h : rdNum (S.data.toList.drop p) = some q) : numRf S p false = (q.1, S.size - q.2.length, false) := by unfold numRf; rw [h]
theorem numRf_le {S : ByteArray} {p : Nat} (hp : p ≤ S.size) (b : Bool) : (numRf S p b).2.1 ≤ S.size := by
  unfold numRf
  cases b with
  | true => cases rdNum (S.data.toList.drop p) <;> exact hp
  | false =>
    cases rdNum (S.data.toList.drop p) with
    | none => exact hp
    | some q => exact Nat.sub_le _ _
/-- the bytes at the place behind a reading are those that are left -/
theorem rest_at {S : ByteArray} {p m : Nat} {r : List UInt8} (hp : p ≤ S.size) (hm : m ≤ (S.data.toList.drop p).length) (h : r = (S.data.toList.drop p).drop m) : S.data.toList.drop (S.size - r.length) = r ∧ S.size - r.length = p + m := by
  rw [List.length_drop, data_length] at hm
  have e : S.size - r.length = p + m := by rw [h, List.drop_drop, List.length_drop, data_length]; omega
  refine ⟨?_, e⟩
  rw [e, h, List.drop_drop]
theorem numRf_rest {S : ByteArray} {p : Nat} {q} (hp : p ≤ S.size) (h : rdNum (S.data.toList.drop p) = some q) : S.data.toList.drop (S.size - q.2.length) = q.2 := by
  obtain ⟨n, r⟩ := q
  obtain ⟨m, h1, h2, h3⟩ := rdNum_end h
  exact (rest_at hp h2 h3).1
theorem textRf_none {S : ByteArray} {p : Nat} (hp : p ≤ S.size) (h : rdText (S.data.toList.drop p) = none) : ∃ p', p' ≤ S.size ∧ textRf S (numRf S p false) = (ByteArray.empty, p', true) := by
  unfold rdText at h
  cases hn : rdNum (S.data.toList.drop p) with
  | none => exact ⟨p, hp, by rw [numRf_none hn]; rfl⟩
  | some q =>
    obtain ⟨n, r⟩ := q
    rw [hn] at h
    obtain ⟨m, h1, h2, h3⟩ := rdNum_end hn
    obtain ⟨h4, h5⟩ := rest_at hp h2 h3
    refine ⟨S.size - r.length, Nat.sub_le _ _, ?_⟩
    rw [numRf_some hn]
    have hrl : r.length ≤ S.size := by rw [h3, List.length_drop, List.length_drop, data_length]; omega
    have hf : ¬ fitsAt S n (S.size - r.length) := by
      intro hf
      simp only [] at h
      rw [if_pos (show 0 ≤ n ∧ n ≤ (r.length : Int) by unfold fitsAt at hf; omega)] at h
      cases h
    exact if_neg hf
theorem textRf_some {S : ByteArray} {p : Nat} {t r} (hp : p ≤ S.size) (h : rdText (S.data.toList.drop p) = some (t, r)) : textRf S (numRf S p false) = (bs t, S.size - r.length, false) ∧ S.data.toList.drop (S.size - r.length) = r := by
  have hend := rdText_end h
  unfold rdText at h
  cases hn : rdNum (S.data.toList.drop p) with
  | none => rw [hn] at h; cases h
  | some q =>
    obtain ⟨n, r1⟩ := q
    rw [hn] at h
    simp only [] at h
    obtain ⟨m, h1, h2, h3⟩ := rdNum_end hn
    obtain ⟨h4, h5⟩ := rest_at hp h2 h3
    have hrl : r1.length ≤ S.size := by rw [h3, List.length_drop, List.length_drop, data_length]; omega
    split at h
    · rename_i hf
      injection h with h
      injection h with ht hr
      obtain ⟨m2, h6, h7, h8⟩ := hend
      refine ⟨?_, (rest_at hp h7 h8).1⟩
      rw [numRf_some hn]
      refine (if_pos (show fitsAt S n (S.size - r1.length) by unfold fitsAt; omega)).trans ?_
      have e1 : S.extract (S.size - r1.length) (S.size - r1.length + n.toNat) = bs t := by
        have h := bs_extract S.data.toList (S.size - r1.length) (S.size - r1.length + n.toNat)
        rw [bs_of, h4, Nat.add_sub_cancel_left] at h
        rw [h, ht]
      have e2 : S.size - r1.length + n.toNat = S.size - r.length := by
        rw [← hr, List.length_drop]; omega
      rw [e1, e2]
    · cases h
/-- how a sheet's reading goes on behind the count -/
def parseOn (n : Int) (k : Nat) (L : List UInt8) : Option (Int × List ByteArray) :=
  match rdTexts k L with
  | none => none
  | some (l, r) => if r = [] ∧ okSheet n l = true then some (n, l) else none
theorem parseS_none {L : List UInt8} (h : rdNum L = none) : parseS L = none := by unfold parseS; rw [h]
theorem parseS_none2 {L L1 : List UInt8} {n : Int} (h : rdNum L = some (n, L1)) (h1 : rdNum L1 = none) : parseS L = none := by unfold parseS; simp only [h, h1]
theorem parseS_neg {L L1 L2 : List UInt8} {n m : Int} (h : rdNum L = some (n, L1)) (h1 : rdNum L1 = some (m, L2)) (hm : m < 0) : parseS L = none := by unfold parseS; simp only [h, h1, if_pos hm]
theorem parseS_on {L L1 L2 : List UInt8} {n : Int} {k : Nat} (h : rdNum L = some (n, L1)) (h1 : rdNum L1 = some ((k : Int), L2)) : parseS L = parseOn n k L2 := by
  unfold parseS parseOn
  simp only [h, h1, if_neg (show ¬ (k : Int) < 0 by omega), Int.toNat_natCast]
theorem rdTexts_over {k : Nat} {L : List UInt8} (h : L.length < k) : rdTexts k L = none := by
  cases hr : rdTexts k L with
  | none => rfl
  | some p => have := (rdTexts_many hr).1; omega
theorem count_case {s s1 s2 : ByteArray} {n m : Int} {b1 b2 : Bool} (h1 : numSt s false = (n, s1, b1)) (h2 : countOf (numSt s1 b1) = (m, s2, b2)) :
    -9223372036854775808 ≤ n ∧ n < 9223372036854775808 ∧ ((b2 = true ∧ m = 0 ∧ parseS s.data.toList = none) ∨ (b2 = false ∧ ∃ k : Nat, m = (k : Int) ∧ k ≤ s2.size ∧ parseS s.data.toList = parseOn n k s2.data.toList)) := by
  cases hn : rdNum s.data.toList with
  | none =>
    rw [numSt_none hn] at h1
    simp only [Prod.mk.injEq] at h1
    obtain ⟨rfl, rfl, rfl⟩ := h1
    rw [numSt_bad] at h2
    have h2' : ((0 : Int), s, true) = (m, s2, b2) := h2
    simp only [Prod.mk.injEq] at h2'
    obtain ⟨rfl, rfl, rfl⟩ := h2'
    exact ⟨by omega, by omega, .inl ⟨rfl, rfl, parseS_none hn⟩⟩
  | some q =>
    obtain ⟨n', L1⟩ := q
    rw [numSt_some hn] at h1
    simp only [Prod.mk.injEq] at h1
    obtain ⟨rfl, rfl, rfl⟩ := h1
    obtain ⟨hb1, hb2⟩ := rdNum_bounds hn
    refine ⟨hb1, hb2, ?_⟩
    cases hm : rdNum L1 with
    | none =>
      rw [numSt_none (s := bs L1) hm] at h2
      have h2' : ((0 : Int), bs L1, true) = (m, s2, b2) := h2
      simp only [Prod.mk.injEq] at h2'
      obtain ⟨rfl, rfl, rfl⟩ := h2'
      exact .inl ⟨rfl, rfl, parseS_none2 hn hm⟩
    | some q2 =>
      obtain ⟨m', L2⟩ := q2
      rw [numSt_some (s := bs L1) hm] at h2
      by_cases hf : fits m' (bs L2)
      · have h2' : (m', bs L2, false) = (m, s2, b2) := (if_pos hf).symm.trans h2
        simp only [Prod.mk.injEq] at h2'
        obtain ⟨rfl, rfl, rfl⟩ := h2'
        obtain ⟨h3, h4⟩ := hf
        obtain ⟨k, rfl⟩ : ∃ k : Nat, m' = (k : Int) := ⟨m'.toNat, by omega⟩
        exact .inr ⟨rfl, k, rfl, by omega, parseS_on hn hm⟩
      · have h2' : ((0 : Int), bs L2, true) = (m, s2, b2) := (if_neg hf).symm.trans h2
        simp only [Prod.mk.injEq] at h2'
        obtain ⟨rfl, rfl, rfl⟩ := h2'
        refine .inl ⟨rfl, rfl, ?_⟩
        by_cases hneg : m' < 0
        · exact parseS_neg hn hm hneg
        · obtain ⟨k, rfl⟩ : ∃ k : Nat, m' = (k : Int) := ⟨m'.toNat, by omega⟩
          rw [parseS_on hn hm]
          unfold parseOn
          rw [rdTexts_over (by unfold fits at hf; rw [bs_size] at hf; omega)]
theorem count_caseR {S : ByteArray} {n m : Int} {p1 p2 : Nat} {b1 b2 : Bool} (h1 : numRf S 0 false = (n, p1, b1)) (h2 : numRf S p1 b1 = (m, p2, b2)) :
    -9223372036854775808 ≤ n ∧ n < 9223372036854775808 ∧ -9223372036854775808 ≤ m ∧ m < 9223372036854775808 ∧ p2 ≤ S.size ∧ ((b2 = true ∧ m = 0 ∧ parseS S.data.toList = none) ∨ (b2 = false ∧ m < 0 ∧ parseS S.data.toList = none) ∨ (b2 = false ∧ 0 ≤ m ∧ parseS S.data.toList = parseOn n m.toNat (S.data.toList.drop p2))) := by
  cases hn : rdNum (S.data.toList.drop 0) with
  | none =>
    rw [numRf_none hn] at h1
    simp only [Prod.mk.injEq] at h1
    obtain ⟨rfl, rfl, rfl⟩ := h1
    rw [numRf_bad] at h2
    simp only [Prod.mk.injEq] at h2
    obtain ⟨rfl, rfl, rfl⟩ := h2
    exact ⟨by omega, by omega, by omega, by omega, by omega, .inl ⟨rfl, rfl, parseS_none hn⟩⟩
  | some q =>
    obtain ⟨n', L1⟩ := q
    have hrest := numRf_rest (Nat.zero_le _) hn
    rw [numRf_some hn] at h1
    simp only [Prod.mk.injEq] at h1
    obtain ⟨rfl, rfl, rfl⟩ := h1
    obtain ⟨hb1, hb2⟩ := rdNum_bounds hn
    refine ⟨hb1, hb2, ?_⟩
    cases hm : rdNum L1 with
    | none =>
      rw [numRf_none (by rw [hrest]; exact hm)] at h2
      simp only [Prod.mk.injEq] at h2
      obtain ⟨rfl, rfl, rfl⟩ := h2
      exact ⟨by omega, by omega, Nat.sub_le _ _, .inl ⟨rfl, rfl, parseS_none2 hn hm⟩⟩
    | some q2 =>
      obtain ⟨m', L2⟩ := q2
      have hm' : rdNum (S.data.toList.drop (S.size - L1.length)) = some (m', L2) := by rw [hrest]; exact hm
      have hrest2 := numRf_rest (Nat.sub_le _ _) hm'
      rw [numRf_some hm'] at h2
      simp only [Prod.mk.injEq] at h2
      obtain ⟨rfl, rfl, rfl⟩ := h2
      obtain ⟨hb3, hb4⟩ := rdNum_bounds hm
      refine ⟨hb3, hb4, Nat.sub_le _ _, ?_⟩
      by_cases hneg : m' < 0
      · exact .inr (.inl ⟨rfl, hneg, parseS_neg hn hm hneg⟩)
      · obtain ⟨k, rfl⟩ : ∃ k : Nat, m' = (k : Int) := ⟨m'.toNat, by omega⟩
        refine .inr (.inr ⟨rfl, by omega, ?_⟩)
        rw [hrest2, Int.toNat_natCast]
        exact parseS_on hn hm
theorem parseOn_none {n : Int} {k : Nat} {L : List UInt8} (h : rdTexts k L = none) : parseOn n k L = none := by unfold parseOn; rw [h]
theorem parseOn_some {n : Int} {k : Nat} {L r : List UInt8} {l : List ByteArray} (h : rdTexts k L = some (l, r)) : parseOn n k L = if r = [] ∧ okSheet n l = true then some (n, l) else none := by unfold parseOn; rw [h]
end Go.Proofs.Ytejmbbnndagejaa
