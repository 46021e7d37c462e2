/-
  A row of structs in a block, its elements stored anew; slices.Reverse of operations.
-/
import Derived.Test.YtbncblnchcmgbaaMod2
namespace Go.Proofs.Ytbncblnchcmgbaa
open Go.RowKit Go.ChangeShapes Go.WideShapes Go.ChangeAt

def RowG {α : Type} (E : Rp α) (T : TypeId) (w : World) (S : Nat → Prop) (g n : Nat) (l : List α) : Prop :=
  ∃ cs, Blk w g T cs ∧ n * E.size ≤ cs.length ∧ l.length = n ∧ ∀ (j : Nat) a, l[j]? = some a → E.R w S ((cs.drop (j * E.size)).take E.size) a
namespace RowG
variable {α : Type} {E : Rp α} {T : TypeId} {w w' : World} {S Q : Nat → Prop} {g n : Nat} {l : List α}
theorem of_own {v : Value} {base : Nat} (h : Own E w S base T v l) (hl : 0 < l.length) : ∃ g c, v = .slice (some ⟨g, 0, none⟩) l.length c ∧ l.length ≤ c ∧ c ≤ maxLen ∧ v.ownBlock = some g ∧ RowG E T w S g l.length l := by
  obtain ⟨xs, ⟨h0, h1⟩, _, h3⟩ := h
  rcases h1 with ⟨_, h1⟩ | ⟨g, cap, cur, rfl, hb, hg, hn, hm, hc, ht⟩
  · omega
  · refine ⟨g, cap, rfl, hn, hm, rfl, cur.toList, by unfold Blk; simpa using hg, ?_, rfl, fun j a ha => ?_⟩
    · have hxl : xs.length = l.length * E.size := h0
      rw [← ht, List.length_take] at hxl
      omega
    · have h4 := h3 j a ha
      have hj := (List.getElem?_eq_some_iff.1 ha).1
      have hmul : (j + 1) * E.size ≤ l.length * E.size := Nat.mul_le_mul_right _ hj
      rw [Nat.add_mul, Nat.one_mul] at hmul
      have e : (xs.drop (j * E.size)).take E.size = (cur.toList.drop (j * E.size)).take E.size := by
        rw [← ht, List.drop_take, List.take_take]
        congr 1
        omega
      rw [e] at h4
      exact h4
theorem kept (h : RowG E T w S g n l) (hk : Kp Q w w') (hg : ¬ Q g) (hs : ∀ k, S k → k < w.heap.size → ¬ Q k) : RowG E T w' S g n l := by
  obtain ⟨cs, h1, h2, h3, h4⟩ := h
  exact ⟨cs, h1.kept hk hg, h2, h3, fun j a ha => E.kept (h4 j a ha) hk hs⟩
theorem keptNo (h : RowG E T w S g n l) (hk : Kp No w w') : RowG E T w' S g n l := h.kept hk (fun x => x) (fun _ _ _ x => x)
theorem cells (h : RowG E T w S g n l) {j : Nat} {a : α} (ha : l[j]? = some a) : ∃ es, es.length = E.size ∧ E.R w S es a ∧ ∀ (k : Nat) u, es[k]? = some u → w.cell? ⟨g, j * E.size + k, none⟩ = some u := by
  obtain ⟨cs, h1, h2, h3, h4⟩ := h
  have hr := h4 j a ha
  refine ⟨_, E.len hr, hr, fun k u hu => h1.cell ?_⟩
  have hk : k < E.size := by
    have := (List.getElem?_eq_some_iff.1 hu).1
    rw [List.length_take] at this
    omega
  rw [List.getElem?_take_of_lt hk, List.getElem?_drop] at hu
  exact hu
theorem fr (h : RowG E T w S g n l) (p : Nat) : w.frozen? ⟨g, p, none⟩ = false := by
  obtain ⟨cs, h1, _⟩ := h
  exact Blk.fr h1 p
theorem set (h : RowG E T w S g n l) (hg : ¬ S g) {j : Nat} (hj : j < n) {es : List Value} {a : α} (hr : E.R w S es a) : RowG E T (wset w g (j * E.size) es) S g n (l.set j a) := by
  obtain ⟨cs, h1, h2, h3, h4⟩ := h
  have hes : es.length = E.size := E.len hr
  have hmul : (j + 1) * E.size ≤ n * E.size := Nat.mul_le_mul_right _ hj
  rw [Nat.add_mul, Nat.one_mul] at hmul
  have hk : Kp (· = g) w (wset w g (j * E.size) es) := wset_kp
  have hkr : ∀ {cs a}, E.R w S cs a → E.R (wset w g (j * E.size) es) S cs a := fun h => E.kept h hk (fun k hs _ e => hg (e ▸ hs))
  refine ⟨_, wset_blk h1, by rw [lset_length]; exact h2, by rw [List.length_set]; exact h3, fun i b hb => ?_⟩
  by_cases hij : i = j
  · subst hij
    rw [List.getElem?_set_self (by omega)] at hb
    injection hb with hb
    subst hb
    have e : ((lset cs (i * E.size) es).drop (i * E.size)).take E.size = es := by
      apply List.ext_getElem?
      intro k
      by_cases hk2 : k < E.size
      · rw [List.getElem?_take_of_lt hk2, List.getElem?_drop, lset_get (by omega), if_pos (by omega), Nat.add_sub_cancel_left]
      · rw [List.getElem?_eq_none (by rw [List.length_take]; omega), List.getElem?_eq_none (by omega)]
    rw [e]
    exact hkr hr
  · rw [List.getElem?_set_ne (fun e => hij e.symm)] at hb
    have hi : i < n := by have := (List.getElem?_eq_some_iff.1 hb).1; omega
    have hne : ∀ k, k < E.size → ¬ (j * E.size ≤ i * E.size + k ∧ i * E.size + k < j * E.size + es.length) := by
      intro k hk2 ⟨h5, h6⟩
      rcases Nat.lt_or_gt_of_ne hij with hlt | hlt
      · have := Nat.mul_le_mul_right E.size (show i + 1 ≤ j from hlt)
        rw [Nat.add_mul, Nat.one_mul] at this
        omega
      · have := Nat.mul_le_mul_right E.size (show j + 1 ≤ i from hlt)
        rw [Nat.add_mul, Nat.one_mul] at this
        omega
    have e : ((lset cs (j * E.size) es).drop (i * E.size)).take E.size = (cs.drop (i * E.size)).take E.size := by
      apply List.ext_getElem?
      intro k
      by_cases hk2 : k < E.size
      · rw [List.getElem?_take_of_lt hk2, List.getElem?_take_of_lt hk2, List.getElem?_drop, List.getElem?_drop, lset_get (by omega), if_neg (hne k hk2)]
      · rw [List.getElem?_eq_none (by rw [List.length_take]; omega), List.getElem?_eq_none (by rw [List.length_take]; omega)]
    rw [e]
    exact hkr (h4 i b hb)
theorem read (h : RowG E T w S g n l) {c : Nat} (hc : n ≤ c) (hm : c ≤ maxLen) : E.slice.R w (fun k => S k ∨ k = g) [.slice (some ⟨g, 0, none⟩) n c] l := by
  have hln : l.length = n := by obtain ⟨cs, _, _, h3, _⟩ := h; exact h3
  subst hln
  refine ⟨_, _, rfl, hc, hm, fun _ => ⟨_, rfl, .inr rfl, fun i a hi => ?_⟩⟩
  obtain ⟨es, h5, h6, h7⟩ := h.cells hi
  refine ⟨es, fun j u hu => ?_, E.more h6 (fun k hk => .inl hk)⟩
  show w.cell? (((⟨g, 0, none⟩ : Addr).add (i * E.size)).add j) = _
  rw [Addr.add_lit, Addr.add_lit]
  have := h7 j u hu
  simpa using this
end RowG
end Go.Proofs.Ytbncblnchcmgbaa
