/-
  Bytes out of a text, again as text: all of them, their head, their tail; one of them turned.
-/
import Derived.Test.YtobgnklebfdbnaaOwnM
namespace Go.Proofs.Ytobgnklebfdbnaa
open Go.RowKit Go.ChangeShapes Go.WideShapes Go.ChangeAt

namespace OwnM
variable {P : Program} {w : World} {base : Nat} {e : TypeId} {l : List UInt8}
theorem run_back (src u : TypeId) (hb : Bytely P src u e) {g o n c : Nat} (h : OwnM w base e (.slice (some ⟨g, o, none⟩) n c) l) : (convert src u (.slice (some ⟨g, o, none⟩) n c)).run P w = .ok (.string (bs l)) w := by
  obtain ⟨A, c', he, _⟩ := h.shape
  injection he with _ he2 he3
  subst he2 he3
  obtain ⟨ht, hu, he, _⟩ := hb
  refine run_convert_bytes_back w src u e ⟨g, o, none⟩ c l ht he hu fun j hj => ?_
  obtain ⟨g', o', he', _, _, hc⟩ := h.cell hj
  injection he' with he'
  injection he' with e1 e2
  subst e1 e2
  have e0 : (⟨g, o, none⟩ : Addr).add j = ⟨g, o + j, none⟩ := by
    unfold Addr.add
    split
    · rename_i h; subst h; rfl
    · rfl
  rw [e0, hc, List.getD_eq_getElem?_getD, List.getElem?_eq_getElem hj]; rfl
theorem turn {g n c : Nat} (h : OwnM w base e (.slice (some ⟨g, 0, none⟩) n c) l) {i : Nat} (hi : i < l.length) (x : UInt8) :
    OwnM (w.setCell ⟨g, i, none⟩ (byteOf x)) base e (.slice (some ⟨g, 0, none⟩) n c) (l.set i x) ∧ w.frozen? ⟨g, i, none⟩ = false ∧ w.cell? ⟨g, i, none⟩ = some (byteOf l[i]) := by
  rcases h with ⟨rfl, _⟩ | ⟨g', o, cap, cur, fr, he, hb, hg, hfr, h1, h2, h3, htk⟩
  · cases hi
  · injection he with e1 e2 e3
    injection e1 with e1
    injection e1 with e1 e4
    subst e1 e2 e3 e4
    rw [List.drop_zero] at htk
    refine ⟨.inr ⟨g, 0, c, cur.setIfInBounds i (byteOf x), fr, by rw [List.length_set], hb, ?_, hfr.size (by simp), by rw [List.length_set]; exact h1, by simpa using h2, h3, ?_⟩, hfr.off hg (by omega), ?_⟩
    · simp [World.setCell, Array.getElem?_modify, hg]
    · rw [List.drop_zero, List.length_set, List.map_set, ← htk]
      simp [List.take_set]
    · have h5 : (cur.toList.take l.length)[i]? = (l.map byteOf)[i]? := by rw [htk]
      rw [List.getElem?_take_of_lt hi, Array.getElem?_toList, List.getElem?_map, List.getElem?_eq_getElem hi] at h5
      simp [World.cell?, hg, h5]
theorem head {A : Option Addr} {n c : Nat} (h : OwnM w base e (.slice A n c) l) {k : Nat} (hk : k ≤ l.length) : OwnM w base e (.slice A k c) (l.take k) := by
  have hl : (l.take k).length = k := by rw [List.length_take]; omega
  rcases h with ⟨rfl, A', he, hA⟩ | ⟨g, o, cap, cur, fr, he, hb, hg, hfr, h1, h2, h3, htk⟩
  · injection he with e1 e2 e3
    subst e1 e2 e3
    have : k = 0 := by simpa using hk
    subst this
    exact .inl ⟨rfl, _, rfl, hA⟩
  · injection he with e1 e2 e3
    subst e1 e3
    refine .inr ⟨g, o, c, cur, fr, by rw [hl], hb, hg, hfr, by omega, h2, h3, ?_⟩
    rw [hl, List.map_take, ← htk, List.take_take, Nat.min_eq_left hk]
/-- the tail, as text -/
theorem run_tail (src u : TypeId) (hb : Bytely P src u e) {g n c : Nat} (h : OwnM w base e (.slice (some ⟨g, 0, none⟩) n c) l) {k : Nat} (hk : k ≤ l.length) :
    (convert src u (.slice (if c = k then some ⟨g, 0, none⟩ else some ⟨g, k, none⟩) (n - k) (c - k))).run P w = .ok (.string (bs (l.drop k))) w := by
  obtain ⟨A, c', he, hc⟩ := h.shape
  injection he with _ he2 he3
  subst he2 he3
  by_cases hck : c = k
  · rw [if_pos hck]
    have hd : l.drop k = [] := List.drop_eq_nil_of_le (by omega)
    have hn : l.length - k = 0 := by omega
    rw [hd, hn]
    obtain ⟨ht, hu, he, _⟩ := hb
    exact run_convert_bytes_back w src u e ⟨g, 0, none⟩ (c - k) [] ht he hu fun j hj => absurd hj (by simp)
  · rw [if_neg hck]
    have h2 := h.cut hk (by omega)
    rw [Nat.zero_add, List.length_drop] at h2
    exact h2.run_back src u hb
end OwnM
end Go.Proofs.Ytobgnklebfdbnaa
