/-
  The document's drive (merged of eleven texts).
-/
import Derived.Test.YtflodiljgphkdaaGreatRAll
import Derived.Test.YtflodiljgphkdaaGreatM2
import Derived.Test.YtflodiljgphkdaaGreatM1
import Derived.Test.YtflodiljgphkdaaGreatDisk4
import Derived.BigQuiet
import Derived.Test.YtflodiljgphkdaaGreatReg
import Derived.Test.YtflodiljgphkdaaGreatM3
import Derived.Test.YtflodiljgphkdaaGreatDisk9
namespace Go.Proofs.YtflodiljgphkdaaGreat
section
open Go.RowKit Go.ChangeShapes Go.WideShapes Go.ChangeAt

namespace OwnM
variable {P : Program} {w : World} {base : Nat} {e : TypeId} {l : List UInt8}
theorem run_back (src u : TypeId) (hb : Bytely P src u e) {g o n c : Nat} (h : OwnM w base e (.slice (some ⟨g, o, none⟩) n c) l) : (convert src u (.slice (some ⟨g, o, none⟩) n c)).run P w = .ok (.string (bs l)) w := by
  obtain ⟨A, c', he, _⟩ := h.shape
  injection he with _ he2 he3
  subst he2 he3
  obtain ⟨ht, hu, he, _⟩ := hb
  refine run_convert_bytes_back w src u e ⟨g, o, none⟩ c l ht he hu fun j hj => ?_
  obtain ⟨g', o', he', _, _, hc⟩ := h.cell hj
  injection he' with he'
  injection he' with e1 e2
  subst e1 e2
  have e0 : (⟨g, o, none⟩ : Addr).add j = ⟨g, o + j, none⟩ := by
    unfold Addr.add
    split
    · rename_i h; subst h; rfl
    · rfl
  rw [e0, hc, List.getD_eq_getElem?_getD, List.getElem?_eq_getElem hj]; rfl
theorem turn {g n c : Nat} (h : OwnM w base e (.slice (some ⟨g, 0, none⟩) n c) l) {i : Nat} (hi : i < l.length) (x : UInt8) :
    OwnM (w.setCell ⟨g, i, none⟩ (byteOf x)) base e (.slice (some ⟨g, 0, none⟩) n c) (l.set i x) ∧ w.frozen? ⟨g, i, none⟩ = false ∧ w.cell? ⟨g, i, none⟩ = some (byteOf l[i]) := by
  rcases h with ⟨rfl, _⟩ | ⟨g', o, cap, cur, fr, he, hb, hg, hfr, h1, h2, h3, htk⟩
  · cases hi
  · injection he with e1 e2 e3
    injection e1 with e1
    injection e1 with e1 e4
    subst e1 e2 e3 e4
    rw [List.drop_zero] at htk
    refine ⟨.inr ⟨g, 0, c, cur.setIfInBounds i (byteOf x), fr, by rw [List.length_set], hb, ?_, hfr.size (by simp), by rw [List.length_set]; exact h1, by simpa using h2, h3, ?_⟩, hfr.off hg (by omega), ?_⟩
    · simp [World.setCell, Array.getElem?_modify, hg]
    · rw [List.drop_zero, List.length_set, List.map_set, ← htk]
      simp [List.take_set]
    · have h5 : (cur.toList.take l.length)[i]? = (l.map byteOf)[i]? := by rw [htk]
      rw [List.getElem?_take_of_lt hi, Array.getElem?_toList, List.getElem?_map, List.getElem?_eq_getElem hi] at h5
      simp [World.cell?, hg, h5]
theorem head {A : Option Addr} {n c : Nat} (h : OwnM w base e (.slice A n c) l) {k : Nat} (hk : k ≤ l.length) : OwnM w base e (.slice A k c) (l.take k) := by
  have hl : (l.take k).length = k := by rw [List.length_take]; omega
  rcases h with ⟨rfl, A', he, hA⟩ | ⟨g, o, cap, cur, fr, he, hb, hg, hfr, h1, h2, h3, htk⟩
  · injection he with e1 e2 e3
    subst e1 e2 e3
    have : k = 0 := by simpa using hk
    subst this
    exact .inl ⟨rfl, _, rfl, hA⟩
  · injection he with e1 e2 e3
    subst e1 e3
    refine .inr ⟨g, o, c, cur, fr, by rw [hl], hb, hg, hfr, by omega, h2, h3, ?_⟩
    rw [hl, List.map_take, ← htk, List.take_take, Nat.min_eq_left hk]
/-- the tail, as text -/
theorem run_tail (src u : TypeId) (hb : Bytely P src u e) {g n c : Nat} (h : OwnM w base e (.slice (some ⟨g, 0, none⟩) n c) l) {k : Nat} (hk : k ≤ l.length) :
    (convert src u (.slice (if c = k then some ⟨g, 0, none⟩ else some ⟨g, k, none⟩) (n - k) (c - k))).run P w = .ok (.string (bs (l.drop k))) w := by
  obtain ⟨A, c', he, hc⟩ := h.shape
  injection he with _ he2 he3
  subst he2 he3
  by_cases hck : c = k
  · rw [if_pos hck]
    have hd : l.drop k = [] := List.drop_eq_nil_of_le (by omega)
    have hn : l.length - k = 0 := by omega
    rw [hd, hn]
    obtain ⟨ht, hu, he, _⟩ := hb
    exact run_convert_bytes_back w src u e ⟨g, 0, none⟩ (c - k) [] ht he hu fun j hj => absurd hj (by simp)
  · rw [if_neg hck]
    have h2 := h.cut hk (by omega)
    rw [Nat.zero_add, List.length_drop] at h2
    exact h2.run_back src u hb
end OwnM
end

section
open Go.RowKit Go.ChangeShapes Go.WideShapes Go.ChangeAt

/-- a file's cells: its name, what lasts, what waits, was it synced or kept -/
def enc4 (p : ByteArray × FV) : List Value := [.string p.1, .string (bs (p.2.bytes.take p.2.sure)), .string (bs (p.2.bytes.drop p.2.sure)), .bool p.2.old]
def Rp.rf : Rp (ByteArray × FV) where
  size := 4
  R _ _ cs p := cs = enc4 p
  μ _ := 1
  pos := by omega
  len h := by rw [h]; rfl
  keep _ _ h := h
  bnd h := h
theorem Rp.rf_one {w : World} : ∀ cs a S', Rp.rf.R w S' cs a → ∀ u ∈ cs, u.oneCell' = true := by
  intro cs a S' h u hu
  rw [show cs = enc4 a from h] at hu
  simp only [enc4, List.mem_cons, List.not_mem_nil, or_false] at hu
  rcases hu with rfl | rfl | rfl | rfl <;> rfl
theorem el_rf : Elem Tryz.prog 67 100 4 56 := Elem.of Tryz.underlying67 (z := .agg #[.string ByteArray.empty, .string ByteArray.empty, .string ByteArray.empty, .bool false]) (by kernel_rfl) rfl (by decide)
theorem Own.rf_any {w : World} {S : Nat → Prop} {base : Nat} {e : TypeId} {v : Value} {l : List (ByteArray × FV)} (h : Own Rp.rf w S base e v l) (S' : Nat → Prop) : Own Rp.rf w S' base e v l := by
  obtain ⟨xs, h1, h2, h3⟩ := h
  exact ⟨xs, h1, h2, fun i a ha => h3 i a ha⟩

/-- the block that a row takes: none, if it is empty -/
def rblk : Value → Option Nat
  | .slice (some a) n _ => if n = 0 then none else some a.block
  | _ => none
/-- The row v holds just these files, in a block of its own. -/
def RSf (w : World) (v : Value) (l : List (ByteArray × FV)) : Prop :=
  ∃ A c, v = .slice A l.length c ∧ l.length ≤ c ∧ c ≤ maxLen ∧ (0 < l.length → ∃ g cur, A = some ⟨g, 0, none⟩ ∧ w.heap[g]? = some (.cells cur 100 (0, 0)) ∧
    ∀ (i : Nat) p, l[i]? = some p → ∀ (j : Nat) u, (enc4 p)[j]? = some u → cur[i * 4 + j]? = some u)
namespace RSf
variable {w w' : World} {v : Value} {l : List (ByteArray × FV)}
theorem nil (w : World) : RSf w (.slice none 0 0) [] := ⟨none, 0, rfl, Nat.le_refl _, Nat.zero_le _, fun h => absurd h (by simp)⟩
theorem blk {A : Option Addr} {n c : Nat} (h : RSf w (.slice A n c) l) (hl : 0 < l.length) : ∃ g cur, A = some ⟨g, 0, none⟩ ∧ rblk (.slice A n c) = some g ∧ w.heap[g]? = some (.cells cur 100 (0, 0)) ∧
    ∀ (i : Nat) p, l[i]? = some p → ∀ (j : Nat) u, (enc4 p)[j]? = some u → cur[i * 4 + j]? = some u := by
  obtain ⟨A', c', he, _, _, h3⟩ := h
  injection he with e1 e2 e3
  subst e1 e2 e3
  obtain ⟨g, cur, rfl, h4, h5⟩ := h3 hl
  exact ⟨g, cur, rfl, by show (if l.length = 0 then none else some g) = _; rw [if_neg (by omega)], h4, h5⟩
theorem types (h : RSf w v l) {k : Nat} (hk : rblk v = some k) : ∃ cs, w.heap[k]? = some (.cells cs 100 (0, 0)) := by
  obtain ⟨A, c, rfl, _, _, h3⟩ := id h
  by_cases hl : 0 < l.length
  · obtain ⟨g, cur, rfl, h4, h5, _⟩ := h.blk hl
    rw [h4] at hk; injection hk with hk; subst hk
    exact ⟨cur, h5⟩
  · have h0 : l.length = 0 := by omega
    rw [h0] at hk
    cases A <;> cases hk
theorem keep (h : RSf w v l) (hk : ∀ k, rblk v = some k → w'.heap[k]? = w.heap[k]?) : RSf w' v l := by
  obtain ⟨A, c, rfl, h1, h2, h3⟩ := id h
  refine ⟨A, c, rfl, h1, h2, fun hl => ?_⟩
  obtain ⟨g, cur, rfl, h4, h5, h6⟩ := h.blk hl
  exact ⟨g, cur, rfl, (hk g h4).trans h5, h6⟩
theorem lt (h : RSf w v l) {k : Nat} (hk : rblk v = some k) : k < w.heap.size := by
  obtain ⟨cs, h1⟩ := h.types hk
  exact (Array.getElem?_eq_some_iff.1 h1).1
theorem kept {S : Nat → Prop} (h : RSf w v l) (hk : Kp S w w') (hs : ∀ k, rblk v = some k → ¬ S k) : RSf w' v l := h.keep fun k hk' => hk.block k (h.lt hk') (hs k hk')
theorem keptNo (h : RSf w v l) (hk : Kp No w w') : RSf w' v l := h.kept hk fun _ _ x => x
theorem cell {A : Option Addr} {n c : Nat} (h : RSf w (.slice A n c) l) {i : Nat} {p : ByteArray × FV} (hi : l[i]? = some p) :
    ∃ g, A = some ⟨g, 0, none⟩ ∧ rblk (.slice A n c) = some g ∧ (∀ (j : Nat) u, (enc4 p)[j]? = some u → w.cell? ⟨g, i * 4 + j, none⟩ = some u) ∧ ∀ j, w.frozen? ⟨g, j, none⟩ = false := by
  obtain ⟨g, cur, rfl, h4, h5, h6⟩ := h.blk (by have := (List.getElem?_eq_some_iff.1 hi).1; omega)
  refine ⟨g, rfl, h4, fun j u hu => ?_, fun j => by simp [World.frozen?, h5]⟩
  have := h6 i p hi j u hu
  simp [World.cell?, h5, this]
theorem set {g n c : Nat} (h : RSf w (.slice (some ⟨g, 0, none⟩) n c) l) {i j : Nat} {p q : ByteArray × FV} (hi : l[i]? = some p) {u : Value} (hj : j < 4) (hq : enc4 q = (enc4 p).set j u) : RSf (w.setCell ⟨g, i * 4 + j, none⟩ u) (.slice (some ⟨g, 0, none⟩) n c) (l.set i q) := by
  have hil := (List.getElem?_eq_some_iff.1 hi).1
  obtain ⟨g', cur, he, h4, h5, h6⟩ := h.blk (by omega)
  injection he with he
  injection he with he
  subst he
  obtain ⟨A, c', he, h1, h2, _⟩ := h
  injection he with e1 e2 e3
  subst e1 e2 e3
  refine ⟨_, _, by rw [List.length_set], by rw [List.length_set]; exact h1, h2, fun _ => ⟨g, cur.setIfInBounds (i * 4 + j) u, rfl, ?_, ?_⟩⟩
  · simp [World.setCell, Array.getElem?_modify, h5, Array.setIfInBounds_def]
    try omega
  · intro i' p' hi' j' u' hu'
    rw [List.getElem?_set] at hi'
    have hlen4 : ∀ p : ByteArray × FV, (enc4 p).length = 4 := fun _ => rfl
    have hj' : j' < 4 := by have := (List.getElem?_eq_some_iff.1 hu').1; rw [hlen4] at this; exact this
    rw [Array.getElem?_setIfInBounds]
    by_cases e : i = i'
    · subst e
      rw [if_pos rfl, if_pos hil] at hi'
      injection hi' with hi'
      subst hi'
      rw [hq, List.getElem?_set] at hu'
      by_cases ej : j = j'
      · subst ej
        rw [if_pos rfl, if_pos (by rw [hlen4]; exact hj)] at hu'
        rw [if_pos rfl]
        have hin : i * 4 + j < cur.size := by
          obtain ⟨u0, hu0⟩ : ∃ u0, (enc4 p)[j]? = some u0 := ⟨_, List.getElem?_eq_getElem (by rw [hlen4]; exact hj)⟩
          exact (Array.getElem?_eq_some_iff.1 (h6 i p hi j u0 hu0)).1
        rw [if_pos hin]; exact hu'
      · rw [if_neg ej] at hu'
        rw [if_neg (by omega)]
        exact h6 i p hi j' u' hu'
    · rw [if_neg e] at hi'
      rw [if_neg (by omega)]
      exact h6 i' p' hi' j' u' hu'
/-- cut behind, without room -/
theorem take {A : Option Addr} {n c : Nat} (h : RSf w (.slice A n c) l) {k : Nat} (hk : k ≤ l.length) : RSf w (.slice A k k) (l.take k) := by
  have hl : (l.take k).length = k := by rw [List.length_take]; omega
  obtain ⟨A', c', he, h1, h2, h3⟩ := h
  injection he with e1 e2 e3
  subst e1 e2 e3
  refine ⟨A, k, by rw [hl], by omega, by omega, fun h0 => ?_⟩
  obtain ⟨g, cur, rfl, h4, h5⟩ := h3 (by omega)
  refine ⟨g, cur, rfl, h4, fun i p hi => h5 i p ?_⟩
  have := (List.getElem?_eq_some_iff.1 hi).1
  rwa [List.getElem?_take_of_lt (by omega)] at hi
/-- as a row that is read -/
theorem read (h : RSf w v l) : Rp.rf.slice.R w (fun k => rblk v = some k) [v] l := by
  obtain ⟨A, c, rfl, h1, h2, h3⟩ := id h
  refine ⟨A, c, rfl, h1, h2, fun hl => ?_⟩
  obtain ⟨g, cur, rfl, h4, h5, h6⟩ := h.blk hl
  refine ⟨_, rfl, h4, fun i p hi => ⟨enc4 p, fun j u hu => ?_, rfl⟩⟩
  have := h6 i p hi j u hu
  rw [Addr.add_lit, Addr.add_lit]
  show w.cell? ⟨g, 0 + i * 4 + j, none⟩ = _
  rw [Nat.zero_add]
  simp [World.cell?, h5, this]
theorem of_own {S : Nat → Prop} {base : Nat} (h : Own Rp.rf w S base 100 v l) : RSf w v l ∧ ∀ k, rblk v = some k → base ≤ k := by
  obtain ⟨xs, ⟨h0, h1⟩, _, h3⟩ := h
  rcases h1 with ⟨rfl, h1⟩ | ⟨g, cap, cur, rfl, hb, hg, hn, hm, hc, ht⟩
  · have : l = [] := List.eq_nil_of_length_eq_zero h1
    subst this
    exact ⟨nil w, fun k hk => by cases hk⟩
  · refine ⟨⟨_, _, rfl, hn, hm, fun _ => ⟨g, cur, rfl, hg, fun i p hi j u hu => ?_⟩⟩, fun k hk => ?_⟩
    · have h4 : (xs.drop (i * 4)).take 4 = enc4 p := h3 i p hi
      have hj : j < 4 := by have := (List.getElem?_eq_some_iff.1 hu).1; have e : (enc4 p).length = 4 := rfl; omega
      rw [← h4, List.getElem?_take_of_lt hj, List.getElem?_drop] at hu
      rw [← Array.getElem?_toList]
      have hlt : i * 4 + j < l.length * 4 := by have := (List.getElem?_eq_some_iff.1 hi).1; omega
      rw [← ht, List.getElem?_take_of_lt (by exact hlt)] at hu
      exact hu
    · have hk : (if l.length = 0 then none else some g) = some k := hk
      split at hk
      · cases hk
      · injection hk with hk
        rw [← hk]; exact hb
end RSf

/-- append to a row without room: all of it anew -/
theorem run_append_full {α : Type} {E : Rp α} {P : Program} (w : World) (t ty e : TypeId) (bytes : Nat) (el : Elem P t e E.size bytes) (S : Nat → Prop) (A : Option Addr) (l : List α) (hl : E.slice.R w S [.slice A l.length l.length] l)
    (B : Option Addr) (c : Nat) (m : List α) (hm : E.slice.R w S [.slice B m.length c] m) (h0 : 0 < m.length) (hone : ∀ cs a S', E.R w S' cs a → ∀ u ∈ cs, u.oneCell' = true)
    (hcap : l.length + m.length ≤ maxLen) (hbytes : (l.length + m.length) * bytes ≤ 140737488355328) :
    ∃ A' c' w', (Builtin.append_ #[t, t] ty #[.slice A l.length l.length, .slice B m.length c]).run P w = .ok (.slice A' (l ++ m).length c') w' ∧ Own E w' S w.heap.size e (.slice A' (l ++ m).length c') (l ++ m) ∧ Kp No w w' := by
  obtain ⟨olds, o1, o2, o3⟩ := Rp.news hl
  obtain ⟨news, n1, n2, n3⟩ := Rp.news hm
  obtain ⟨b, rfl, _, hnews⟩ := n2 h0
  obtain ⟨ht, i, z, hi, hz, hsize, hby, hzs, hpos⟩ := el
  have hones : ∀ (xs : List Value) (l : List α) (_ : xs.length = l.length * E.size) (_ : ∀ (i : Nat) a, l[i]? = some a → E.R w S ((xs.drop (i * E.size)).take E.size) a), ∀ u ∈ xs, u.oneCell' = true := by
    intro xs l hx hr u hu
    obtain ⟨j, hj, rfl⟩ := List.mem_iff_getElem.1 hu
    have hq : j / E.size < l.length := by rw [Nat.div_lt_iff_lt_mul E.pos]; omega
    have h7 := hr (j / E.size) l[j / E.size] (List.getElem?_eq_getElem hq)
    refine hone _ _ _ h7 _ (List.mem_of_getElem? (i := j % E.size) ?_)
    rw [List.getElem?_take_of_lt (Nat.mod_lt _ E.pos), List.getElem?_drop]
    have : j / E.size * E.size + j % E.size = j := by rw [Nat.mul_comm]; exact Nat.div_add_mod j E.size
    rw [this]
    exact List.getElem?_eq_getElem hj
  have hlen2 : (l ++ m).length = l.length + m.length := List.length_append
  have hxl : (olds ++ news).length = (l.length + m.length) * E.size := by rw [List.length_append, o1, n1, Nat.add_mul]
  have hge := grownCap_ge w (l.length + m.length) l.length e
  have hgm : grownCap w (l.length + m.length) l.length e ≤ maxLen := grownCap_le_maxLen w (l.length + m.length) l.length e hcap
  have hkp : Kp No w (w.drew.alloc (.cells (olds.toArray ++ news.toArray ++ Builtin.zeroCells z.cells (grownCap w (l.length + m.length) l.length e - (l.length + m.length))) e)) := ((Kp.refl _ w).drew).alloc _
  have hown : Own E (w.drew.alloc (.cells (olds.toArray ++ news.toArray ++ Builtin.zeroCells z.cells (grownCap w (l.length + m.length) l.length e - (l.length + m.length))) e)) S w.heap.size e (.slice (some ⟨w.heap.size, 0, none⟩) (l ++ m).length (grownCap w (l.length + m.length) l.length e)) (l ++ m) := by
    refine ⟨olds ++ news, ⟨by rw [hlen2, hxl], .inr ⟨w.heap.size, _, _, rfl, Nat.le_refl _, heap_alloc_new w.drew _, by rw [hlen2]; exact hge, hgm, ?_, ?_⟩⟩, ?_, ?_⟩
    · simp only [Array.size_append, List.size_toArray, size_zeroCells, hzs, o1, n1, ← Nat.add_mul]
      congr 1
      omega
    · simp only [Array.toList_append, List.append_assoc]
      rw [← List.append_assoc, hlen2, ← hxl]
      exact List.take_left
    · intro u hu
      rcases List.mem_append.1 hu with h | h
      · exact hones olds l o1 o3 u h
      · exact hones news m n1 n3 u h
    · intro i a ha
      refine E.keptNo ?_ hkp
      rcases Nat.lt_or_ge i l.length with hlt | hge
      · rw [List.getElem?_append_left hlt] at ha
        have h7 := o3 i a ha
        have hle : (i + 1) * E.size ≤ l.length * E.size := Nat.mul_le_mul_right _ hlt
        rw [Nat.succ_mul] at hle
        rw [List.drop_append_of_le_length (by omega), List.take_append_of_le_length (by rw [List.length_drop]; omega)]
        exact h7
      · rw [List.getElem?_append_right hge] at ha
        have h7 := n3 _ a ha
        have hle : l.length * E.size ≤ i * E.size := Nat.mul_le_mul_right _ hge
        rw [List.drop_append, List.drop_eq_nil_of_le (by omega), List.nil_append, o1, ← Nat.sub_mul]
        exact h7
  have h63 : ((l.length + m.length : Nat) : Int) ≤ 9223372036854775807 := by unfold maxLen at hcap; omega
  cases A with
  | some a =>
    have holds : ∀ (j : Nat) u, olds[j]? = some u → w.cell? (a.add j) = some u := by
      intro j u hu
      have hl0 : 0 < l.length := by
        rcases Nat.eq_zero_or_pos l.length with h | h
        · have : olds = [] := List.eq_nil_of_length_eq_zero (by simpa [h] using o1)
          rw [this] at hu; simp at hu
        · exact h
      obtain ⟨a', ha', _, hc⟩ := o2 hl0
      injection ha' with ha'
      subst ha'
      exact hc j u hu
    have hr := run_append_grow (P := P) w t ty e i z ht hi hz a l.length l.length olds (by rw [hsize]; exact o1) holds b m.length c news (by rw [hsize]; exact n1) hnews (by omega) h63 (by rw [hby]; exact growslice_fits (by omega) hbytes)
    exact ⟨_, _, _, by rw [hlen2]; exact hr, by rw [hlen2] at hown ⊢; exact hown, hkp⟩
  | none =>
    have hl0 : l.length = 0 := by
      rcases Nat.eq_zero_or_pos l.length with h | h
      · exact h
      · obtain ⟨_, ha, _⟩ := o2 h; cases ha
    have ho : olds = [] := List.eq_nil_of_length_eq_zero (by simpa [hl0] using o1)
    have hr := run_append_nil (P := P) w t ty e i z ht hi hz b m.length c news (by rw [hsize]; exact n1) hnews h0 (by omega) (by rw [hby]; simp only [hl0, Nat.zero_add] at hbytes; omega)
    subst ho
    rw [hl0] at hown hkp hlen2 ⊢
    simp only [Nat.zero_add, Array.empty_append] at hown hkp hlen2
    exact ⟨_, _, _, by rw [hlen2]; exact hr, by rw [hlen2] at hown ⊢; simpa using hown, by simpa using hkp⟩
theorem wpList_append_full {α : Type} {E : Rp α} {P : Program} {ops : Array Oper} {rest : List Oper} {o : Oper} {a : Act} {Q : Exit → Act → World → Prop} (hgd : o.guard = none) (w : World) (s x : Operand) (t : TypeId)
    (ho : o.op = .call { callee := .builtin .append, args := #[s, x], argTypes := #[t, t] }) (e : TypeId) (bytes : Nat) (el : Elem P t e E.size bytes) (S : Nat → Prop) (A : Option Addr) (l : List α) (hs : a.eval s = .slice A l.length l.length) (hl : E.slice.R w S [.slice A l.length l.length] l)
    (B : Option Addr) (c : Nat) (m : List α) (hx : a.eval x = .slice B m.length c) (hm : E.slice.R w S [.slice B m.length c] m) (h0 : 0 < m.length) (hone : ∀ cs a S', E.R w S' cs a → ∀ u ∈ cs, u.oneCell' = true)
    (hcap : l.length + m.length ≤ maxLen) (hbytes : (l.length + m.length) * bytes ≤ 140737488355328)
    (h : ∀ A' c' w', Own E w' S w.heap.size e (.slice A' (l ++ m).length c') (l ++ m) → Kp No w w' → wpList P ops Q rest (a.put o.dst (.slice A' (l ++ m).length c')) w') : wpList P ops Q (o :: rest) a w := by
  refine wpList_plain hgd fun K hK => ?_
  obtain ⟨A', c', w', hr, h2, h3⟩ := run_append_full (P := P) w t o.type e bytes el S A l hl B c m hm h0 hone hcap hbytes
  unfold Oper.wp execOp
  simp only [ho, resolve, invoke, builtin, Sem.run_bind, Sem.run_pure, Result.andThen_ok, List.map_toArray, List.map_cons, List.map_nil, hs, hx, hr]
  exact hK _ _ (h A' c' w' h2 h3)
/-- append of nothing -/
theorem wpList_append_none {P : Program} {ops : Array Oper} {rest : List Oper} {o : Oper} {a : Act} {Q : Exit → Act → World → Prop} (hgd : o.guard = none) (w : World) (s x : Operand) (t e : TypeId)
    (ho : o.op = .call { callee := .builtin .append, args := #[s, x], argTypes := #[t, t] }) (size bytes : Nat) (el : Elem P t e size bytes) (A : Option Addr) (n c : Nat) (hnc : n ≤ c) (hs : a.eval s = .slice A n c)
    (B : Option Addr) (c2 : Nat) (hx : a.eval x = .slice B 0 c2) (h : wpList P ops Q rest (a.put o.dst (.slice A n c)) w) : wpList P ops Q (o :: rest) a w := by
  refine wpList_plain hgd fun K hK => ?_
  obtain ⟨ht, i, z, hi, hz, hsize, hby, hzs, hpos⟩ := el
  have hr : (Builtin.append_ #[t, t] o.type #[.slice A n c, .slice B 0 c2]).run P w = .ok (.slice A n c) w := by
    cases B with
    | none => cases A <;> simp [Builtin.append_, run_underlying ht, sizeOf, typeInfo, hi, Builtin.lenOf, Builtin.firstCells, hnc, storeCells, Sem.run_pure]
    | some b =>
      have hf := run_firstCells_some (P := P) w i.size 0 b 0 c2 [] (by simp) (by simp)
      cases A <;> simp [Builtin.append_, run_underlying ht, sizeOf, typeInfo, hi, Builtin.lenOf, hnc, hf, storeCells, Sem.run_pure]
  unfold Oper.wp execOp
  simp only [ho, resolve, invoke, builtin, Sem.run_bind, Sem.run_pure, Result.andThen_ok, List.map_toArray, List.map_cons, List.map_nil, hs, hx, hr]
  exact hK _ _ h
end

section
open Go.RowKit Go.ChangeShapes Go.WideShapes Go.ChangeAt

/-- its own block -/
def RBlk (w : World) (r : Nat) (v : Value) (x : DV) : Prop := Blk w r 69 [v, .int .i64 x.fuse, .bool x.off, .int .i64 x.steps]
/-- a row of files as it comes -/
def Shp (v : Value) : Prop := v = .slice none 0 0 ∨ ∃ g n c, v = .slice (some ⟨g, 0, none⟩) n c
theorem Shp.of_own {w : World} {S : Nat → Prop} {base : Nat} {e : TypeId} {v : Value} {l : List (ByteArray × FV)} (h : Own Rp.rf w S base e v l) : Shp v := by
  obtain ⟨xs, ⟨h0, h1⟩, _, h3⟩ := h
  rcases h1 with ⟨rfl, h1⟩ | ⟨g, cap, cur, rfl, _⟩
  · exact .inl rfl
  · exact .inr ⟨_, _, _, rfl⟩
structure RIn (w : World) (r : Nat) (v : Value) (x : DV) : Prop where
  blk : RBlk w r v x
  row : RSf w v x.files
  ok : OkD x
  sh : Shp v
/-- A drive of the document's at r, that takes just the blocks F. -/
def RAt (w : World) (r : Nat) (x : DV) (F : Nat → Prop) : Prop := ∃ v, RIn w r v x ∧ ∀ k, F k ↔ k = r ∨ rblk v = some k
namespace RIn
variable {w w' : World} {r : Nat} {v : Value} {x : DV}
theorem ne (h : RIn w r v x) : rblk v ≠ some r := by
  intro hk
  obtain ⟨cs, h1⟩ := h.row.types hk
  have h2 : w.heap[r]? = some (.cells _ 69 (0, 0)) := h.blk
  rw [h1] at h2; injection h2 with h2; injection h2 with _ h2
  exact absurd h2 (by decide)
theorem kept {S : Nat → Prop} (h : RIn w r v x) (hk : Kp S w w') (hr : ¬ S r) (hs : ∀ k, rblk v = some k → ¬ S k) : RIn w' r v x := ⟨Blk.kept h.blk hk hr, h.row.kept hk hs, h.ok, h.sh⟩
theorem keptNo (h : RIn w r v x) (hk : Kp No w w') : RIn w' r v x := h.kept hk (fun x => x) (fun _ _ x => x)
theorem lt (h : RIn w r v x) : ∀ k, (k = r ∨ rblk v = some k) → k < w.heap.size := by
  rintro k (rfl | hk)
  · exact Blk.lt h.blk
  · exact h.row.lt hk
/-- its own fields turned -/
theorem turned (h : RIn w r v x) (hk : Kp (· = r) w w') {y : DV} (hb : RBlk w' r v y) (hf : y.files = x.files) (ho : OkD y) : RIn w' r v y := ⟨hb, by rw [hf]; exact h.row.kept hk (fun k hv e => h.ne (e ▸ hv)), ho, h.sh⟩
end RIn
namespace RAt
variable {w w' : World} {r : Nat} {x : DV} {F : Nat → Prop}
theorem ok (h : RAt w r x F) : OkD x := by obtain ⟨v, h, _⟩ := h; exact h.ok
theorem lt (h : RAt w r x F) : ∀ k, F k → k < w.heap.size := by
  obtain ⟨v, h, hF⟩ := h
  exact fun k hk => h.lt k ((hF k).1 hk)
theorem kept {S : Nat → Prop} (h : RAt w r x F) (hk : Kp S w w') (hs : ∀ k, F k → ¬ S k) : RAt w' r x F := by
  obtain ⟨v, h, hF⟩ := h
  exact ⟨v, h.kept hk (hs r ((hF r).2 (.inl rfl))) (fun k hv => hs k ((hF k).2 (.inr hv))), hF⟩
theorem keptNo (h : RAt w r x F) (hk : Kp No w w') : RAt w' r x F := h.kept hk fun _ _ x => x
end RAt

theorem okC_nat (c : UInt8) : okC c = (((decide (97 ≤ c.toNat) && decide (c.toNat ≤ 122)) || (decide (48 ≤ c.toNat) && decide (c.toNat ≤ 57))) || decide (c.toNat = 46)) := by
  have e46 : c = 46 ↔ c.toNat = 46 := ⟨fun h => by rw [h]; rfl, fun h => UInt8.toNat_inj.1 h⟩
  unfold okC
  rw [Bool.eq_iff_iff]
  simp only [Bool.or_eq_true, Bool.and_eq_true, decide_eq_true_eq, beq_iff_eq, e46, UInt8.le_iff_toNat_le]
  exact Iff.rfl
theorem fine_all {s : ByteArray} (h : ∀ j, j < s.size → okC (s.get! j) = true) : fineN s = (decide (1 ≤ s.size) && decide (s.size ≤ 80)) := by
  have : s.data.toList.all okC = true := by
    rw [List.all_eq_true]
    intro c hc
    obtain ⟨j, hj, rfl⟩ := List.mem_iff_getElem.1 hc
    have h1 := h j (by rw [← data_length]; exact hj)
    rw [← getD_get, List.getD_eq_getElem?_getD, List.getElem?_eq_getElem hj] at h1
    exact h1
  unfold fineN
  rw [this, Bool.and_true]
theorem fine_not {s : ByteArray} {j : Nat} (hj : j < s.size) (h : okC (s.get! j) = false) : fineN s = false := by
  have : s.data.toList.all okC = false := by
    rw [List.all_eq_false]
    refine ⟨s.get! j, ?_, by rw [h]; decide⟩
    have hl : j < s.data.toList.length := by rw [data_length]; exact hj
    rw [← getD_get, List.getD_eq_getElem?_getD, List.getElem?_eq_getElem hl]
    exact List.getElem_mem hl
  unfold fineN
  rw [this, Bool.and_false, Bool.and_false]

set_option maxRecDepth 100000 in
theorem r_named (s : ByteArray) (hs : s.size ≤ maxLen) (w : World) : Calls Tryz.prog 66 #[.string s] w fun e w' => e = .returned (.bool (fineN s)) ∧ Kp No w w' := by
  have hm : s.size ≤ 9223372036854775807 := by unfold maxLen at hs; omega
  clear hs
  go_enter Tryz.func66, Tryz.ntmps66
  go_wp2_with fail
  go_loopw [3] (fun iv wr => ∃ i : Nat, i ≤ s.size ∧ iv = .int .i64 (i : Int) ∧ Hid (∀ j, j < i → okC (s.get! j) = true) ∧ Hid (Kp No w wr)) (fun iv _ => s.size - (intOf iv).toNat)
  case atStart => exact ⟨0, Nat.zero_le _, rfl, Lib.hid (fun j hj => by omega), Lib.hid (Kp.refl _ _)⟩
  case round =>
    obtain ⟨i, hi, rfl, HA, HK⟩ := hrel
    by_cases hlt : i < s.size
    · have Bi : (i : Int) < (s.size : Int) := by omega
      have HC : Hid (okC (s.get! i) = (((decide (97 ≤ (s[i]'hlt).toNat) && decide ((s[i]'hlt).toNat ≤ 122)) || (decide (48 ≤ (s[i]'hlt).toNat) && decide ((s[i]'hlt).toNat ≤ 57))) || decide ((s[i]'hlt).toNat = 46))) := Lib.hid (by
        have hc := okC_nat (s.get! i)
        have e : s.get! i = s[i]'hlt := by
          have hl : i < s.data.toList.length := by rw [data_length]; exact hlt
          rw [← getD_get, List.getD_eq_getElem?_getD, List.getElem?_eq_getElem hl]; rfl
        rw [e] at hc ⊢
        exact hc)
      have HLT := Lib.hid hlt
      go_wp2_with fail
      all_goals first
        | (go_ret
           refine ⟨congrArg (fun b => Ending.returned (Value.bool b)) (fine_not HLT.out ?_).symm, HK.out⟩
           rw [HC.out]
           simp_all <;> omega)
        | (go_roundw
           case rel =>
             refine ⟨i + 1, by omega, by go_num, Lib.hid fun j hj => ?_, HK⟩
             rcases Nat.lt_or_ge j i with h | h
             · exact HA.out j h
             · obtain rfl : j = i := by omega
               rw [HC.out]
               simp_all <;> omega
           case measure => simp [intOf]; omega)
    · obtain rfl : i = s.size := by omega
      have hf := fine_all HA.out
      have HF := Lib.hid hf
      clear hf
      go_wp2_with fail
      all_goals
        go_ret
        refine ⟨congrArg (fun b => Ending.returned (Value.bool b)) ?_, HK.out⟩
        rw [HF.out, Bool.eq_iff_iff]
        simp
        omega

theorem less_nlt (a b : ByteArray) : Op.bytesLess a.toList b.toList = decide (nlt a b) := by
  rw [bytesLess_eq, Lib.toList_data, Lib.toList_data]; rfl
theorem same_at {ν : Type} {l : List (ByteArray × ν)} (hr : Rising l) {n : ByteArray} {p} (hp : l[rank n l]? = some p) : (p.1.toList == n.toList) = (mget n l).isSome := by
  rw [Bool.eq_iff_iff, beq_iff_eq, Lib.toList_data, Lib.toList_data]
  constructor
  · intro h
    have e := data_inj h
    cases hm : mget n l with
    | none => exact absurd e (rank_none hm hp)
    | some f => rfl
  · intro h
    obtain ⟨f, hf⟩ := Option.isSome_iff_exists.1 h
    rw [rank_at hr hf] at hp
    injection hp with hp
    rw [← hp]
theorem enc4_name (p : ByteArray × FV) : (enc4 p)[0]? = some (.string p.1) := rfl
set_option maxRecDepth 100000 in
theorem r_at (r : Nat) (v : Value) (x : DV) (n : ByteArray) (w : World) (h : RIn w r v x) :
    Calls Tryz.prog 51 #[.pointer (some ⟨r, 0, none⟩), .string n] w fun e w' => e = .returned (.tuple #[.int .i64 (rank n x.files : Nat), .bool (mget n x.files).isSome]) ∧ Kp No w w' := by
  obtain ⟨A, c, rfl, hc1, hc2, _⟩ := id h.row
  have HN := Lib.hid (show x.files.length ≤ 9223372036854775807 by unfold maxLen at hc2; omega)
  have H := Lib.hid h
  have c0 : w.cell? ⟨r, 0, none⟩ = some (.slice A x.files.length c) := Blk.cell h.blk rfl
  clear h hc1 hc2
  go_enter Tryz.func51, Tryz.ntmps51
  go_wp2_with fail
  go_loopw [6] (fun iv wr => ∃ i : Nat, i ≤ x.files.length ∧ iv = .int .i64 (i : Int) ∧ Hid (∀ j, j < i → ∀ p, x.files[j]? = some p → nlt p.1 n) ∧ Hid (Kp No w wr)) (fun iv _ => x.files.length - (intOf iv).toNat)
  case atStart => exact ⟨0, Nat.zero_le _, rfl, Lib.hid (fun j hj => by omega), Lib.hid (Kp.refl _ _)⟩
  case round =>
    obtain ⟨i, hi, rfl, HA, HK⟩ := hrel
    have c0 : wr.cell? ⟨r, 0, none⟩ = some (.slice A x.files.length c) := Blk.cell (H.out.keptNo HK.out).blk rfl
    have hNN := HN.out
    by_cases hlt : i < x.files.length
    · have Bi : (i : Int) < (x.files.length : Int) := by omega
      obtain ⟨p, hp⟩ : ∃ p, x.files[i]? = some p := ⟨_, List.getElem?_eq_getElem hlt⟩
      have HP := Lib.hid hp
      obtain ⟨g, rfl, _, hcell, _⟩ := (H.out.keptNo HK.out).row.cell hp
      have c1 : wr.cell? ⟨g, i * 4, none⟩ = some (.string p.1) := hcell 0 _ rfl
      clear hp hcell
      go_wp2_with fail
      · have hb : Op.bytesLess p.fst.toList n.toList = true := by assumption
        rw [less_nlt, decide_eq_true_eq] at hb
        go_roundw
        case rel =>
          refine ⟨i + 1, by omega, by go_num, Lib.hid fun j hj q hq => ?_, HK⟩
          rcases Nat.lt_or_ge j i with h | h
          · exact HA.out j h q hq
          · obtain rfl : j = i := by omega
            have := HP.out
            rw [hq] at this; injection this with this
            rw [this]; exact hb
        case measure => simp [intOf]; omega
      · have hb : Op.bytesLess p.fst.toList n.toList = false := by assumption
        rw [less_nlt, decide_eq_false_iff_not] at hb
        have hrk : rank n x.files = i := rank_eq hi HA.out (fun q hq => by have := HP.out; rw [hq] at this; injection this with this; rw [this]; exact hb)
        have HR := Lib.hid hrk
        clear hrk
        go_quiet (fail)
        go_wp2_with fail
        go_ret2
        have hsame := same_at H.out.ok.rising (n := n) (p := p) (by rw [HR.out]; exact HP.out)
        rw [HR.out, ← hsame]
        exact ⟨rfl, HK.out.drewN _⟩
    · obtain rfl : i = x.files.length := by omega
      have hrk : rank n x.files = x.files.length := rank_eq hi HA.out (fun q hq => by simp at hq)
      have hno : mget n x.files = none := (mget_none_iff _ _).2 fun hm => by
        obtain ⟨q, hq, e⟩ := List.mem_map.1 hm
        obtain ⟨j, hj, rfl⟩ := List.mem_iff_getElem.1 hq
        exact nlt_ne (HA.out j hj _ (List.getElem?_eq_getElem hj)) e
      have HR := Lib.hid (And.intro hrk hno)
      clear hrk hno
      go_wp2_with fail
      go_quiet (fail)
      go_wp2_with fail
      go_ret2
      rw [HR.out.1, HR.out.2]
      exact ⟨rfl, HK.out.drewN _⟩

set_option maxRecDepth 100000 in
/-- a step without power -/
theorem r_step_out (r : Nat) (v : Value) (x : DV) (w : World) (h : RBlk w r v x) (hf : x.fuse = 0) :
    Calls Tryz.prog 67 #[.pointer (some ⟨r, 0, none⟩)] w fun e w' => e = .returned (.bool false) ∧ RBlk w' r v { x with off := true } ∧ Kp (· = r) w w' := by
  have H := Lib.hid h
  have c1 : w.cell? ⟨r, 1, none⟩ = some (.int .i64 x.fuse) := Blk.cell h rfl
  have c2 : w.cell? ⟨r, 2, none⟩ = some _ := Blk.cell h rfl
  have f2 := Blk.fr h 2
  rw [hf] at c1
  clear h hf
  go_enter Tryz.func67, Tryz.ntmps67
  go_wp2_with fail
  go_ret
  exact ⟨rfl, H.out.set 2 (.bool true), (Kp.refl (· = r) w).setCell (p := ⟨r, 2, none⟩) (fun _ => rfl) _⟩
set_option maxRecDepth 100000 in
/-- a step with power -/
theorem r_step (r : Nat) (v : Value) (x : DV) (w : World) (h : RBlk w r v x) (ho : OkD x) (hf : x.fuse ≠ 0) :
    Calls Tryz.prog 67 #[.pointer (some ⟨r, 0, none⟩)] w fun e w' => e = .returned (.bool true) ∧ RBlk w' r v (stepped x) ∧ Kp (· = r) w w' := by
  have H := Lib.hid h
  have c1 : w.cell? ⟨r, 1, none⟩ = some (.int .i64 x.fuse) := Blk.cell h rfl
  have c3 : w.cell? ⟨r, 3, none⟩ = some (.int .i64 x.steps) := Blk.cell h rfl
  have f1 := Blk.fr h 1
  have f3 := Blk.fr h 3
  have hfd : (x.fuse == 0) = false := by simpa using hf
  have hwr := max_fuse ho.fuse ho.fuseW
  have h1 := ho.fuse
  clear h ho
  by_cases hp : 0 < x.fuse
  · have e : stepped x = { x with fuse := x.fuse - 1, steps := inc64 x.steps } := by
      unfold stepped; congr 1; omega
    rw [e]
    clear e
    go_enter Tryz.func67, Tryz.ntmps67
    go_wp2_with fail
    go_ret
    exact ⟨rfl, (H.out.set 1 _).set 3 _, ((Kp.refl (· = r) w).setCell (p := ⟨r, 1, none⟩) (fun _ => rfl) _).setCell (p := ⟨r, 3, none⟩) (fun _ => rfl) _⟩
  · have e : stepped x = { x with steps := inc64 x.steps } := by
      unfold stepped
      have : max (x.fuse - 1) (-1) = x.fuse := by omega
      rw [this]
    rw [e]
    clear e
    go_enter Tryz.func67, Tryz.ntmps67
    go_wp2_with fail
    go_ret
    exact ⟨rfl, H.out.set 3 _, (Kp.refl (· = r) w).setCell (p := ⟨r, 3, none⟩) (fun _ => rfl) _⟩
end

section
open Go.RowKit Go.ChangeShapes Go.WideShapes Go.ChangeAt

namespace RIn
variable {w w' : World} {r : Nat} {v : Value} {x : DV}
/-- a file's field turned -/
theorem set {g n c : Nat} (h : RIn w r (.slice (some ⟨g, 0, none⟩) n c) x) {i j : Nat} {p q : ByteArray × FV} (hi : x.files[i]? = some p) {u : Value} (hj : j < 4) (hq : enc4 q = (enc4 p).set j u) (ho : OkD { x with files := x.files.set i q }) :
    RIn (w.setCell ⟨g, i * 4 + j, none⟩ u) r (.slice (some ⟨g, 0, none⟩) n c) { x with files := x.files.set i q } ∧ g ≠ r := by
  have hne : g ≠ r := by
    obtain ⟨g', he, hb, _⟩ := h.row.cell hi
    injection he with he; injection he with he
    subst he
    rintro rfl
    exact h.ne hb
  refine ⟨⟨?_, h.row.set hi hj hq, ho, h.sh⟩, hne⟩
  exact Blk.kept (S := (· = g)) h.blk ((Kp.refl (· = g) w).setCell (p := ⟨g, i * 4 + j, none⟩) (fun _ => rfl) _) (fun e => hne e.symm)
/-- its files in a new row -/
theorem anew {w9 : World} {v9 : Value} {l : List (ByteArray × FV)} (h : RIn w r v x) (hk : Kp No w w9) (hrs : RSf w9 v9 l) (hb : ∀ k, rblk v9 = some k → w.heap.size ≤ k) (ho : OkD { x with files := l }) (hsh : Shp v9) :
    RIn (w9.setCell ⟨r, 0, none⟩ v9) r v9 { x with files := l } ∧ Kp (· = r) w (w9.setCell ⟨r, 0, none⟩ v9) := by
  have h1 := h.keptNo hk
  refine ⟨⟨Blk.set h1.blk 0 v9, ?_, ho, hsh⟩, (hk.any (S := (· = r))).setCell (p := ⟨r, 0, none⟩) (fun _ => rfl) _⟩
  refine RSf.kept (S := (· = r)) hrs ((Kp.refl (· = r) w9).setCell (p := ⟨r, 0, none⟩) (fun _ => rfl) _) (fun k hk e => ?_)
  have := hb k hk
  have := Blk.lt h.blk
  omega
end RIn

namespace RSf
variable {w w' : World} {v : Value} {l : List (ByteArray × FV)}
theorem cutR {g n c : Nat} (h : RSf w (.slice (some ⟨g, 0, none⟩) n c) l) {i : Nat} (hi : i ≤ l.length) :
    Rp.rf.slice.R w (fun k => k < w.heap.size) [.slice (if c = i then some ⟨g, 0, none⟩ else some ⟨g, i * 4, none⟩) (l.drop i).length (c - i)] (l.drop i) := by
  obtain ⟨A', c', he, hc1, hc2, _⟩ := id h
  injection he with e1 e2 e3
  subst e2 e3
  by_cases hci : c = i
  · have h0 : l.drop i = [] := List.drop_eq_nil_of_le (by omega)
    rw [h0]
    exact ⟨_, _, rfl, Nat.zero_le _, by omega, fun h => absurd h (by simp)⟩
  · rw [if_neg hci]
    have h2 := Rp.cut h.read hi
    rw [Addr.add_lit, Nat.zero_add] at h2
    exact Rp.rf.slice.more h2 (fun k hk => h.lt hk)
theorem headR {A : Option Addr} {n c : Nat} (h : RSf w (.slice A n c) l) {i : Nat} (hi : i ≤ l.length) :
    Rp.rf.slice.R w (fun k => k < w.heap.size) [.slice A (l.take i).length (l.take i).length] (l.take i) := by
  have h2 := h.take hi
  have hl : (l.take i).length = i := by rw [List.length_take]; omega
  have h3 := Rp.rf.slice.more h2.read (fun k hk => h2.lt hk)
  rw [hl]; exact h3
end RSf
theorem lit1 (w : World) (p : ByteArray × FV) (S : Nat → Prop) (hS : S w.heap.size) : Rp.rf.slice.R (w.alloc (.cells (enc4 p).toArray 100)) S [.slice (some ⟨w.heap.size, 0, none⟩) 1 1] [p] := by
  refine ⟨_, _, rfl, Nat.le_refl _, by unfold maxLen; omega, fun _ => ⟨_, rfl, hS, fun i a hi => ?_⟩⟩
  obtain rfl : i = 0 := by have := (List.getElem?_eq_some_iff.1 hi).1; simp at this; exact this
  injection hi with hi
  subst hi
  refine ⟨enc4 p, fun j u hu => ?_, rfl⟩
  rw [Addr.add_lit, Addr.add_lit]
  have hb : Blk (w.alloc (.cells (enc4 p).toArray 100)) w.heap.size 100 (enc4 p) := Blk.new w (enc4 p) _
  have h2 := hb.cell hu
  simpa using h2

theorem enc4_wait {n : ByteArray} {f : FV} (hf : OkF f) (s : ByteArray) : enc4 (n, { f with bytes := f.bytes ++ s.data.toList }) = (enc4 (n, f)).set 2 (.string (bs (f.bytes.drop f.sure) ++ s)) := by
  simp only [enc4, List.set_cons_succ, List.set_cons_zero]
  rw [List.take_append_of_le_length hf.1, List.drop_append_of_le_length hf.1, ← bs_append, bs_of]

theorem ins_set {n : ByteArray} (a b : FV) {l : List (ByteArray × FV)} (hr : Rising l) (hm : mget n l = none) : (ins n a l).set (rank n l) (n, b) = ins n b l := by
  rw [ins_new a hr hm, ins_new b hr hm]
  have hl : (l.take (rank n l)).length = rank n l := by rw [List.length_take]; have := rank_le n l; omega
  rw [List.set_append_right _ _ (by omega), hl, Nat.sub_self]; rfl
theorem ins_get {n : ByteArray} (a : FV) {l : List (ByteArray × FV)} (hr : Rising l) (hm : mget n l = none) : (ins n a l)[rank n l]? = some (n, a) := by
  rw [ins_new a hr hm]
  have hl : (l.take (rank n l)).length = rank n l := by rw [List.length_take]; have := rank_le n l; omega
  rw [List.getElem?_append_right (by omega), hl, Nat.sub_self]; rfl

set_option maxRecDepth 100000 in
set_option maxHeartbeats 1000000 in
theorem r_append (r : Nat) (x : DV) (F : Nat → Prop) (n s : ByteArray) (w : World) (h : RAt w r x F) (hn : n.size ≤ maxLen) (hx : x.files.length ≤ 1000000) :
    Calls Tryz.prog 47 #[.pointer (some ⟨r, 0, none⟩), .string n, .string s] w fun e w' => e = .returned (.int .i64 (appendD n s x).1) ∧ ∃ F', RAt w' r (appendD n s x).2 F' ∧ Upd F w w' F' := by
  have hAt := h
  obtain ⟨v, h, hF⟩ := h
  have H := Lib.hid h
  have HA0 := Lib.hid hAt
  have HF := Lib.hid hF
  have hnamed := r_named n hn w
  have hok := h.ok
  clear h hF hAt
  have hn80 : fineN n = true → n.size ≤ 80 := by
    intro h
    unfold fineN at h
    simp only [Bool.and_eq_true, decide_eq_true_eq] at h
    exact h.2.1
  cases hfn : fineN n with
  | false =>
    have e : appendD n s x = (1, x) := by unfold appendD readyD; rw [hfn]; rfl
    rw [e]
    rw [hfn] at hnamed
    clear e hfn hok
    go_enter Tryz.func47, Tryz.ntmps47
    go_wp2_with fail
    refine hnamed.mono ?_
    rintro e w1 ⟨rfl, hk⟩
    have HK := Lib.hid hk
    clear hk hnamed
    go_wp2_with fail
    go_ret
    exact ⟨rfl, F, HA0.out.keptNo HK.out, HK.out.any, fun k hk => .inl hk⟩
  | true =>
    rw [hfn] at hnamed
    have HN80 := Lib.hid (hn80 hfn)
    clear hn80
    cases hoff : x.off with
    | true =>
      have e : appendD n s x = (50, x) := by unfold appendD readyD; rw [hfn, hoff]; rfl
      rw [e]
      clear e hfn hok
      go_enter Tryz.func47, Tryz.ntmps47
      go_wp2_with fail
      refine hnamed.mono ?_
      rintro e w1 ⟨rfl, hk⟩
      have HK := Lib.hid hk
      have c2 : w1.cell? ⟨r, 2, none⟩ = some (.bool x.off) := Blk.cell (H.out.keptNo hk).blk rfl
      rw [hoff] at c2
      clear hk hnamed hoff
      go_wp2_with fail
      go_ret
      exact ⟨rfl, F, HA0.out.keptNo HK.out, HK.out.any, fun k hk => .inl hk⟩
    | false =>
      have e : appendD n s x = (let f := (fileD n x).getD ⟨[], 0, false⟩; if 1048576 < f.bytes.length + s.size then (52, x) else stepD x fun y => { y with files := ins n { f with bytes := f.bytes ++ s.data.toList } y.files }) := by
        unfold appendD readyD; rw [hfn, hoff]; rfl
      rw [e]
      have HOK := Lib.hid hok
      clear e hfn hok
      obtain ⟨Z, hZ⟩ : ∃ Z, (let f := (fileD n x).getD ⟨[], 0, false⟩; if 1048576 < f.bytes.length + s.size then (52, x) else stepD x fun y => { y with files := ins n { f with bytes := f.bytes ++ s.data.toList } y.files }) = Z := ⟨_, rfl⟩
      rw [hZ]
      have HZ := Lib.hid hZ
      clear hZ
      go_enter Tryz.func47, Tryz.ntmps47
      go_wp2_with fail
      refine hnamed.mono ?_
      rintro e w1 ⟨rfl, hk⟩
      have HK := Lib.hid hk
      have c2 : w1.cell? ⟨r, 2, none⟩ = some (.bool x.off) := Blk.cell (H.out.keptNo hk).blk rfl
      rw [hoff] at c2
      have hat := r_at r v x n w1 (H.out.keptNo hk)
      have H1 := Lib.hid (H.out.keptNo hk)
      clear hk hnamed hoff
      cases hfile : mget n x.files with
      | none =>
        rw [hfile] at hat
        go_wp2_with fail
        refine hat.mono ?_
        rintro e w2 ⟨rfl, hk⟩
        have HK2 := Lib.hid (HK.out.trans' hk)
        have H2 := Lib.hid (H1.out.keptNo hk)
        clear hat hk c2
        by_cases hbig : (1048576 : Int) < s.size
        · have hz : Z = (52, x) := by
            rw [← HZ.out]; unfold fileD; rw [hfile]
            exact if_pos (by show 1048576 < 0 + s.size; omega)
          have HZ2 := Lib.hid hz
          clear hz hfile
          go_wp2_with fail
          go_quiet (fail)
          go_wp2_with fail
          go_ret
          rw [HZ2.out]
          exact ⟨rfl, F, HA0.out.keptNo (HK2.out.drewN _), (HK2.out.drewN _).any, fun k hk => .inl hk⟩
        · have hz : Z = stepD x fun y => { y with files := ins n ⟨s.data.toList, 0, false⟩ y.files } := by
            rw [← HZ.out]; unfold fileD; rw [hfile]
            exact if_neg (by show ¬ 1048576 < 0 + s.size; omega)
          have HZ2 := Lib.hid hz
          clear hz
          go_wp2_with fail
          go_quiet (fail)
          go_wp2_with fail
          by_cases hf : x.fuse = 0
          · have e : (stepD x fun y => { y with files := ins n ⟨s.data.toList, 0, false⟩ y.files }) = (50, { x with off := true }) := by unfold stepD; rw [if_pos hf]
            have HZ3 := Lib.hid (HZ2.out.trans e)
            clear e
            refine (r_step_out r v x _ (H2.out.keptNo ((Kp.refl _ _).drewN _)).blk hf).mono ?_
            rintro e w3 ⟨rfl, hb, hk⟩
            have H3 := Lib.hid ((H2.out.keptNo ((Kp.refl _ _).drewN _)).turned hk hb rfl (H2.out.ok.off true))
            have HK3 := Lib.hid ((HK2.out.drewN _).any.trans hk (fun k _ e => (HF.out k).2 (.inl e)))
            clear hb hk hf hfile hbig
            go_wp2_with fail
            go_ret
            rw [HZ3.out]
            exact ⟨rfl, F, ⟨v, H3.out, HF.out⟩, HK3.out, fun k hk => .inl hk⟩
          · have e : (stepD x fun y => { y with files := ins n ⟨s.data.toList, 0, false⟩ y.files }) = (0, { stepped x with files := ins n ⟨s.data.toList, 0, false⟩ x.files }) := by unfold stepD; rw [if_neg hf]; rfl
            have HZ3 := Lib.hid (HZ2.out.trans e)
            clear e
            refine (r_step r v x _ (H2.out.keptNo ((Kp.refl _ _).drewN _)).blk H2.out.ok hf).mono ?_
            rintro e w3 ⟨rfl, hb, hk⟩
            have H3 := Lib.hid ((H2.out.keptNo ((Kp.refl _ _).drewN _)).turned (y := stepped x) hk hb rfl H2.out.ok.stepped)
            have HK3 := Lib.hid ((HK2.out.drewN _).any.trans hk (fun k _ e => (HF.out k).2 (.inl e)))
            have HFI := Lib.hid hfile
            have hrlt : r < w3.heap.size := Blk.lt H3.out.blk
            have hrl := rank_le n x.files
            obtain ⟨i, hi⟩ : ∃ i, rank n x.files = i := ⟨_, rfl⟩
            rw [hi] at hrl ⊢
            clear hb hk hf hfile hbig
            rcases H3.out.sh with rfl | ⟨g, m, c, rfl⟩
            · have c0 : w3.cell? ⟨r, 0, none⟩ = some (.slice none 0 0) := Blk.cell H3.out.blk rfl
              have hl0 : x.files.length = 0 := by
                obtain ⟨A', c', he, _⟩ := id H3.out.row
                injection he with _ he _
                exact he.symm
              have hx0 : x.files = [] := List.eq_nil_of_length_eq_zero hl0
              rw [hl0] at hrl
              obtain ⟨D, hD⟩ : ∃ D, x.files.drop i = D := ⟨_, rfl⟩
              obtain ⟨T, hT⟩ : ∃ T, x.files.take i = T := ⟨_, rfl⟩
              have hDn : D = [] := by rw [← hD, hx0]; simp
              have hTn : T = [] := by rw [← hT, hx0]; simp
              have HCUT : Hid (Rp.rf.slice.R w3 (fun k => k < w3.heap.size) [.slice none D.length 0] D) := Lib.hid (by rw [hDn]; exact ⟨_, _, rfl, Nat.le_refl _, Nat.zero_le _, fun h => absurd h (by simp)⟩)
              have HHEAD : Hid (Rp.rf.slice.R w3 (fun k => k < w3.heap.size) [.slice none T.length T.length] T) := Lib.hid (by rw [hTn]; exact ⟨_, _, rfl, Nat.le_refl _, Nat.zero_le _, fun h => absurd h (by simp)⟩)
              have HDL : Hid (D.length = 0) := Lib.hid (by rw [hDn]; rfl)
              have HTL : Hid (T.length = 0) := Lib.hid (by rw [hTn]; rfl)
              clear hDn hTn hx0 hl0
              have F3 := Blk.fr H3.out.blk 0
              · skip
                go_wp2_with (at_builtin; first
                  | (refine wpList_copy_lit (E := Rp.rf) rfl w3 (.tmp 59) (.tmp 65) 67 rfl 100 56 el_rf rfl _ _ (fun k => k < w3.heap.size) D ?hx HCUT.out Rp.rf_one ?hby ?_
                     case hx => (rw [HDL.out]; rfl)
                     case hby => have := HDL.out; omega
                     intro A7 c7 w7 hown7 hk7
                     have H7 := Lib.hid (H3.out.keptNo hk7)
                     have HO7 := Lib.hid hown7
                     have HK7 := Lib.hid hk7
                     have c07 : w7.cell? ⟨r, 0, none⟩ = some (.slice (none) 0 0) := Blk.cell H7.out.blk rfl
                     have hrlt7 : r < w7.heap.size := Blk.lt H7.out.blk
                     clear c0 hrlt hown7 hk7)
                  | (refine wpList_append_full (E := Rp.rf) rfl (w7.alloc (.cells (enc4 (n, ⟨[], 0, false⟩)).toArray 100)) (.tmp 74) (.tmp 77) 67 rfl 100 56 el_rf (fun k => k < w7.heap.size + 1) (none) T ?hx1 ?hl1 (some ⟨w7.heap.size, 0, none⟩) 1 [(n, ⟨[], 0, false⟩)] rfl ?hm1 Nat.one_pos Rp.rf_one ?hcap1 ?hby1 ?_
                     case hx1 => (rw [HTL.out]; rfl)
                     case hm1 => exact lit1 w7 _ _ (by omega)
                     case hl1 => exact Rp.rf.slice.keptNo (Rp.rf.slice.more HHEAD.out (fun k hk => Nat.lt_of_lt_of_le hk (Nat.le_succ_of_le HK7.out.size))) (HK7.out.alloc _)
                     case hcap1 => have := HTL.out; simp [maxLen]; omega
                     case hby1 => have := HTL.out; simp; omega
                     intro A8 c8 w8 hown8 hk8
                     have HO8 : Hid (Own Rp.rf w8 (fun k => k < w7.heap.size) (w7.heap.size + 1) 100 (.slice A8 (T.length + 1) c8) (T ++ [(n, ⟨[], 0, false⟩)])) := Lib.hid (by have h := hown8.rf_any (fun k => k < w7.heap.size); simpa using h)
                     have HS8 : w7.heap.size + 1 ≤ w8.heap.size := by have := hk8.size; simpa using this
                     have HK8 : Hid (Kp No w7 w8) := Lib.hid (((Kp.refl No w7).alloc _).trans' hk8)
                     clear hown8 hk8)
                  | (refine wpList_append_rp (E := Rp.rf) rfl w8 (.tmp 78) (.tmp 79) 67 rfl (w7.heap.size + 1) 100 56 el_rf (fun k => k < w7.heap.size) (.slice A8 (T.length + 1) c8) (T ++ [(n, ⟨[], 0, false⟩)]) rfl HO8.out A7 c7 (fun k => k < w7.heap.size) D rfl ?hsrc9 Rp.rf_one ?hcap9 ?hby9 HS8 (fun _ h => h) ?hsv9 ?_
                     case hsrc9 => exact Rp.rf.slice.keptNo ((HO7.out.rf_any (fun k => k < w7.heap.size)).read (fun k hk => (HO7.out.lt k hk).2)) HK8.out
                     case hcap9 => have := HTL.out; have := HDL.out; simp [maxLen]; omega
                     case hby9 => have := HTL.out; have := HDL.out; simp; omega
                     case hsv9 => (intro k hk; have := (HO8.out.lt k hk).1; omega)
                     intro v9 w9 hown9 hg9 _
                     have hk9 : Kp No w3 w9 := (HK7.out.trans' HK8.out).grown hg9 (fun k hk hlt => by have := (HO8.out.lt k hk).1; have := HK7.out.size; omega)
                     obtain ⟨hrs, hbs⟩ := RSf.of_own hown9
                     have hsh9 := Shp.of_own hown9
                     have e9 : T ++ [(n, ⟨[], 0, false⟩)] ++ D = ins n ⟨[], 0, false⟩ x.files := by rw [ins_new _ HOK.out.rising HFI.out, hi, hT, hD, List.append_assoc]; rfl
                     rw [e9] at hrs
                     obtain ⟨L9, hL9⟩ : ∃ L9, ins n ⟨[], 0, false⟩ x.files = L9 := ⟨_, rfl⟩
                     have hg9' := ins_get (n := n) ⟨[], 0, false⟩ HOK.out.rising HFI.out
                     have hok9 := H3.out.ok.put n ⟨[], 0, false⟩ HN80.out ⟨Nat.le_refl _, Nat.zero_le _⟩
                     rw [show (stepped x).files = x.files from rfl] at hok9
                     rw [hL9] at hrs hok9
                     rw [hL9, hi] at hg9'
                     obtain ⟨A9, c9, rfl, _, _, _⟩ := id hrs
                     obtain ⟨h10, hk10⟩ := H3.out.anew hk9 hrs (fun k hk => by have := hbs k hk; have := HK7.out.size; omega) hok9 hsh9
                     obtain ⟨g9, rfl, hrb9, hcell9, hfr9⟩ := h10.row.cell (i := i) hg9'
                     obtain ⟨w10, hw10⟩ : ∃ w10, w9.setCell ⟨r, 0, none⟩ (.slice (some ⟨g9, 0, none⟩) L9.length c9) = w10 := ⟨_, rfl⟩
                     rw [hw10] at h10 hk10 hcell9 hfr9
                     have c09 : w9.cell? ⟨r, 0, none⟩ = some _ := Blk.cell (H3.out.keptNo hk9).blk rfl
                     have f09 := Blk.fr (H3.out.keptNo hk9).blk 0
                     have c010 : w10.cell? ⟨r, 0, none⟩ = some (.slice (some ⟨g9, 0, none⟩) L9.length c9) := Blk.cell h10.blk rfl
                     have c210 := hcell9 2 _ rfl
                     have f210 := hfr9 (i * 4 + 2)
                     have Bi9 : (i : Int) < (L9.length : Int) := by have := (List.getElem?_eq_some_iff.1 hg9').1; omega
                     have hno10 : ¬ 9223372036854775807 < (bs []).size + s.size := by have : (bs []).size = 0 := rfl; omega
                     have H10 := Lib.hid h10
                     have HK10 := Lib.hid (HK3.out.trans hk10 (fun k _ e => (HF.out k).2 (.inl e)))
                     have HG9 := Lib.hid hg9'
                     have HBS := Lib.hid hbs
                     have HL9 := Lib.hid hL9
                     clear h10 hk10 hcell9 hfr9 hg9' hbs hL9 hrs hok9 e9 hsh9 hown9 hg9 hk9 c07 F3))
                go_ret
                rw [HZ3.out]
                have hset : L9.set i (n, ⟨s.data.toList, 0, false⟩) = ins n ⟨s.data.toList, 0, false⟩ x.files := by
                  rw [← HL9.out, ← hi]; exact ins_set _ _ HOK.out.rising HFI.out
                have henc := enc4_wait (n := n) (f := ⟨[], 0, false⟩) ⟨Nat.le_refl _, Nat.zero_le _⟩ s
                simp only [List.nil_append] at henc
                obtain ⟨h11, hne⟩ := H10.out.set (q := (n, ⟨s.data.toList, 0, false⟩)) HG9.out (j := 2) (by decide) henc (by
                  show OkD { stepped x with files := L9.set i (n, ⟨s.data.toList, 0, false⟩) }
                  rw [hset]
                  exact H3.out.ok.put n _ HN80.out ⟨Nat.zero_le _, by show s.data.toList.length ≤ _; rw [data_length]; omega⟩)
                have h11' : RIn (w10.setCell ⟨g9, i * 4 + 2, none⟩ (.string (bs [] ++ s))) r (.slice (some ⟨g9, 0, none⟩) L9.length c9) { stepped x with files := L9.set i (n, ⟨s.data.toList, 0, false⟩) } := h11
                rw [hset] at h11'
                have hs3 := HK3.out.size
                have hs7 := HK7.out.size
                refine ⟨rfl, fun k => k = r ∨ rblk (.slice (some ⟨g9, 0, none⟩) L9.length c9) = some k, ⟨_, h11', fun k => Iff.rfl⟩, HK10.out.setCell (p := ⟨g9, i * 4 + 2, none⟩) (fun hlt => absurd hlt ?_) _, ?_⟩
                · have := HBS.out g9 hrb9
                  show ¬ g9 < _
                  omega
                · rintro k (rfl | hk)
                  · exact .inl ((HF.out _).2 (.inl rfl))
                  · have := HBS.out k hk
                    right; omega
            · have hc1 : x.files.length ≤ c ∧ m = x.files.length := by
                obtain ⟨A', c', he, h1, _⟩ := id H3.out.row
                injection he with _ he1 he2
                rw [he2]; exact ⟨h1, he1⟩
              obtain ⟨hc1, rfl⟩ := hc1
              have c0 : w3.cell? ⟨r, 0, none⟩ = some (.slice (some ⟨g, 0, none⟩) x.files.length c) := Blk.cell H3.out.blk rfl
              have hcut := H3.out.row.cutR (l := x.files) hrl
              have hhead := H3.out.row.headR (l := x.files) hrl
              have hdl : (x.files.drop i).length = x.files.length - i := List.length_drop ..
              have htl : (x.files.take i).length = i := by rw [List.length_take]; omega
              obtain ⟨D, hD⟩ : ∃ D, x.files.drop i = D := ⟨_, rfl⟩
              obtain ⟨T, hT⟩ : ∃ T, x.files.take i = T := ⟨_, rfl⟩
              rw [hD] at hcut hdl
              rw [hT] at hhead htl
              have HHEAD := Lib.hid hhead
              have HDL := Lib.hid hdl
              have HTL := Lib.hid htl
              clear hhead hdl htl
              have F3 := Blk.fr H3.out.blk 0
              have hic : i ≤ c := Nat.le_trans hrl hc1
              by_cases hci : c = i
              · have hci2 := hci.symm
                subst hci2
                rw [if_pos rfl, Nat.sub_self] at hcut
                have HDL : Hid (D.length = 0) := Lib.hid (by have := HDL.out; omega)
                have HCUT := Lib.hid hcut
                clear hcut
                go_wp2_with (at_builtin; first
                  | (refine wpList_copy_lit (E := Rp.rf) rfl w3 (.tmp 59) (.tmp 65) 67 rfl 100 56 el_rf rfl _ _ (fun k => k < w3.heap.size) D ?hx HCUT.out Rp.rf_one ?hby ?_
                     case hx => (rw [HDL.out]; rfl)
                     case hby => have := HDL.out; omega
                     intro A7 c7 w7 hown7 hk7
                     have H7 := Lib.hid (H3.out.keptNo hk7)
                     have HO7 := Lib.hid hown7
                     have HK7 := Lib.hid hk7
                     have c07 : w7.cell? ⟨r, 0, none⟩ = some (.slice (some ⟨g, 0, none⟩) x.files.length i) := Blk.cell H7.out.blk rfl
                     have hrlt7 : r < w7.heap.size := Blk.lt H7.out.blk
                     clear c0 hrlt hown7 hk7)
                  | (refine wpList_append_full (E := Rp.rf) rfl (w7.alloc (.cells (enc4 (n, ⟨[], 0, false⟩)).toArray 100)) (.tmp 74) (.tmp 77) 67 rfl 100 56 el_rf (fun k => k < w7.heap.size + 1) (some ⟨g, 0, none⟩) T ?hx1 ?hl1 (some ⟨w7.heap.size, 0, none⟩) 1 [(n, ⟨[], 0, false⟩)] rfl ?hm1 Nat.one_pos Rp.rf_one ?hcap1 ?hby1 ?_
                     case hx1 => (rw [HTL.out]; rfl)
                     case hm1 => exact lit1 w7 _ _ (by omega)
                     case hl1 => exact Rp.rf.slice.keptNo (Rp.rf.slice.more HHEAD.out (fun k hk => Nat.lt_of_lt_of_le hk (Nat.le_succ_of_le HK7.out.size))) (HK7.out.alloc _)
                     case hcap1 => have := HTL.out; simp [maxLen]; omega
                     case hby1 => have := HTL.out; simp; omega
                     intro A8 c8 w8 hown8 hk8
                     have HO8 : Hid (Own Rp.rf w8 (fun k => k < w7.heap.size) (w7.heap.size + 1) 100 (.slice A8 (T.length + 1) c8) (T ++ [(n, ⟨[], 0, false⟩)])) := Lib.hid (by have h := hown8.rf_any (fun k => k < w7.heap.size); simpa using h)
                     have HS8 : w7.heap.size + 1 ≤ w8.heap.size := by have := hk8.size; simpa using this
                     have HK8 : Hid (Kp No w7 w8) := Lib.hid (((Kp.refl No w7).alloc _).trans' hk8)
                     clear hown8 hk8)
                  | (refine wpList_append_rp (E := Rp.rf) rfl w8 (.tmp 78) (.tmp 79) 67 rfl (w7.heap.size + 1) 100 56 el_rf (fun k => k < w7.heap.size) (.slice A8 (T.length + 1) c8) (T ++ [(n, ⟨[], 0, false⟩)]) rfl HO8.out A7 c7 (fun k => k < w7.heap.size) D rfl ?hsrc9 Rp.rf_one ?hcap9 ?hby9 HS8 (fun _ h => h) ?hsv9 ?_
                     case hsrc9 => exact Rp.rf.slice.keptNo ((HO7.out.rf_any (fun k => k < w7.heap.size)).read (fun k hk => (HO7.out.lt k hk).2)) HK8.out
                     case hcap9 => have := HTL.out; have := HDL.out; simp [maxLen]; omega
                     case hby9 => have := HTL.out; have := HDL.out; simp; omega
                     case hsv9 => (intro k hk; have := (HO8.out.lt k hk).1; omega)
                     intro v9 w9 hown9 hg9 _
                     have hk9 : Kp No w3 w9 := (HK7.out.trans' HK8.out).grown hg9 (fun k hk hlt => by have := (HO8.out.lt k hk).1; have := HK7.out.size; omega)
                     obtain ⟨hrs, hbs⟩ := RSf.of_own hown9
                     have hsh9 := Shp.of_own hown9
                     have e9 : T ++ [(n, ⟨[], 0, false⟩)] ++ D = ins n ⟨[], 0, false⟩ x.files := by rw [ins_new _ HOK.out.rising HFI.out, hi, hT, hD, List.append_assoc]; rfl
                     rw [e9] at hrs
                     obtain ⟨L9, hL9⟩ : ∃ L9, ins n ⟨[], 0, false⟩ x.files = L9 := ⟨_, rfl⟩
                     have hg9' := ins_get (n := n) ⟨[], 0, false⟩ HOK.out.rising HFI.out
                     have hok9 := H3.out.ok.put n ⟨[], 0, false⟩ HN80.out ⟨Nat.le_refl _, Nat.zero_le _⟩
                     rw [show (stepped x).files = x.files from rfl] at hok9
                     rw [hL9] at hrs hok9
                     rw [hL9, hi] at hg9'
                     obtain ⟨A9, c9, rfl, _, _, _⟩ := id hrs
                     obtain ⟨h10, hk10⟩ := H3.out.anew hk9 hrs (fun k hk => by have := hbs k hk; have := HK7.out.size; omega) hok9 hsh9
                     obtain ⟨g9, rfl, hrb9, hcell9, hfr9⟩ := h10.row.cell (i := i) hg9'
                     obtain ⟨w10, hw10⟩ : ∃ w10, w9.setCell ⟨r, 0, none⟩ (.slice (some ⟨g9, 0, none⟩) L9.length c9) = w10 := ⟨_, rfl⟩
                     rw [hw10] at h10 hk10 hcell9 hfr9
                     have c09 : w9.cell? ⟨r, 0, none⟩ = some _ := Blk.cell (H3.out.keptNo hk9).blk rfl
                     have f09 := Blk.fr (H3.out.keptNo hk9).blk 0
                     have c010 : w10.cell? ⟨r, 0, none⟩ = some (.slice (some ⟨g9, 0, none⟩) L9.length c9) := Blk.cell h10.blk rfl
                     have c210 := hcell9 2 _ rfl
                     have f210 := hfr9 (i * 4 + 2)
                     have Bi9 : (i : Int) < (L9.length : Int) := by have := (List.getElem?_eq_some_iff.1 hg9').1; omega
                     have hno10 : ¬ 9223372036854775807 < (bs []).size + s.size := by have : (bs []).size = 0 := rfl; omega
                     have H10 := Lib.hid h10
                     have HK10 := Lib.hid (HK3.out.trans hk10 (fun k _ e => (HF.out k).2 (.inl e)))
                     have HG9 := Lib.hid hg9'
                     have HBS := Lib.hid hbs
                     have HL9 := Lib.hid hL9
                     clear h10 hk10 hcell9 hfr9 hg9' hbs hL9 hrs hok9 e9 hsh9 hown9 hg9 hk9 c07 F3))
                go_ret
                rw [HZ3.out]
                have hset : L9.set i (n, ⟨s.data.toList, 0, false⟩) = ins n ⟨s.data.toList, 0, false⟩ x.files := by
                  rw [← HL9.out, ← hi]; exact ins_set _ _ HOK.out.rising HFI.out
                have henc := enc4_wait (n := n) (f := ⟨[], 0, false⟩) ⟨Nat.le_refl _, Nat.zero_le _⟩ s
                simp only [List.nil_append] at henc
                obtain ⟨h11, hne⟩ := H10.out.set (q := (n, ⟨s.data.toList, 0, false⟩)) HG9.out (j := 2) (by decide) henc (by
                  show OkD { stepped x with files := L9.set i (n, ⟨s.data.toList, 0, false⟩) }
                  rw [hset]
                  exact H3.out.ok.put n _ HN80.out ⟨Nat.zero_le _, by show s.data.toList.length ≤ _; rw [data_length]; omega⟩)
                have h11' : RIn (w10.setCell ⟨g9, i * 4 + 2, none⟩ (.string (bs [] ++ s))) r (.slice (some ⟨g9, 0, none⟩) L9.length c9) { stepped x with files := L9.set i (n, ⟨s.data.toList, 0, false⟩) } := h11
                rw [hset] at h11'
                have hs3 := HK3.out.size
                have hs7 := HK7.out.size
                refine ⟨rfl, fun k => k = r ∨ rblk (.slice (some ⟨g9, 0, none⟩) L9.length c9) = some k, ⟨_, h11', fun k => Iff.rfl⟩, HK10.out.setCell (p := ⟨g9, i * 4 + 2, none⟩) (fun hlt => absurd hlt ?_) _, ?_⟩
                · have := HBS.out g9 hrb9
                  show ¬ g9 < _
                  omega
                · rintro k (rfl | hk)
                  · exact .inl ((HF.out _).2 (.inl rfl))
                  · have := HBS.out k hk
                    right; omega
              · rw [if_neg hci] at hcut
                have HCUT := Lib.hid hcut
                clear hcut
                go_wp2_with (at_builtin; first
                  | (refine wpList_copy_lit (E := Rp.rf) rfl w3 (.tmp 59) (.tmp 65) 67 rfl 100 56 el_rf rfl _ _ (fun k => k < w3.heap.size) D ?hx HCUT.out Rp.rf_one ?hby ?_
                     case hx => (rw [HDL.out]; rfl)
                     case hby => have := HDL.out; omega
                     intro A7 c7 w7 hown7 hk7
                     have H7 := Lib.hid (H3.out.keptNo hk7)
                     have HO7 := Lib.hid hown7
                     have HK7 := Lib.hid hk7
                     have c07 : w7.cell? ⟨r, 0, none⟩ = some (.slice (some ⟨g, 0, none⟩) x.files.length c) := Blk.cell H7.out.blk rfl
                     have hrlt7 : r < w7.heap.size := Blk.lt H7.out.blk
                     clear c0 hrlt hown7 hk7)
                  | (refine wpList_append_full (E := Rp.rf) rfl (w7.alloc (.cells (enc4 (n, ⟨[], 0, false⟩)).toArray 100)) (.tmp 74) (.tmp 77) 67 rfl 100 56 el_rf (fun k => k < w7.heap.size + 1) (some ⟨g, 0, none⟩) T ?hx1 ?hl1 (some ⟨w7.heap.size, 0, none⟩) 1 [(n, ⟨[], 0, false⟩)] rfl ?hm1 Nat.one_pos Rp.rf_one ?hcap1 ?hby1 ?_
                     case hx1 => (rw [HTL.out]; rfl)
                     case hm1 => exact lit1 w7 _ _ (by omega)
                     case hl1 => exact Rp.rf.slice.keptNo (Rp.rf.slice.more HHEAD.out (fun k hk => Nat.lt_of_lt_of_le hk (Nat.le_succ_of_le HK7.out.size))) (HK7.out.alloc _)
                     case hcap1 => have := HTL.out; simp [maxLen]; omega
                     case hby1 => have := HTL.out; simp; omega
                     intro A8 c8 w8 hown8 hk8
                     have HO8 : Hid (Own Rp.rf w8 (fun k => k < w7.heap.size) (w7.heap.size + 1) 100 (.slice A8 (T.length + 1) c8) (T ++ [(n, ⟨[], 0, false⟩)])) := Lib.hid (by have h := hown8.rf_any (fun k => k < w7.heap.size); simpa using h)
                     have HS8 : w7.heap.size + 1 ≤ w8.heap.size := by have := hk8.size; simpa using this
                     have HK8 : Hid (Kp No w7 w8) := Lib.hid (((Kp.refl No w7).alloc _).trans' hk8)
                     clear hown8 hk8)
                  | (refine wpList_append_rp (E := Rp.rf) rfl w8 (.tmp 78) (.tmp 79) 67 rfl (w7.heap.size + 1) 100 56 el_rf (fun k => k < w7.heap.size) (.slice A8 (T.length + 1) c8) (T ++ [(n, ⟨[], 0, false⟩)]) rfl HO8.out A7 c7 (fun k => k < w7.heap.size) D rfl ?hsrc9 Rp.rf_one ?hcap9 ?hby9 HS8 (fun _ h => h) ?hsv9 ?_
                     case hsrc9 => exact Rp.rf.slice.keptNo ((HO7.out.rf_any (fun k => k < w7.heap.size)).read (fun k hk => (HO7.out.lt k hk).2)) HK8.out
                     case hcap9 => have := HTL.out; have := HDL.out; simp [maxLen]; omega
                     case hby9 => have := HTL.out; have := HDL.out; simp; omega
                     case hsv9 => (intro k hk; have := (HO8.out.lt k hk).1; omega)
                     intro v9 w9 hown9 hg9 _
                     have hk9 : Kp No w3 w9 := (HK7.out.trans' HK8.out).grown hg9 (fun k hk hlt => by have := (HO8.out.lt k hk).1; have := HK7.out.size; omega)
                     obtain ⟨hrs, hbs⟩ := RSf.of_own hown9
                     have hsh9 := Shp.of_own hown9
                     have e9 : T ++ [(n, ⟨[], 0, false⟩)] ++ D = ins n ⟨[], 0, false⟩ x.files := by rw [ins_new _ HOK.out.rising HFI.out, hi, hT, hD, List.append_assoc]; rfl
                     rw [e9] at hrs
                     obtain ⟨L9, hL9⟩ : ∃ L9, ins n ⟨[], 0, false⟩ x.files = L9 := ⟨_, rfl⟩
                     have hg9' := ins_get (n := n) ⟨[], 0, false⟩ HOK.out.rising HFI.out
                     have hok9 := H3.out.ok.put n ⟨[], 0, false⟩ HN80.out ⟨Nat.le_refl _, Nat.zero_le _⟩
                     rw [show (stepped x).files = x.files from rfl] at hok9
                     rw [hL9] at hrs hok9
                     rw [hL9, hi] at hg9'
                     obtain ⟨A9, c9, rfl, _, _, _⟩ := id hrs
                     obtain ⟨h10, hk10⟩ := H3.out.anew hk9 hrs (fun k hk => by have := hbs k hk; have := HK7.out.size; omega) hok9 hsh9
                     obtain ⟨g9, rfl, hrb9, hcell9, hfr9⟩ := h10.row.cell (i := i) hg9'
                     obtain ⟨w10, hw10⟩ : ∃ w10, w9.setCell ⟨r, 0, none⟩ (.slice (some ⟨g9, 0, none⟩) L9.length c9) = w10 := ⟨_, rfl⟩
                     rw [hw10] at h10 hk10 hcell9 hfr9
                     have c09 : w9.cell? ⟨r, 0, none⟩ = some _ := Blk.cell (H3.out.keptNo hk9).blk rfl
                     have f09 := Blk.fr (H3.out.keptNo hk9).blk 0
                     have c010 : w10.cell? ⟨r, 0, none⟩ = some (.slice (some ⟨g9, 0, none⟩) L9.length c9) := Blk.cell h10.blk rfl
                     have c210 := hcell9 2 _ rfl
                     have f210 := hfr9 (i * 4 + 2)
                     have Bi9 : (i : Int) < (L9.length : Int) := by have := (List.getElem?_eq_some_iff.1 hg9').1; omega
                     have hno10 : ¬ 9223372036854775807 < (bs []).size + s.size := by have : (bs []).size = 0 := rfl; omega
                     have H10 := Lib.hid h10
                     have HK10 := Lib.hid (HK3.out.trans hk10 (fun k _ e => (HF.out k).2 (.inl e)))
                     have HG9 := Lib.hid hg9'
                     have HBS := Lib.hid hbs
                     have HL9 := Lib.hid hL9
                     clear h10 hk10 hcell9 hfr9 hg9' hbs hL9 hrs hok9 e9 hsh9 hown9 hg9 hk9 c07 F3))
                go_ret
                rw [HZ3.out]
                have hset : L9.set i (n, ⟨s.data.toList, 0, false⟩) = ins n ⟨s.data.toList, 0, false⟩ x.files := by
                  rw [← HL9.out, ← hi]; exact ins_set _ _ HOK.out.rising HFI.out
                have henc := enc4_wait (n := n) (f := ⟨[], 0, false⟩) ⟨Nat.le_refl _, Nat.zero_le _⟩ s
                simp only [List.nil_append] at henc
                obtain ⟨h11, hne⟩ := H10.out.set (q := (n, ⟨s.data.toList, 0, false⟩)) HG9.out (j := 2) (by decide) henc (by
                  show OkD { stepped x with files := L9.set i (n, ⟨s.data.toList, 0, false⟩) }
                  rw [hset]
                  exact H3.out.ok.put n _ HN80.out ⟨Nat.zero_le _, by show s.data.toList.length ≤ _; rw [data_length]; omega⟩)
                have h11' : RIn (w10.setCell ⟨g9, i * 4 + 2, none⟩ (.string (bs [] ++ s))) r (.slice (some ⟨g9, 0, none⟩) L9.length c9) { stepped x with files := L9.set i (n, ⟨s.data.toList, 0, false⟩) } := h11
                rw [hset] at h11'
                have hs3 := HK3.out.size
                have hs7 := HK7.out.size
                refine ⟨rfl, fun k => k = r ∨ rblk (.slice (some ⟨g9, 0, none⟩) L9.length c9) = some k, ⟨_, h11', fun k => Iff.rfl⟩, HK10.out.setCell (p := ⟨g9, i * 4 + 2, none⟩) (fun hlt => absurd hlt ?_) _, ?_⟩
                · have := HBS.out g9 hrb9
                  show ¬ g9 < _
                  omega
                · rintro k (rfl | hk)
                  · exact .inl ((HF.out _).2 (.inl rfl))
                  · have := HBS.out k hk
                    right; omega
      | some f =>
        rw [hfile] at hat
        have hfo := (HOK.out.at hfile).1
        have hp := rank_at HOK.out.rising hfile
        obtain ⟨g, hv, hcell⟩ : ∃ g, (∃ m c, v = .slice (some ⟨g, 0, none⟩) m c ∧ m = x.files.length ∧ m ≤ c) ∧ True := by
          obtain ⟨A', c', rfl, h1, _⟩ := id H.out.row
          obtain ⟨g, rfl, _⟩ := H.out.row.cell hp
          exact ⟨g, ⟨_, _, rfl, rfl, h1⟩, trivial⟩
        obtain ⟨m, c, rfl, rfl, hc1⟩ := hv
        obtain ⟨i, hi⟩ : ∃ i, rank n x.files = i := ⟨_, rfl⟩
        rw [hi] at hat hp
        have hil := (List.getElem?_eq_some_iff.1 hp).1
        have Bi : (i : Int) < (x.files.length : Int) := by omega
        obtain ⟨TL, hTL⟩ : ∃ t, bs (f.bytes.take f.sure) = t := ⟨_, rfl⟩
        obtain ⟨TW, hTW⟩ : ∃ t, bs (f.bytes.drop f.sure) = t := ⟨_, rfl⟩
        have sTL : TL.size = f.sure := by rw [← hTL, bs_size, List.length_take]; have := hfo.1; omega
        have sTW : TW.size = f.bytes.length - f.sure := by rw [← hTW, bs_size, List.length_drop]
        have e1 : IntKind.i64.wrap (1048576 - (TL.size : Int)) = 1048576 - (TL.size : Int) := wrap_i64 (by have := hfo.1; have := hfo.2; omega) (by omega)
        have e2 : IntKind.i64.wrap (1048576 - (TL.size : Int) - (TW.size : Int)) = 1048576 - (TL.size : Int) - (TW.size : Int) := wrap_i64 (by have := hfo.1; have := hfo.2; omega) (by omega)
        have HZ1 : Hid (Z = if 1048576 < f.bytes.length + s.size then (52, x) else stepD x fun y => { y with files := ins n { f with bytes := f.bytes ++ s.data.toList } y.files }) := Lib.hid (by
          rw [← HZ.out]; unfold fileD; rw [hfile]; rfl)
        have HFO := Lib.hid hfo
        have HFI := Lib.hid hfile
        have HI := Lib.hid hi
        have HP := Lib.hid hp
        have HTL := Lib.hid hTL
        have HTW := Lib.hid hTW
        have HSZ := Lib.hid (And.intro sTL sTW)
        clear hfo hfile hi hp hTL hTW sTL sTW hcell HZ
        go_wp2_with fail
        refine hat.mono ?_
        rintro e w2 ⟨rfl, hk⟩
        have HK2 := Lib.hid (HK.out.trans' hk)
        have H2 := Lib.hid (H1.out.keptNo hk)
        obtain ⟨g', he, _, hcell, _⟩ := H2.out.row.cell HP.out
        injection he with he; injection he with he
        subst he
        have c1 : w2.cell? ⟨g, i * 4 + 1, none⟩ = some (.string TL) := by rw [← HTL.out]; exact hcell 1 _ rfl
        have c2 : w2.cell? ⟨g, i * 4 + 2, none⟩ = some (.string TW) := by rw [← HTW.out]; exact hcell 2 _ rfl
        have c0 : w2.cell? ⟨r, 0, none⟩ = some (.slice (some ⟨g, 0, none⟩) x.files.length c) := Blk.cell H2.out.blk rfl
        clear hat hk hcell
        by_cases hbig : 1048576 - (TL.size : Int) - (TW.size : Int) < (s.size : Int)
        · have HZ2 : Hid (Z = (52, x)) := Lib.hid (by
            rw [HZ1.out]
            exact if_pos (by have := HSZ.out; have := HFO.out.1; omega))
          go_wp2_with fail
          go_quiet (fail)
          go_wp2_with fail
          go_ret
          rw [HZ2.out]
          exact ⟨rfl, F, HA0.out.keptNo (HK2.out.drewN _), (HK2.out.drewN _).any, fun k hk => .inl hk⟩
        · have HZ2 : Hid (Z = stepD x fun y => { y with files := ins n { f with bytes := f.bytes ++ s.data.toList } y.files }) := Lib.hid (by
            rw [HZ1.out]
            exact if_neg (by have := HSZ.out; have := HFO.out.1; omega))
          have hsm : (s.size : Int) ≤ 1048576 := by have := HSZ.out; have := HFO.out.1; omega
          go_wp2_with fail
          go_quiet (fail)
          go_wp2_with fail
          by_cases hf : x.fuse = 0
          · have e : (stepD x fun y => { y with files := ins n { f with bytes := f.bytes ++ s.data.toList } y.files }) = (50, { x with off := true }) := by unfold stepD; rw [if_pos hf]
            have HZ3 := Lib.hid (HZ2.out.trans e)
            clear e
            refine (r_step_out r _ x _ (H2.out.keptNo ((Kp.refl _ _).drewN _)).blk hf).mono ?_
            rintro e w3 ⟨rfl, hb, hk⟩
            have H3 := Lib.hid ((H2.out.keptNo ((Kp.refl _ _).drewN _)).turned hk hb rfl (H2.out.ok.off true))
            have HK3 := Lib.hid ((HK2.out.drewN _).any.trans hk (fun k _ e => (HF.out k).2 (.inl e)))
            clear hb hk hf hbig
            go_wp2_with fail
            go_ret
            rw [HZ3.out]
            exact ⟨rfl, F, ⟨_, H3.out, HF.out⟩, HK3.out, fun k hk => .inl hk⟩
          · have e : (stepD x fun y => { y with files := ins n { f with bytes := f.bytes ++ s.data.toList } y.files }) = (0, { stepped x with files := ins n { f with bytes := f.bytes ++ s.data.toList } x.files }) := by unfold stepD; rw [if_neg hf]; rfl
            have HZ3 := Lib.hid (HZ2.out.trans e)
            clear e
            refine (r_step r _ x _ (H2.out.keptNo ((Kp.refl _ _).drewN _)).blk H2.out.ok hf).mono ?_
            rintro e w3 ⟨rfl, hb, hk⟩
            have H3 := Lib.hid ((H2.out.keptNo ((Kp.refl _ _).drewN _)).turned (y := stepped x) hk hb rfl H2.out.ok.stepped)
            have HK3 := Lib.hid ((HK2.out.drewN _).any.trans hk (fun k _ e => (HF.out k).2 (.inl e)))
            obtain ⟨g', he, hrb, hcell, hfr⟩ := H3.out.row.cell HP.out
            injection he with he; injection he with he
            subst he
            have c3 : w3.cell? ⟨g, i * 4 + 2, none⟩ = some (.string TW) := by rw [← HTW.out]; exact hcell 2 _ rfl
            have f3 := hfr (i * 4 + 2)
            have c4 : w3.cell? ⟨r, 0, none⟩ = some (.slice (some ⟨g, 0, none⟩) x.files.length c) := Blk.cell H3.out.blk rfl
            have hno : ¬ 9223372036854775807 < TW.size + s.size := by have := HSZ.out; have := HFO.out.2; omega
            clear hb hk hf hbig hcell hfr c0 c1 c2
            go_wp2_with fail
            go_ret
            rw [HZ3.out]
            have hset : x.files.set i (n, { f with bytes := f.bytes ++ s.data.toList }) = ins n { f with bytes := f.bytes ++ s.data.toList } x.files := by
              rw [← HI.out]; exact (ins_over _ HOK.out.rising HFI.out).symm
            have henc := enc4_wait (n := n) HFO.out s
            rw [HTW.out] at henc
            have hokf : OkF { f with bytes := f.bytes ++ s.data.toList } := ⟨by show f.sure ≤ (f.bytes ++ s.data.toList).length; rw [List.length_append]; have := HFO.out.1; omega, by show (f.bytes ++ s.data.toList).length ≤ _; rw [List.length_append, data_length]; have := HSZ.out; have := HFO.out.1; omega⟩
            obtain ⟨h11, hne⟩ := H3.out.set (q := (n, { f with bytes := f.bytes ++ s.data.toList })) HP.out (j := 2) (by decide) henc (by
              show OkD { stepped x with files := x.files.set i (n, { f with bytes := f.bytes ++ s.data.toList }) }
              rw [hset]
              exact H3.out.ok.put n _ HN80.out hokf)
            have h11' : RIn (w3.setCell ⟨g, i * 4 + 2, none⟩ (.string (TW ++ s))) r (.slice (some ⟨g, 0, none⟩) x.files.length c) { stepped x with files := x.files.set i (n, { f with bytes := f.bytes ++ s.data.toList }) } := h11
            rw [hset] at h11'
            exact ⟨rfl, F, ⟨_, h11', HF.out⟩, HK3.out.setCell (p := ⟨g, i * 4 + 2, none⟩) (fun _ => (HF.out g).2 (.inr hrb)) _, fun k hk => .inl hk⟩
end

section
open Go.RowKit Go.ChangeShapes Go.WideShapes Go.ChangeAt

theorem RIn.file {w : World} {r : Nat} {v : Value} {x : DV} (h : RIn w r v x) {n : ByteArray} {f : FV} (hf : mget n x.files = some f) : ∃ g c, v = .slice (some ⟨g, 0, none⟩) x.files.length c ∧ x.files.length ≤ c ∧ rblk v = some g := by
  obtain ⟨A', c', rfl, h1, _⟩ := id h.row
  obtain ⟨g, rfl, hb, _⟩ := h.row.cell (rank_at h.ok.rising hf)
  exact ⟨g, _, rfl, h1, hb⟩
set_option maxRecDepth 100000 in
theorem r_read (r : Nat) (x : DV) (F : Nat → Prop) (n : ByteArray) (w : World) (h : RAt w r x F) :
    Calls Tryz.prog 65 #[.pointer (some ⟨r, 0, none⟩), .string n] w fun e w' => e = .returned (.tuple #[.string (textOr (readD n x)), .bool (readD n x).isSome]) ∧ Kp No w w' := by
  obtain ⟨v, h, hF⟩ := h
  have hat := r_at r v x n w h
  have H := Lib.hid h
  clear h hF
  cases hoff : x.off with
  | true =>
    have e : readD n x = none := by unfold readD; rw [hoff]; rfl
    rw [e]
    clear e
    go_enter Tryz.func65, Tryz.ntmps65
    go_wp2_with fail
    refine hat.mono ?_
    rintro e w1 ⟨rfl, hk⟩
    have HK := Lib.hid hk
    have c2 : w1.cell? ⟨r, 2, none⟩ = some (.bool x.off) := Blk.cell (H.out.keptNo hk).blk rfl
    rw [hoff] at c2
    clear hk hat hoff
    go_wp2_with fail
    go_ret2
    exact ⟨rfl, HK.out⟩
  | false =>
    cases hf : mget n x.files with
    | none =>
      have e : readD n x = none := by unfold readD fileD; rw [hoff, hf]; rfl
      rw [e]
      rw [hf] at hat
      clear e hf
      go_enter Tryz.func65, Tryz.ntmps65
      go_wp2_with fail
      refine hat.mono ?_
      rintro e w1 ⟨rfl, hk⟩
      have HK := Lib.hid hk
      have c2 : w1.cell? ⟨r, 2, none⟩ = some (.bool x.off) := Blk.cell (H.out.keptNo hk).blk rfl
      rw [hoff] at c2
      clear hk hat hoff
      go_wp2_with fail
      go_ret2
      exact ⟨rfl, HK.out⟩
    | some f =>
      have e : readD n x = some (bs f.bytes) := by unfold readD fileD; rw [hoff, hf]; rfl
      rw [e]
      rw [hf] at hat
      obtain ⟨g, c, rfl, hc, hrb⟩ := H.out.file hf
      have hp := rank_at H.out.ok.rising hf
      obtain ⟨i, hi⟩ : ∃ i, rank n x.files = i := ⟨_, rfl⟩
      rw [hi] at hat hp
      have hil := (List.getElem?_eq_some_iff.1 hp).1
      have Bi : (i : Int) < (x.files.length : Int) := by omega
      obtain ⟨TL, hTL⟩ : ∃ t, bs (f.bytes.take f.sure) = t := ⟨_, rfl⟩
      obtain ⟨TW, hTW⟩ : ∃ t, bs (f.bytes.drop f.sure) = t := ⟨_, rfl⟩
      have hsum : TL ++ TW = bs f.bytes := by rw [← hTL, ← hTW, bs_append, List.take_append_drop]
      have hno : ¬ 9223372036854775807 < TL.size + TW.size := by
        have h1 : (TL ++ TW).size = TL.size + TW.size := ByteArray.size_append
        rw [hsum, bs_size] at h1
        have := (H.out.ok.at hf).1.2
        omega
      have HS := Lib.hid hsum
      clear e hf hsum hi
      go_enter Tryz.func65, Tryz.ntmps65
      go_wp2_with fail
      refine hat.mono ?_
      rintro e w1 ⟨rfl, hk⟩
      have HK := Lib.hid hk
      have h1 := H.out.keptNo hk
      have c2 : w1.cell? ⟨r, 2, none⟩ = some (.bool x.off) := Blk.cell h1.blk rfl
      have c0 : w1.cell? ⟨r, 0, none⟩ = some (.slice (some ⟨g, 0, none⟩) x.files.length c) := Blk.cell h1.blk rfl
      obtain ⟨g', he, _, hcell, _⟩ := h1.row.cell hp
      injection he with he; injection he with he
      subst he
      have c3 : w1.cell? ⟨g, i * 4 + 1, none⟩ = some (.string TL) := by rw [← hTL]; exact hcell 1 _ rfl
      have c4 : w1.cell? ⟨g, i * 4 + 2, none⟩ = some (.string TW) := by rw [← hTW]; exact hcell 2 _ rfl
      rw [hoff] at c2
      clear hk hat hoff h1 hcell hTL hTW hp
      go_wp2_with fail
      go_quiet (fail)
      go_wp2_with fail
      go_ret2
      rw [HS.out]
      exact ⟨rfl, HK.out.drewN _⟩

set_option maxRecDepth 100000 in
theorem r_new (w : World) : Calls Tryz.prog 7 #[] w fun e w' => ∃ r F, e = .returned (.pointer (some ⟨r, 0, none⟩)) ∧ RAt w' r newD F ∧ Kp No w w' ∧ ∀ k, F k → w.heap.size ≤ k := by
  go_enter Tryz.func7, Tryz.ntmps7
  go_wp2_with fail
  go_ret
  have hb := Blk.new w [.slice none 0 0, .int .i64 (-1), .bool false, .int .i64 0] 69
  exact ⟨w.heap.size, (fun k => k = w.heap.size ∨ rblk (.slice none 0 0) = some k), rfl, ⟨_, ⟨hb, RSf.nil _, newD_ok, .inl rfl⟩, fun k => Iff.rfl⟩, (Kp.refl _ _).alloc _, fun k hk => by
    rcases hk with rfl | hk
    · exact Nat.le_refl _
    · cases hk⟩

/-! a row whose cells turn one by one -/
def RSe (w : World) (v : Value) (es : List (List Value)) : Prop :=
  ∃ A c, v = .slice A es.length c ∧ es.length ≤ c ∧ c ≤ maxLen ∧ (0 < es.length → ∃ g cur, A = some ⟨g, 0, none⟩ ∧ w.heap[g]? = some (.cells cur 100 (0, 0)) ∧
    ∀ (i : Nat) e, es[i]? = some e → e.length = 4 ∧ ∀ (j : Nat) u, e[j]? = some u → cur[i * 4 + j]? = some u)
theorem RSf.toE {w : World} {v : Value} {l : List (ByteArray × FV)} (h : RSf w v l) : RSe w v (l.map enc4) := by
  obtain ⟨A, c, rfl, h1, h2, h3⟩ := h
  refine ⟨A, c, by rw [List.length_map], by rw [List.length_map]; exact h1, h2, fun h0 => ?_⟩
  rw [List.length_map] at h0
  obtain ⟨g, cur, h4, h5, h6⟩ := h3 h0
  refine ⟨g, cur, h4, h5, fun i e he => ?_⟩
  rw [List.getElem?_map, Option.map_eq_some_iff] at he
  obtain ⟨p, hp, rfl⟩ := he
  exact ⟨rfl, h6 i p hp⟩
theorem RSf.ofE {w : World} {v : Value} {l : List (ByteArray × FV)} (h : RSe w v (l.map enc4)) : RSf w v l := by
  obtain ⟨A, c, rfl, h1, h2, h3⟩ := h
  rw [List.length_map] at h1 h3
  refine ⟨A, c, by rw [List.length_map], h1, h2, fun h0 => ?_⟩
  obtain ⟨g, cur, h4, h5, h6⟩ := h3 h0
  exact ⟨g, cur, h4, h5, fun i p hp => (h6 i (enc4 p) (by rw [List.getElem?_map, hp]; rfl)).2⟩
theorem RSe.set {w : World} {g n c : Nat} {es : List (List Value)} (h : RSe w (.slice (some ⟨g, 0, none⟩) n c) es) {i j : Nat} {e : List Value} (hi : es[i]? = some e) {u : Value} (hj : j < 4) : RSe (w.setCell ⟨g, i * 4 + j, none⟩ u) (.slice (some ⟨g, 0, none⟩) n c) (es.set i (e.set j u)) := by
  have hil := (List.getElem?_eq_some_iff.1 hi).1
  obtain ⟨A, c', he, h1, h2, h3⟩ := h
  injection he with e1 e2 e3
  subst e1 e2 e3
  obtain ⟨g', cur, he, h5, h6⟩ := h3 (by omega)
  injection he with he
  injection he with he
  subst he
  refine ⟨_, _, by rw [List.length_set], by rw [List.length_set]; exact h1, h2, fun _ => ⟨g, cur.setIfInBounds (i * 4 + j) u, rfl, ?_, ?_⟩⟩
  · simp [World.setCell, Array.getElem?_modify, h5, Array.setIfInBounds_def]
    try omega
  · intro i' e' hi'
    rw [List.getElem?_set] at hi'
    by_cases ei : i = i'
    · subst ei
      rw [if_pos rfl, if_pos hil] at hi'
      injection hi' with hi'
      subst hi'
      obtain ⟨h7, h8⟩ := h6 i e hi
      refine ⟨by rw [List.length_set]; exact h7, fun j' u' hu' => ?_⟩
      have hj' : j' < 4 := by have := (List.getElem?_eq_some_iff.1 hu').1; rw [List.length_set, h7] at this; exact this
      rw [Array.getElem?_setIfInBounds]
      rw [List.getElem?_set] at hu'
      by_cases ej : j = j'
      · subst ej
        rw [if_pos rfl, if_pos (by rw [h7]; exact hj)] at hu'
        rw [if_pos rfl]
        have hin : i * 4 + j < cur.size := by
          obtain ⟨u0, hu0⟩ : ∃ u0, e[j]? = some u0 := ⟨_, List.getElem?_eq_getElem (by rw [h7]; exact hj)⟩
          exact (Array.getElem?_eq_some_iff.1 (h8 j u0 hu0)).1
        rw [if_pos hin]; exact hu'
      · rw [if_neg ej] at hu'
        rw [if_neg (by omega)]
        exact h8 j' u' hu'
    · rw [if_neg ei] at hi'
      obtain ⟨h7, h8⟩ := h6 i' e' hi'
      refine ⟨h7, fun j' u' hu' => ?_⟩
      have hj' : j' < 4 := by have := (List.getElem?_eq_some_iff.1 hu').1; rw [h7] at this; exact this
      rw [Array.getElem?_setIfInBounds, if_neg (by omega)]
      exact h8 j' u' hu'
end

section
open Go.RowKit Go.ChangeShapes Go.WideShapes Go.ChangeAt

theorem RIn.sync {w : World} {r g m c : Nat} {y : DV} (h : RIn w r (.slice (some ⟨g, 0, none⟩) m c) y) {i : Nat} {n : ByteArray} {f : FV} (hp : y.files[i]? = some (n, f)) (ho : OkD { y with files := y.files.set i (n, syncF f) }) :
    RIn (((w.setCell ⟨g, i * 4 + 1, none⟩ (.string (bs f.bytes))).setCell ⟨g, i * 4 + 2, none⟩ (.string ByteArray.empty)).setCell ⟨g, i * 4 + 3, none⟩ (.bool true)) r (.slice (some ⟨g, 0, none⟩) m c) { y with files := y.files.set i (n, syncF f) } := by
  have hne : g ≠ r := by
    obtain ⟨g', he, hb, _⟩ := h.row.cell hp
    injection he with he; injection he with he
    subst he
    rintro rfl
    exact h.ne hb
  have hil := (List.getElem?_eq_some_iff.1 hp).1
  have he0 : (y.files.map enc4)[i]? = some (enc4 (n, f)) := by rw [List.getElem?_map, hp]; rfl
  have h1 := h.row.toE.set he0 (j := 1) (u := .string (bs f.bytes)) (by decide)
  have h2 := h1.set (i := i) (e := (enc4 (n, f)).set 1 (.string (bs f.bytes))) (j := 2) (u := .string ByteArray.empty) (by rw [List.getElem?_set, if_pos rfl, if_pos (by rw [List.length_map]; exact hil)]) (by decide)
  rw [List.set_set] at h2
  have h3 := h2.set (i := i) (e := ((enc4 (n, f)).set 1 (.string (bs f.bytes))).set 2 (.string ByteArray.empty)) (j := 3) (u := .bool true) (by rw [List.getElem?_set, if_pos rfl, if_pos (by rw [List.length_map]; exact hil)]) (by decide)
  rw [List.set_set] at h3
  have he3 : (((enc4 (n, f)).set 1 (.string (bs f.bytes))).set 2 (.string ByteArray.empty)).set 3 (.bool true) = enc4 (n, syncF f) := by
    simp only [enc4, syncF, List.set_cons_succ, List.set_cons_zero, List.take_length, List.drop_length]
    rfl
  rw [he3, ← List.map_set] at h3
  have hk : Kp (· = g) w (((w.setCell ⟨g, i * 4 + 1, none⟩ (.string (bs f.bytes))).setCell ⟨g, i * 4 + 2, none⟩ (.string ByteArray.empty)).setCell ⟨g, i * 4 + 3, none⟩ (.bool true)) :=
    (((Kp.refl (· = g) w).setCell (p := ⟨g, i * 4 + 1, none⟩) (fun _ => rfl) _).setCell (p := ⟨g, i * 4 + 2, none⟩) (fun _ => rfl) _).setCell (p := ⟨g, i * 4 + 3, none⟩) (fun _ => rfl) _
  exact ⟨Blk.kept h.blk hk (fun e => hne e.symm), RSf.ofE h3, ho, h.sh⟩

/-! what stands ahead of a step, and the step: a file that is there -/
set_option maxRecDepth 100000 in
set_option maxHeartbeats 1000000 in
theorem r_sync (r : Nat) (x : DV) (F : Nat → Prop) (n : ByteArray) (w : World) (h : RAt w r x F) (hn : n.size ≤ maxLen) :
    Calls Tryz.prog 48 #[.pointer (some ⟨r, 0, none⟩), .string n] w fun e w' => e = .returned (.int .i64 (syncD n x).1) ∧ ∃ F', RAt w' r (syncD n x).2 F' ∧ Upd F w w' F' := by
  obtain ⟨v, h, hF⟩ := h
  have H := Lib.hid h
  have HA0 : Hid (RAt w r x F) := Lib.hid ⟨v, h, hF⟩
  have HF := Lib.hid hF
  have hnamed := r_named n hn w
  have HOK := Lib.hid h.ok
  clear h hF
  have hn80 : fineN n = true → n.size ≤ 80 := by
    intro h
    unfold fineN at h
    simp only [Bool.and_eq_true, decide_eq_true_eq] at h
    exact h.2.1
  cases hfn : fineN n with
  | false =>
    have e : syncD n x = (1, x) := by unfold syncD knownD readyD; rw [hfn]; rfl
    rw [e]
    rw [hfn] at hnamed
    clear e hfn hn80
    go_enter Tryz.func48, Tryz.ntmps48
    go_wp2_with fail
    refine hnamed.mono ?_
    rintro e w1 ⟨rfl, hk⟩
    have HK := Lib.hid hk
    clear hk hnamed
    go_wp2_with fail
    go_ret
    exact ⟨rfl, F, HA0.out.keptNo HK.out, HK.out.any, fun k hk => .inl hk⟩
  | true =>
    rw [hfn] at hnamed
    have HN80 := Lib.hid (hn80 hfn)
    clear hn80
    cases hoff : x.off with
    | true =>
      have e : syncD n x = (50, x) := by unfold syncD knownD readyD; rw [hfn, hoff]; rfl
      rw [e]
      clear e hfn
      go_enter Tryz.func48, Tryz.ntmps48
      go_wp2_with fail
      refine hnamed.mono ?_
      rintro e w1 ⟨rfl, hk⟩
      have HK := Lib.hid hk
      have c2 : w1.cell? ⟨r, 2, none⟩ = some (.bool x.off) := Blk.cell (H.out.keptNo hk).blk rfl
      rw [hoff] at c2
      clear hk hnamed hoff
      go_wp2_with fail
      go_ret
      exact ⟨rfl, F, HA0.out.keptNo HK.out, HK.out.any, fun k hk => .inl hk⟩
    | false =>
      cases hfile : mget n x.files with
      | none =>
        have e : syncD n x = (51, x) := by unfold syncD knownD readyD fileD; rw [hfn, hoff, hfile]; rfl
        rw [e]
        clear e hfn
        go_enter Tryz.func48, Tryz.ntmps48
        go_wp2_with fail
        refine hnamed.mono ?_
        rintro e w1 ⟨rfl, hk⟩
        have HK := Lib.hid hk
        have c2 : w1.cell? ⟨r, 2, none⟩ = some (.bool x.off) := Blk.cell (H.out.keptNo hk).blk rfl
        rw [hoff] at c2
        have hat := r_at r v x n w1 (H.out.keptNo hk)
        rw [hfile] at hat
        clear hk hnamed hoff hfile
        go_wp2_with fail
        refine hat.mono ?_
        rintro e w2 ⟨rfl, hk⟩
        have HK2 := Lib.hid (HK.out.trans' hk)
        clear hat hk c2
        go_wp2_with fail
        go_ret
        exact ⟨rfl, F, HA0.out.keptNo HK2.out, HK2.out.any, fun k hk => .inl hk⟩
      | some f =>
        obtain ⟨g, c, rfl, hc, hrb⟩ := H.out.file hfile
        have hp := rank_at HOK.out.rising hfile
        obtain ⟨Z, hZ⟩ : ∃ Z, syncD n x = Z := ⟨_, rfl⟩
        rw [hZ]
        have HZ : Hid (Z = stepD x fun y => { y with files := ins n (syncF f) y.files }) := Lib.hid (by rw [← hZ]; unfold syncD knownD readyD fileD; rw [hfn, hoff, hfile]; rfl)
        clear hZ hfn
        go_enter Tryz.func48, Tryz.ntmps48
        go_wp2_with fail
        refine hnamed.mono ?_
        rintro e w1 ⟨rfl, hk⟩
        have HK := Lib.hid hk
        have c2 : w1.cell? ⟨r, 2, none⟩ = some (.bool x.off) := Blk.cell (H.out.keptNo hk).blk rfl
        rw [hoff] at c2
        have hat := r_at r _ x n w1 (H.out.keptNo hk)
        have H1 := Lib.hid (H.out.keptNo hk)
        rw [hfile] at hat
        have HFI := Lib.hid hfile
        obtain ⟨i, hi⟩ : ∃ i, rank n x.files = i := ⟨_, rfl⟩
        rw [hi] at hat hp
        have hil := (List.getElem?_eq_some_iff.1 hp).1
        have Bi : (i : Int) < (x.files.length : Int) := by omega
        have HP := Lib.hid hp
        have HI := Lib.hid hi
        have HRB := Lib.hid hrb
        clear hk hnamed hoff hfile hp hi hrb
        go_wp2_with fail
        refine hat.mono ?_
        rintro e w2 ⟨rfl, hk⟩
        have HK2 := Lib.hid (HK.out.trans' hk)
        have H2 := Lib.hid (H1.out.keptNo hk)
        clear hat hk c2
        go_wp2_with fail
        by_cases hf : x.fuse = 0
        · have HZ3 : Hid (Z = (50, { x with off := true })) := Lib.hid (by rw [HZ.out]; unfold stepD; rw [if_pos hf])
          refine (r_step_out r _ x _ H2.out.blk hf).mono ?_
          rintro e w3 ⟨rfl, hb, hk⟩
          have H3 := Lib.hid (H2.out.turned hk hb rfl (H2.out.ok.off true))
          have HK3 := Lib.hid (HK2.out.any.trans hk (fun k _ e => (HF.out k).2 (.inl e)))
          clear hb hk hf
          go_wp2_with fail
          go_ret
          rw [HZ3.out]
          exact ⟨rfl, F, ⟨_, H3.out, HF.out⟩, HK3.out, fun k hk => .inl hk⟩
        · have HZ3 : Hid (Z = (0, { stepped x with files := ins n (syncF f) x.files })) := Lib.hid (by rw [HZ.out]; unfold stepD; rw [if_neg hf]; rfl)
          refine (r_step r _ x _ H2.out.blk H2.out.ok hf).mono ?_
          rintro e w3 ⟨rfl, hb, hk⟩
          have H3 := Lib.hid (H2.out.turned (y := stepped x) hk hb rfl H2.out.ok.stepped)
          have HK3 := Lib.hid (HK2.out.any.trans hk (fun k _ e => (HF.out k).2 (.inl e)))
          clear hb hk hf
          have c4 : w3.cell? ⟨r, 0, none⟩ = some (.slice (some ⟨g, 0, none⟩) x.files.length c) := Blk.cell H3.out.blk rfl
          obtain ⟨g', he, _, hcell, hfr⟩ := H3.out.row.cell HP.out
          injection he with he; injection he with he
          subst he
          obtain ⟨TL, hTL⟩ : ∃ t, bs (f.bytes.take f.sure) = t := ⟨_, rfl⟩
          obtain ⟨TW, hTW⟩ : ∃ t, bs (f.bytes.drop f.sure) = t := ⟨_, rfl⟩
          have hsum : TL ++ TW = bs f.bytes := by rw [← hTL, ← hTW, bs_append, List.take_append_drop]
          have hno : ¬ 9223372036854775807 < TL.size + TW.size := by
            have h1 : (TL ++ TW).size = TL.size + TW.size := ByteArray.size_append
            rw [hsum, bs_size] at h1
            have := (HOK.out.at HFI.out).1.2
            omega
          have c5 : w3.cell? ⟨g, i * 4 + 1, none⟩ = some (.string TL) := by rw [← hTL]; exact hcell 1 _ rfl
          have c6 : w3.cell? ⟨g, i * 4 + 2, none⟩ = some (.string TW) := by rw [← hTW]; exact hcell 2 _ rfl
          have c7 : w3.cell? ⟨g, i * 4 + 3, none⟩ = some (.bool f.old) := hcell 3 _ rfl
          have f5 := hfr (i * 4 + 1)
          have f6 := hfr (i * 4 + 2)
          have f7 := hfr (i * 4 + 3)
          have hne : r ≠ g := by
            rintro rfl
            exact H3.out.ne HRB.out
          have HS := Lib.hid hsum
          clear hsum hTL hTW hcell hfr
          go_wp2_with fail
          refine Reg.wp_region_plan [⟨0, false, []⟩, ⟨1, false, []⟩, ⟨2, false, []⟩, ⟨3, false, []⟩, ⟨4, false, []⟩, ⟨5, false, []⟩, ⟨6, false, []⟩, ⟨7, false, []⟩, ⟨8, false, []⟩, ⟨9, false, []⟩, ⟨10, false, []⟩, ⟨11, false, []⟩, ⟨12, false, []⟩, ⟨13, false, []⟩, ⟨14, false, []⟩, ⟨15, false, []⟩, ⟨16, false, []⟩, ⟨17, false, []⟩, ⟨18, false, []⟩, ⟨19, true, []⟩] rfl (by kernel_rfl) ?_
          repeat (first | (refine Reg.look rfl rfl rfl (by go_simp; rfl) rfl ?_; go_simp) | (refine Reg.skip rfl rfl rfl ?_; go_simp))
          refine Reg.act rfl ?_
          go_wp2_with fail
          refine ⟨Reg.anew_nil, ?_⟩
          (refine Reg.done ?_; simp only [Exit.then])
          go_wp2_with fail
          go_ret
          rw [HZ3.out, HS.out]
          have hset : x.files.set i (n, syncF f) = ins n (syncF f) x.files := by
            rw [← HI.out]; exact (ins_over _ HOK.out.rising HFI.out).symm
          have h9 := RIn.sync H3.out HP.out (by
            show OkD { stepped x with files := x.files.set i (n, syncF f) }
            rw [hset]
            exact H3.out.ok.put n _ HN80.out (syncF_ok (HOK.out.at HFI.out).1))
          rw [show (stepped x).files.set i (n, syncF f) = ins n (syncF f) x.files from hset] at h9
          refine ⟨rfl, F, ⟨_, h9.keptNo ((Kp.refl _ _).drew), HF.out⟩, ?_, fun k hk => .inl hk⟩
          have hg : F g := (HF.out g).2 (.inr HRB.out)
          exact (((HK3.out.setCell (p := ⟨g, i * 4 + 1, none⟩) (fun _ => hg) _).setCell (p := ⟨g, i * 4 + 2, none⟩) (fun _ => hg) _).setCell (p := ⟨g, i * 4 + 3, none⟩) (fun _ => hg) _).drew
end

section
open Go.RowKit Go.ChangeShapes Go.WideShapes Go.ChangeAt

theorem RIn.anew2 {w : World} {r : Nat} {v : Value} {x : DV} {w9 : World} {v9 : Value} {l : List (ByteArray × FV)} (h : RIn w r v x) (hk : Kp No w w9) (hrs : RSf w9 v9 l) (hb : ∀ k, rblk v9 = some k → k ≠ r) (ho : OkD { x with files := l }) (hsh : Shp v9) :
    RIn (w9.setCell ⟨r, 0, none⟩ v9) r v9 { x with files := l } ∧ Kp (· = r) w (w9.setCell ⟨r, 0, none⟩ v9) := by
  have h1 := h.keptNo hk
  refine ⟨⟨Blk.set h1.blk 0 v9, ?_, ho, hsh⟩, (hk.any (S := (· = r))).setCell (p := ⟨r, 0, none⟩) (fun _ => rfl) _⟩
  exact RSf.kept (S := (· = r)) hrs ((Kp.refl (· = r) w9).setCell (p := ⟨r, 0, none⟩) (fun _ => rfl) _) (fun k hk e => hb k hk e)

set_option maxRecDepth 100000 in
set_option maxHeartbeats 1000000 in
theorem r_remove (r : Nat) (x : DV) (F : Nat → Prop) (n : ByteArray) (w : World) (h : RAt w r x F) (hn : n.size ≤ maxLen) (hx : x.files.length ≤ 1000000) :
    Calls Tryz.prog 35 #[.pointer (some ⟨r, 0, none⟩), .string n] w fun e w' => e = .returned (.int .i64 (removeD n x).1) ∧ ∃ F', RAt w' r (removeD n x).2 F' ∧ Upd F w w' F' := by
  obtain ⟨v, h, hF⟩ := h
  have H := Lib.hid h
  have HA0 : Hid (RAt w r x F) := Lib.hid ⟨v, h, hF⟩
  have HF := Lib.hid hF
  have hnamed := r_named n hn w
  have HOK := Lib.hid h.ok
  clear h hF
  have hn80 : fineN n = true → n.size ≤ 80 := by
    intro h
    unfold fineN at h
    simp only [Bool.and_eq_true, decide_eq_true_eq] at h
    exact h.2.1
  cases hfn : fineN n with
  | false =>
    have e : removeD n x = (1, x) := by unfold removeD knownD readyD; rw [hfn]; rfl
    rw [e]
    rw [hfn] at hnamed
    clear e hfn hn80
    go_enter Tryz.func35, Tryz.ntmps35
    go_wp2_with fail
    refine hnamed.mono ?_
    rintro e w1 ⟨rfl, hk⟩
    have HK := Lib.hid hk
    clear hk hnamed
    go_wp2_with fail
    go_ret
    exact ⟨rfl, F, HA0.out.keptNo HK.out, HK.out.any, fun k hk => .inl hk⟩
  | true =>
    rw [hfn] at hnamed
    have HN80 := Lib.hid (hn80 hfn)
    clear hn80
    cases hoff : x.off with
    | true =>
      have e : removeD n x = (50, x) := by unfold removeD knownD readyD; rw [hfn, hoff]; rfl
      rw [e]
      clear e hfn
      go_enter Tryz.func35, Tryz.ntmps35
      go_wp2_with fail
      refine hnamed.mono ?_
      rintro e w1 ⟨rfl, hk⟩
      have HK := Lib.hid hk
      have c2 : w1.cell? ⟨r, 2, none⟩ = some (.bool x.off) := Blk.cell (H.out.keptNo hk).blk rfl
      rw [hoff] at c2
      clear hk hnamed hoff
      go_wp2_with fail
      go_ret
      exact ⟨rfl, F, HA0.out.keptNo HK.out, HK.out.any, fun k hk => .inl hk⟩
    | false =>
      cases hfile : mget n x.files with
      | none =>
        have e : removeD n x = (51, x) := by unfold removeD knownD readyD fileD; rw [hfn, hoff, hfile]; rfl
        rw [e]
        clear e hfn
        go_enter Tryz.func35, Tryz.ntmps35
        go_wp2_with fail
        refine hnamed.mono ?_
        rintro e w1 ⟨rfl, hk⟩
        have HK := Lib.hid hk
        have c2 : w1.cell? ⟨r, 2, none⟩ = some (.bool x.off) := Blk.cell (H.out.keptNo hk).blk rfl
        rw [hoff] at c2
        have hat := r_at r v x n w1 (H.out.keptNo hk)
        rw [hfile] at hat
        clear hk hnamed hoff hfile
        go_wp2_with fail
        refine hat.mono ?_
        rintro e w2 ⟨rfl, hk⟩
        have HK2 := Lib.hid (HK.out.trans' hk)
        clear hat hk c2
        go_wp2_with fail
        go_ret
        exact ⟨rfl, F, HA0.out.keptNo HK2.out, HK2.out.any, fun k hk => .inl hk⟩
      | some f =>
        obtain ⟨g, c, rfl, hc, hrb⟩ := H.out.file hfile
        have hp := rank_at HOK.out.rising hfile
        obtain ⟨Z, hZ⟩ : ∃ Z, removeD n x = Z := ⟨_, rfl⟩
        rw [hZ]
        have HZ : Hid (Z = stepD x fun y => { y with files := mdel n y.files }) := Lib.hid (by rw [← hZ]; unfold removeD knownD readyD fileD; rw [hfn, hoff, hfile]; rfl)
        clear hZ hfn
        go_enter Tryz.func35, Tryz.ntmps35
        go_wp2_with fail
        refine hnamed.mono ?_
        rintro e w1 ⟨rfl, hk⟩
        have HK := Lib.hid hk
        have c2 : w1.cell? ⟨r, 2, none⟩ = some (.bool x.off) := Blk.cell (H.out.keptNo hk).blk rfl
        rw [hoff] at c2
        have hat := r_at r _ x n w1 (H.out.keptNo hk)
        have H1 := Lib.hid (H.out.keptNo hk)
        rw [hfile] at hat
        have HFI := Lib.hid hfile
        obtain ⟨i, hi⟩ : ∃ i, rank n x.files = i := ⟨_, rfl⟩
        rw [hi] at hat hp
        have hil := (List.getElem?_eq_some_iff.1 hp).1
        have Bi : (i : Int) < (x.files.length : Int) := by omega
        have HP := Lib.hid hp
        have HI := Lib.hid hi
        have HRB := Lib.hid hrb
        clear hk hnamed hoff hfile hp hi hrb
        go_wp2_with fail
        refine hat.mono ?_
        rintro e w2 ⟨rfl, hk⟩
        have HK2 := Lib.hid (HK.out.trans' hk)
        have H2 := Lib.hid (H1.out.keptNo hk)
        clear hat hk c2
        go_wp2_with fail
        by_cases hf : x.fuse = 0
        · have HZ3 : Hid (Z = (50, { x with off := true })) := Lib.hid (by rw [HZ.out]; unfold stepD; rw [if_pos hf])
          refine (r_step_out r _ x _ H2.out.blk hf).mono ?_
          rintro e w3 ⟨rfl, hb, hk⟩
          have H3 := Lib.hid (H2.out.turned hk hb rfl (H2.out.ok.off true))
          have HK3 := Lib.hid (HK2.out.any.trans hk (fun k _ e => (HF.out k).2 (.inl e)))
          clear hb hk hf
          go_wp2_with fail
          go_ret
          rw [HZ3.out]
          exact ⟨rfl, F, ⟨_, H3.out, HF.out⟩, HK3.out, fun k hk => .inl hk⟩
        · have HZ3 : Hid (Z = (0, { stepped x with files := mdel n x.files })) := Lib.hid (by rw [HZ.out]; unfold stepD; rw [if_neg hf]; rfl)
          refine (r_step r _ x _ H2.out.blk H2.out.ok hf).mono ?_
          rintro e w3 ⟨rfl, hb, hk⟩
          have H3 := Lib.hid (H2.out.turned (y := stepped x) hk hb rfl H2.out.ok.stepped)
          have HK3 := Lib.hid (HK2.out.any.trans hk (fun k _ e => (HF.out k).2 (.inl e)))
          clear hb hk hf
          have c4 : w3.cell? ⟨r, 0, none⟩ = some (.slice (some ⟨g, 0, none⟩) x.files.length c) := Blk.cell H3.out.blk rfl
          have hdel : mdel n x.files = x.files.take i ++ x.files.drop (i + 1) := by rw [← HI.out]; exact mdel_at HOK.out.rising HFI.out
          have F3 := Blk.fr H3.out.blk 0
          have HDEL := Lib.hid hdel
          clear hdel
          have hne : g ≠ r := fun e => H3.out.ne (e ▸ HRB.out)
          have hwr : IntKind.i64.wrap ((i : Int) + 1) = (i : Int) + 1 := wrap_i64 (by omega) (by omega)
          by_cases hl : x.files.length = i + 1
          · have hic : i ≤ c := by omega
            have hic2 : i + 1 ≤ c := by omega
            have h9 : ∀ w9, Kp No w3 w9 → RIn (w9.setCell ⟨r, 0, none⟩ (.slice (some ⟨g, 0, none⟩) i i)) r (.slice (some ⟨g, 0, none⟩) i i) { stepped x with files := mdel n x.files } ∧ Kp (· = r) w3 (w9.setCell ⟨r, 0, none⟩ (.slice (some ⟨g, 0, none⟩) i i)) := by
              intro w9 hk9
              have hd : mdel n x.files = x.files.take i := by
                rw [HDEL.out, List.drop_eq_nil_of_le (by omega), List.append_nil]
              have ho := H3.out.ok.del n
              rw [show (stepped x).files = x.files from rfl, hd] at ho
              rw [hd]
              refine H3.out.anew2 hk9 ((H3.out.row.take (l := x.files) (by omega)).keptNo hk9) (fun k hk => ?_) ho (.inr ⟨_, _, _, rfl⟩)
              have hk : (if i = 0 then none else some g) = some k := hk
              split at hk
              · cases hk
              · injection hk with hk; rw [← hk]; exact hne
            have H9 := Lib.hid h9
            clear h9
            rw [hl] at c4
            go_wp2_with fail
            refine Reg.wp_region_plan [⟨0, false, []⟩, ⟨1, false, []⟩, ⟨2, false, []⟩, ⟨3, false, []⟩, ⟨4, false, []⟩, ⟨5, false, []⟩, ⟨6, false, []⟩, ⟨7, false, []⟩, ⟨8, false, []⟩, ⟨9, false, []⟩, ⟨10, false, []⟩, ⟨11, false, []⟩, ⟨12, false, []⟩, ⟨13, false, []⟩, ⟨14, false, []⟩, ⟨15, true, []⟩, ⟨16, false, []⟩, ⟨17, false, []⟩, ⟨18, true, []⟩] rfl (by kernel_rfl) ?_
            repeat (first | (refine Reg.look rfl rfl rfl (by go_simp; rfl) rfl ?_; go_simp) | (refine Reg.skip rfl rfl rfl ?_; go_simp))
            refine Reg.act rfl ?_
            refine wpList_append_none rfl _ (.tmp 32) (.tmp 39) 67 100 rfl 4 56 el_rf (some ⟨g, 0, none⟩) i i (Nat.le_refl _) rfl (if c = i + 1 then some ⟨g, 0, none⟩ else some ⟨g, (i + 1) * 4, none⟩) (c - (i + 1)) rfl ?_
            go_wp2_with fail
            all_goals
              refine ⟨Reg.anew_nil, ?_⟩
              repeat (first | (refine Reg.look rfl rfl rfl (by go_simp; rfl) rfl ?_; go_simp) | (refine Reg.skip rfl rfl rfl ?_; go_simp))
              refine Reg.act rfl ?_
              go_wp2_with fail
              refine ⟨Reg.anew_nil, ?_⟩
              (refine Reg.done ?_; simp only [Exit.then])
              go_wp2_with fail
              go_ret
              obtain ⟨h10, hk10⟩ := H9.out w3.drew ((Kp.refl _ _).drew)
              rw [HZ3.out]
              refine ⟨rfl, fun k => k = r ∨ rblk (.slice (some ⟨g, 0, none⟩) i i) = some k, ⟨_, h10, fun k => Iff.rfl⟩, HK3.out.trans hk10 (fun k _ e => (HF.out k).2 (.inl e)), fun k hk => .inl ?_⟩
              rcases hk with rfl | hk
              · exact (HF.out _).2 (.inl rfl)
              · have hk : (if i = 0 then none else some g) = some k := hk
                split at hk
                · cases hk
                · injection hk with hk; rw [← hk]; exact (HF.out g).2 (.inr HRB.out)
          · have hci : ¬ c = i + 1 := by omega
            have hil2 : (i : Int) + 1 ≤ (x.files.length : Int) := by omega
            have hic : i ≤ c := by omega
            have hcut := (H3.out.keptNo ((Kp.refl No w3).drew)).row.cutR (l := x.files) (i := i + 1) (by omega)
            have hhead := (H3.out.keptNo ((Kp.refl No w3).drew)).row.headR (l := x.files) (i := i) (by omega)
            rw [if_neg hci] at hcut
            have hdl : (x.files.drop (i + 1)).length = x.files.length - (i + 1) := List.length_drop ..
            have htl : (x.files.take i).length = i := by rw [List.length_take]; omega
            obtain ⟨D, hD⟩ : ∃ D, x.files.drop (i + 1) = D := ⟨_, rfl⟩
            obtain ⟨T, hT⟩ : ∃ T, x.files.take i = T := ⟨_, rfl⟩
            rw [hD] at hcut hdl
            rw [hT] at hhead htl
            have HDEL2 : Hid (mdel n x.files = T ++ D) := Lib.hid (by rw [HDEL.out, hD, hT])
            have HCUT := Lib.hid hcut
            have HHEAD := Lib.hid hhead
            have HDL := Lib.hid hdl
            have HTL := Lib.hid htl
            clear hcut hhead hdl htl hD hT
            go_wp2_with fail
            refine Reg.wp_region_plan [⟨0, false, []⟩, ⟨1, false, []⟩, ⟨2, false, []⟩, ⟨3, false, []⟩, ⟨4, false, []⟩, ⟨5, false, []⟩, ⟨6, false, []⟩, ⟨7, false, []⟩, ⟨8, false, []⟩, ⟨9, false, []⟩, ⟨10, false, []⟩, ⟨11, false, []⟩, ⟨12, false, []⟩, ⟨13, false, []⟩, ⟨14, false, []⟩, ⟨15, true, []⟩, ⟨16, false, []⟩, ⟨17, false, []⟩, ⟨18, true, []⟩] rfl (by kernel_rfl) ?_
            repeat (first | (refine Reg.look rfl rfl rfl (by go_simp; rfl) rfl ?_; go_simp) | (refine Reg.skip rfl rfl rfl ?_; go_simp))
            refine Reg.act rfl ?_
            refine wpList_append_full (E := Rp.rf) rfl w3.drew (.tmp 32) (.tmp 39) 67 rfl 100 56 el_rf (fun k => k < w3.drew.heap.size) (some ⟨g, 0, none⟩) T ?hx1 HHEAD.out (some ⟨g, (i + 1) * 4, none⟩) (c - (i + 1)) D ?hx2 HCUT.out ?h0 Rp.rf_one ?hcap1 ?hby1 ?_
            case hx1 => rw [HTL.out]; rfl
            case hx2 => rw [HDL.out]; rfl
            case h0 => have := HDL.out; omega
            case hcap1 => have := HTL.out; have := HDL.out; simp [maxLen]; omega
            case hby1 => have := HTL.out; have := HDL.out; omega
            intro A8 c8 w8 hown8 hk8
            have hk9 : Kp No w3 w8 := ((Kp.refl _ _).drew).trans' hk8
            obtain ⟨hrs, hbs⟩ := RSf.of_own hown8
            have ho := H3.out.ok.del n
            rw [show (stepped x).files = x.files from rfl, HDEL2.out] at ho
            have hbs' : ∀ k, rblk (.slice A8 (T ++ D).length c8) = some k → w3.heap.size ≤ k := fun k hk => hbs k hk
            have h9 := H3.out.anew hk9 hrs hbs' ho (Shp.of_own hown8)
            have c8' : w8.cell? ⟨r, 0, none⟩ = some _ := Blk.cell (H3.out.keptNo hk9).blk rfl
            have f8' := Blk.fr (H3.out.keptNo hk9).blk 0
            obtain ⟨L8, hV8⟩ : ∃ V, (T ++ D).length = V := ⟨_, rfl⟩
            rw [hV8] at h9 hbs'
            rw [hV8]
            rw [← HDEL2.out] at h9
            have H9 := Lib.hid h9
            have HB9 := Lib.hid hbs'
            clear h9 hbs' ho hrs hbs hown8 hk8 c4 F3 hV8
            go_wp2_with fail
            refine ⟨Reg.anew_nil, ?_⟩
            repeat (first | (refine Reg.look rfl rfl rfl (by go_simp; rfl) rfl ?_; go_simp) | (refine Reg.skip rfl rfl rfl ?_; go_simp))
            refine Reg.act rfl ?_
            go_wp2_with fail
            refine ⟨Reg.anew_nil, ?_⟩
            (refine Reg.done ?_; simp only [Exit.then])
            go_wp2_with fail
            go_ret
            rw [HZ3.out]
            obtain ⟨h10, hk10⟩ := H9.out
            refine ⟨rfl, fun k => k = r ∨ rblk (.slice A8 L8 c8) = some k, ⟨_, h10, fun k => Iff.rfl⟩, HK3.out.trans hk10 (fun k _ e => (HF.out k).2 (.inl e)), fun k hk => ?_⟩
            rcases hk with rfl | hk
            · exact .inl ((HF.out _).2 (.inl rfl))
            · have := HB9.out k hk
              have := HK3.out.size
              right; omega
end

section
open Go.RowKit Go.ChangeShapes Go.WideShapes Go.ChangeAt

end

section
open Go.RowKit Go.ChangeShapes Go.WideShapes Go.ChangeAt

theorem prefixed_ext {p s : ByteArray} (_h : p.size ≤ s.size) : ((s.extract 0 p.size).toList == p.toList) = prefixed p s := by
  unfold prefixed
  rw [ByteArray.toList_eq, ByteArray.toList_eq, Bool.eq_iff_iff, beq_iff_eq, List.isPrefixOf_iff_prefix, List.prefix_iff_eq_take]
  simp only [ByteArray.data_extract, Array.toList_extract, List.extract_eq_take_drop, List.drop_zero, Nat.sub_zero, data_length]
  exact eq_comm
theorem prefixed_short {p s : ByteArray} (h : ¬ p.size ≤ s.size) : prefixed p s = false := by
  unfold prefixed
  rw [Bool.eq_false_iff, ne_eq, List.isPrefixOf_iff_prefix]
  intro hp
  have := hp.length_le
  rw [data_length, data_length] at this
  exact h this
set_option maxRecDepth 100000 in
set_option maxHeartbeats 1000000 in
theorem r_names (r : Nat) (x : DV) (F : Nat → Prop) (p : ByteArray) (w : World) (h : RAt w r x F) (hx : x.files.length ≤ 1000000) :
    Calls Tryz.prog 32 #[.pointer (some ⟨r, 0, none⟩), .string p] w fun e w' => ∃ A c, e = .returned (.slice A (namesD p x).length c) ∧ Own Rp.str w' No w.heap.size 9 (.slice A (namesD p x).length c) (namesD p x) ∧ Kp No w w' := by
  obtain ⟨v, h, _⟩ := h
  obtain ⟨A0, c0, rfl, hc1, hc2, _⟩ := id h.row
  have H := Lib.hid h
  have HX := Lib.hid hx
  clear h hc1 hc2 hx
  cases hoff : x.off with
  | true =>
    have e : namesD p x = [] := by unfold namesD; rw [hoff]; rfl
    rw [e]
    have d2 : w.cell? ⟨r, 2, none⟩ = some (.bool x.off) := Blk.cell H.out.blk rfl
    have d0 : w.cell? ⟨r, 0, none⟩ = some _ := Blk.cell H.out.blk rfl
    rw [hoff] at d2
    clear e hoff
    go_enter Tryz.func32, Tryz.ntmps32
    go_wp2_with fail
    go_loopw [5, 6] (fun ov iv wr => ov = .slice none 0 0 ∧ iv = .int .i64 0 ∧ wr = w) (fun _ _ _ => 0)
    case atStart => exact ⟨rfl, rfl, rfl⟩
    case round =>
      obtain ⟨rfl, rfl, rfl⟩ := hrel
      go_wp2_with fail
      all_goals
        go_ret
        exact ⟨none, 0, rfl, Own.nil _ _ _ _ _, Kp.refl _ _⟩
  | false =>
    have e : namesD p x = (x.files.map (·.1)).filter (prefixed p) := by unfold namesD; rw [hoff]; rfl
    rw [e]
    obtain ⟨N, hN⟩ : ∃ N, x.files.map (·.1) = N := ⟨_, rfl⟩
    rw [hN]
    have hNl : N.length = x.files.length := by rw [← hN, List.length_map]
    have HN := Lib.hid hN
    have HX2 : Hid (N.length ≤ 1000000) := Lib.hid (by rw [hNl]; exact HX.out)
    have d2 : w.cell? ⟨r, 2, none⟩ = some (.bool x.off) := Blk.cell H.out.blk rfl
    have d0 : w.cell? ⟨r, 0, none⟩ = some (.slice A0 x.files.length c0) := Blk.cell H.out.blk rfl
    rw [hoff] at d2
    rw [← hNl] at d0
    have HNL := Lib.hid hNl
    have HOF := Lib.hid hoff
    clear e hoff hN hNl
    go_enter Tryz.func32, Tryz.ntmps32
    go_wp2_with fail
    clear d0 d2
    go_loopw [5, 6] (fun ov iv wr => ∃ (i : Nat) (A : Option Addr) (c : Nat), i ≤ N.length ∧ iv = .int .i64 (i : Int) ∧ ov = .slice A ((N.take i).filter (prefixed p)).length c ∧ Own Rp.str wr No w.heap.size 9 (.slice A ((N.take i).filter (prefixed p)).length c) ((N.take i).filter (prefixed p)) ∧ Kp No w wr) (fun _ iv _ => N.length - (intOf iv).toNat)
    case atStart => exact ⟨0, none, 0, Nat.zero_le _, rfl, rfl, Own.nil _ _ _ _ _, Kp.refl _ _⟩
    case round =>
      obtain ⟨i, A, c, hi, rfl, rfl, hown, hk⟩ := hrel
      have hr := H.out.keptNo hk
      have d2 : wr.cell? ⟨r, 2, none⟩ = some (.bool false) := by rw [← HOF.out]; exact Blk.cell hr.blk rfl
      have d0 : wr.cell? ⟨r, 0, none⟩ = some (.slice A0 N.length c0) := by rw [HNL.out]; exact Blk.cell hr.blk rfl
      have HO := Lib.hid hown
      have HK := Lib.hid hk
      have hNl := HX2.out
      clear hown hk
      by_cases hlt : i < N.length
      · have hli : (i : Int) < (N.length : Int) := by omega
        obtain ⟨q, hq⟩ : ∃ q, x.files[i]? = some q := ⟨_, List.getElem?_eq_getElem (by rw [← HNL.out]; exact hlt)⟩
        have hy : N[i]? = some q.1 := by rw [← HN.out, List.getElem?_map, hq]; rfl
        have hst := filter_take (p := prefixed p) hy
        obtain ⟨g, rfl, _, hcell, _⟩ := hr.row.cell hq
        have c1 : wr.cell? ⟨g, i * 4, none⟩ = some (.string q.1) := hcell 0 _ rfl
        obtain ⟨y, hyy⟩ : ∃ y, q.1 = y := ⟨_, rfl⟩
        have HY8 : Hid (y.size ≤ 80) := Lib.hid (by rw [← hyy]; exact (H.out.ok.file q (List.mem_of_getElem? hq)).2)
        rw [hyy] at c1 hst
        obtain ⟨D, hD⟩ : ∃ D, (N.take i).filter (prefixed p) = D := ⟨_, rfl⟩
        rw [hD] at HO hst
        rw [hD]
        have hDl : D.length ≤ 1000000 := by rw [← hD]; exact Nat.le_trans (List.length_filter_le _ _) (by rw [List.length_take]; omega)
        clear hy hcell hr hq hyy hD
        by_cases hle : (p.size : Int) ≤ (y.size : Int)
        · have hext := prefixed_ext (p := p) (s := y) (by omega)
          cases hpy : prefixed p y with
          | true =>
            rw [hpy] at hext hst
            simp only [if_true] at hst
            have HST := Lib.hid hst
            clear hst hpy
            go_wp2_with (at_builtin; refine wpList_append_lit Rp.str_by rfl _ (.tmp 45) (.tmp 47) 22 rfl w.heap.size 9 16 el_names (.slice A D.length c) D rfl No ?d0 wr.heap.size [y] rfl _ _ _ (heap_alloc_new _ _) ?d1 ?d2 ?d3 ?d4 ?d5 ?d6 ?_)
            case d0 => exact HO.out.alloc _
            case d2 => intro a ha; simp only [List.mem_cons, List.not_mem_nil, or_false] at ha; subst ha; have := HY8.out; unfold maxLen; omega
            case d3 => simp [maxLen]; omega
            case d4 => simp; omega
            case d5 => have := HK.out.size; simp; omega
            case d6 => intro h; have := (HO.out.lt _ h).2; omega
            intro A3 c3 w6 hown hk6
            have HO6 := Lib.hid hown
            have HK6 := Lib.hid ((HK.out.alloc _).trans hk6 (fun i hi hv => absurd (HO.out.lt i hv).1 (by omega)))
            clear hown hk6 HO HK
            go_wp2_with fail
            go_roundw
            case rel => exact ⟨i + 1, A3, c3, by omega, by go_num, by rw [HST.out]; simp, by rw [HST.out, show (D ++ [y]).length = D.length + 1 by simp]; exact HO6.out, HK6.out⟩
            case measure => simp [intOf]; omega
          | false =>
            rw [hpy] at hext hst
            simp only [Bool.false_eq_true, if_false, List.append_nil] at hst
            have HST := Lib.hid hst
            clear hst hpy
            go_wp2_with fail
            go_roundw
            case rel => exact ⟨i + 1, A, c, by omega, by go_num, by rw [HST.out], by rw [HST.out]; exact HO.out, HK.out⟩
            case measure => simp [intOf]; omega
        · have hpy := prefixed_short (p := p) (s := y) (by omega)
          rw [hpy] at hst
          simp only [Bool.false_eq_true, if_false, List.append_nil] at hst
          have HST := Lib.hid hst
          clear hst hpy
          go_wp2_with fail
          go_roundw
          case rel => exact ⟨i + 1, A, c, by omega, by go_num, by rw [HST.out], by rw [HST.out]; exact HO.out, HK.out⟩
          case measure => simp [intOf]; omega
      · obtain rfl : i = N.length := by omega
        rw [List.take_length] at HO
        rw [List.take_length]
        go_wp2_with fail
        go_ret
        exact ⟨A, c, rfl, HO.out, HK.out⟩
end

section
open Go.RowKit Go.ChangeShapes Go.WideShapes Go.ChangeAt

theorem RIn.two {w : World} {r g m c : Nat} {y : DV} (h : RIn w r (.slice (some ⟨g, 0, none⟩) m c) y) {i : Nat} {n : ByteArray} {f f' : FV} (hp : y.files[i]? = some (n, f)) {u1 u2 : Value} (he : ((enc4 (n, f)).set 1 u1).set 2 u2 = enc4 (n, f')) (ho : OkD { y with files := y.files.set i (n, f') }) :
    RIn ((w.setCell ⟨g, i * 4 + 1, none⟩ u1).setCell ⟨g, i * 4 + 2, none⟩ u2) r (.slice (some ⟨g, 0, none⟩) m c) { y with files := y.files.set i (n, f') } := by
  have hne : g ≠ r := by
    obtain ⟨g', he, hb, _⟩ := h.row.cell hp
    injection he with he; injection he with he
    subst he
    rintro rfl
    exact h.ne hb
  have hil := (List.getElem?_eq_some_iff.1 hp).1
  have he0 : (y.files.map enc4)[i]? = some (enc4 (n, f)) := by rw [List.getElem?_map, hp]; rfl
  have h1 := h.row.toE.set he0 (j := 1) (u := u1) (by decide)
  have h2 := h1.set (i := i) (e := (enc4 (n, f)).set 1 u1) (j := 2) (u := u2) (by rw [List.getElem?_set, if_pos rfl, if_pos (by rw [List.length_map]; exact hil)]) (by decide)
  rw [List.set_set, he, ← List.map_set] at h2
  have hk : Kp (· = g) w ((w.setCell ⟨g, i * 4 + 1, none⟩ u1).setCell ⟨g, i * 4 + 2, none⟩ u2) :=
    ((Kp.refl (· = g) w).setCell (p := ⟨g, i * 4 + 1, none⟩) (fun _ => rfl) _).setCell (p := ⟨g, i * 4 + 2, none⟩) (fun _ => rfl) _
  exact ⟨Blk.kept h.blk hk (fun e => hne e.symm), RSf.ofE h2, ho, h.sh⟩

set_option maxRecDepth 100000 in
set_option maxHeartbeats 1000000 in
theorem r_flip (r : Nat) (x : DV) (F : Nat → Prop) (n : ByteArray) (b : Int) (w : World) (h : RAt w r x F) (hb : (Lit.int .i64 b).wf = true) :
    Calls Tryz.prog 15 #[.pointer (some ⟨r, 0, none⟩), .string n, .int .i64 b] w fun e w' => e = .returned (.int .i64 (flipD n b x).1) ∧ ∃ F', RAt w' r (flipD n b x).2 F' ∧ Upd F w w' F' := by
  have hA := h
  obtain ⟨v, h, hF⟩ := h
  have hat := r_at r v x n w h
  have H := Lib.hid h
  have HF := Lib.hid hF
  have HA0 := Lib.hid hA
  clear h hF hA
  obtain ⟨Z, hZ⟩ : ∃ Z, flipD n b x = Z := ⟨_, rfl⟩
  rw [hZ]
  unfold flipD fileD at hZ
  cases hf : mget n x.files with
  | none =>
    rw [hf] at hat hZ
    simp only at hZ
    have HZ := Lib.hid hZ
    clear hf hZ
    go_enter Tryz.func15, Tryz.ntmps15
    go_wp2_with fail
    refine hat.mono ?_
    rintro e w1 ⟨rfl, hk⟩
    have HK := Lib.hid hk
    clear hat hk
    go_wp2_with fail
    go_ret
    rw [← HZ.out]
    exact ⟨rfl, F, HA0.out.keptNo HK.out, HK.out.any, fun k hk => .inl hk⟩
  | some f =>
    rw [hf] at hat hZ
    simp only at hZ
    obtain ⟨g, c, rfl, hc, hrb⟩ := H.out.file hf
    have hp := rank_at H.out.ok.rising hf
    obtain ⟨i, hi⟩ : ∃ i, rank n x.files = i := ⟨_, rfl⟩
    rw [hi] at hat hp
    have hil := (List.getElem?_eq_some_iff.1 hp).1
    have Bi : (i : Int) < (x.files.length : Int) := by omega
    obtain ⟨TL, hTL⟩ : ∃ t, bs (f.bytes.take f.sure) = t := ⟨_, rfl⟩
    obtain ⟨TW, hTW⟩ : ∃ t, bs (f.bytes.drop f.sure) = t := ⟨_, rfl⟩
    have hfo := (H.out.ok.at hf).1
    have sTL : TL.size = f.sure := by rw [← hTL, bs_size, List.length_take]; have := hfo.1; omega
    have sTW : TW.size = f.bytes.length - f.sure := by rw [← hTW, bs_size, List.length_drop]
    have HFO := Lib.hid hfo
    have HSZ := Lib.hid (And.intro sTL sTW)
    have HP := Lib.hid hp
    have HI := Lib.hid hi
    have HRB := Lib.hid hrb
    have HFI := Lib.hid hf
    have HTL := Lib.hid hTL
    have HTW := Lib.hid hTW
    have HZ := Lib.hid hZ
    have esum : IntKind.i64.wrap ((TL.size : Int) + (TW.size : Int)) = (TL.size : Int) + (TW.size : Int) := wrap_i64 (by omega) (by have := hfo.1; have := hfo.2; omega)
    clear hfo sTL sTW hp hi hrb hf hTL hTW hZ
    go_enter Tryz.func15, Tryz.ntmps15
    go_wp2_with fail
    refine hat.mono ?_
    rintro e w1 ⟨rfl, hk⟩
    have HK := Lib.hid hk
    have h1 := H.out.keptNo hk
    have c0 : w1.cell? ⟨r, 0, none⟩ = some (.slice (some ⟨g, 0, none⟩) x.files.length c) := Blk.cell h1.blk rfl
    obtain ⟨g', he, _, hcell, _⟩ := h1.row.cell HP.out
    injection he with he; injection he with he
    subst he
    have c1 : w1.cell? ⟨g, i * 4, none⟩ = some (.string n) := hcell 0 _ rfl
    have c2 : w1.cell? ⟨g, i * 4 + 1, none⟩ = some (.string TL) := by rw [← HTL.out]; exact hcell 1 _ rfl
    have c3 : w1.cell? ⟨g, i * 4 + 2, none⟩ = some (.string TW) := by rw [← HTW.out]; exact hcell 2 _ rfl
    have c4 : w1.cell? ⟨g, i * 4 + 3, none⟩ = some (.bool f.old) := hcell 3 _ rfl
    clear hat hk h1 hcell
    by_cases hb0 : b < 0
    · go_wp2_with fail
      go_ret
      have e : Z = (1, x) := by rw [← HZ.out]; exact if_pos (.inl hb0)
      rw [e]
      refine ⟨rfl, F, HA0.out.keptNo (HK.out.trans' ((Kp.refl _ _).alloc _)), (HK.out.trans' ((Kp.refl _ _).alloc _)).any, fun k hk => .inl hk⟩
    · obtain ⟨k, rfl⟩ : ∃ k : Nat, b = (k : Int) := ⟨b.toNat, by omega⟩
      have hku : (k : Int) ≤ 9223372036854775807 := (wf64 hb).2
      have hk0 : (0 : Int) ≤ (k : Int) := by omega
      have hb8 : (0 : Int) ≤ (k : Int) / 8 := by omega
      have hw1 : IntKind.i64.wrap ((k : Int) / 8) = (k : Int) / 8 := wrap_i64 (by omega) (by omega)
      clear hb
      by_cases hb1 : f.bytes.length ≤ k / 8
      · have hb1i : (TL.size : Int) + (TW.size : Int) ≤ (k : Int) / 8 := by have := HSZ.out; have := HFO.out.1; omega
        go_wp2_with fail
        go_ret
        have e : Z = (1, x) := by rw [← HZ.out]; exact if_pos (.inr (by omega))
        rw [e]
        exact ⟨rfl, F, HA0.out.keptNo (HK.out.trans' ((Kp.refl _ _).alloc _)), (HK.out.trans' ((Kp.refl _ _).alloc _)).any, fun k hk => .inl hk⟩
      · have hb1i : (k : Int) / 8 < (TL.size : Int) + (TW.size : Int) := by have := HSZ.out; have := HFO.out.1; omega
        have hno : ¬ 9223372036854775807 < TL.size + TW.size := by have := HSZ.out; have := HFO.out.1; have := HFO.out.2; omega
        obtain ⟨rr, hr⟩ : ∃ rr : Nat, k % 8 = rr := ⟨_, rfl⟩
        have hm8 : (k : Int).tmod 8 = (rr : Int) := by rw [Int.tmod_eq_emod_of_nonneg hk0]; omega
        have hr8 : (rr : Int) < 8 := by omega
        have ht8 : ((k : Int) / 8).toNat = k / 8 := by omega
        have hsum : TL ++ TW = bs f.bytes := by rw [← HTL.out, ← HTW.out, bs_append, List.take_append_drop]
        have hM : (TL ++ TW).size = f.bytes.length := by rw [hsum, bs_size]
        obtain ⟨wa, hwa⟩ : ∃ wa, w1.alloc (.cells #[.string n, .string TL, .string TW, .bool f.old] 100) = wa := ⟨_, rfl⟩
        have hka : Kp No w1 wa := by rw [← hwa]; exact (Kp.refl _ _).alloc _
        have hba : Blk wa w1.heap.size 100 [.string n, .string TL, .string TW, .bool f.old] := by rw [← hwa]; exact Blk.new w1 [_, _, _, _] _
        obtain ⟨cb, w2, hcv, hob, hk2⟩ := ownM_text (P := Tryz.prog) wa 88 9 5 (Bytely.of Tryz.underlying88 Tryz.underlying9 Tryz.underlying5 (by kernel_rfl)) (TL ++ TW) (by have := HFO.out.2; omega) wa.heap.size (Nat.le_refl _)
        obtain ⟨G, hG⟩ : ∃ G, wa.heap.size = G := ⟨_, rfl⟩
        obtain ⟨M, hMM⟩ : ∃ M, f.bytes.length = M := ⟨_, rfl⟩
        have hbd : (TL ++ TW).data.toList = f.bytes := by rw [hsum]; rfl
        rw [hbd] at hob
        rw [hM] at hcv
        rw [hG, hMM] at hcv hob
        rw [hMM] at hb1
        have hki : k / 8 < f.bytes.length := by omega
        obtain ⟨z, hz⟩ : ∃ z, f.bytes[k / 8] = z := ⟨_, rfl⟩
        obtain ⟨_, hbf, hbc⟩ := hob.turn hki z
        rw [hz] at hbc
        unfold byteOf at hbc
        have hwS : (M : Int) = (TL.size : Int) + (TW.size : Int) := by have h1 : (TL ++ TW).size = TL.size + TW.size := ByteArray.size_append; omega
        have hmi : (k : Int) / 8 < (M : Int) := by omega
        have HOB := Lib.hid hob
        have HBA := Lib.hid hba
        have HK1A := Lib.hid hka
        have HK2 := Lib.hid hk2
        have HR := Lib.hid hr
        have HG := Lib.hid hG
        have HM := Lib.hid (And.intro hM hMM)
        have HKI := Lib.hid hki
        have HZZ : Hid (∀ h : k / 8 < f.bytes.length, f.bytes[k / 8] = z) := Lib.hid fun _ => hz
        have HW1 := HK1A.out.size
        have HWA := Lib.hid hwa
        clear hwa hob hba hka hk2 hr hM hMM hbd hsum hki hz hG
        go_wp2_with fail
        rw [HWA.out]
        rw [hcv]
        go_wp2_with fail
        refine Reg.wp_region_plan [⟨0, false, []⟩, ⟨1, false, []⟩, ⟨2, false, []⟩, ⟨3, false, []⟩, ⟨4, false, []⟩, ⟨5, false, []⟩, ⟨6, false, []⟩, ⟨7, false, []⟩, ⟨8, false, []⟩, ⟨9, false, []⟩, ⟨10, true, []⟩] rfl (by kernel_rfl) ?_
        repeat (first | (refine Reg.look rfl rfl rfl (by go_simp; rfl) rfl ?_; go_simp) | (refine Reg.skip rfl rfl rfl ?_; go_simp))
        refine Reg.act rfl ?_
        go_wp2_with fail
        refine ⟨Reg.anew_nil, ?_⟩
        (refine Reg.done ?_; simp only [Exit.then])
        go_wp2_with fail
        obtain ⟨w3, hw3⟩ : ∃ w3, (w2.setCell ⟨G, k / 8, none⟩ (.int .u8 (bits .xor .u8 (z.toNat : Int) (2 ^ rr % 256)))).drew = w3 := ⟨_, rfl⟩
        rw [hw3]
        rw [xor_bit z rr (by omega)] at hw3
        obtain ⟨L, hL⟩ : ∃ L, flipB f.bytes k = L := ⟨_, rfl⟩
        have hLl : L.length = M := by rw [← hL, flipB_length]; exact HM.out.2
        have hLs : f.bytes.set (k / 8) (z ^^^ UInt8.ofNat (1 <<< rr)) = L := by rw [← hL, flipB_set f.bytes k HKI.out, HZZ.out, HR.out]
        have hob3 := (HOB.out.turn HKI.out (z ^^^ UInt8.ofNat (1 <<< rr))).1
        rw [hLs] at hob3
        have hob3 := hob3.keptNo ((Kp.refl No _).drew)
        rw [hw3] at hob3
        have hba2 := HBA.out.kept HK2.out (fun x => x)
        have hlt := HBA.out.lt
        have hGG := HG.out
        have hwlt := HK.out.size
        have hk02 := (HK.out.trans' HK1A.out).trans' HK2.out
        have hk23 : Kp (· = G) w2 w3 := by rw [← hw3]; exact ((Kp.refl (· = G) w2).setCell (p := ⟨G, k / 8, none⟩) (fun _ => rfl) _).drew
        have hk03 : Kp No w w3 := by rw [← hw3]; exact (hk02.setCell (p := ⟨G, k / 8, none⟩) (fun hlt => absurd (show G < w.heap.size from hlt) (by omega)) _).drew
        have hba3 := hba2.kept hk23 (show w1.heap.size ≠ G by omega)
        have h3 := H.out.keptNo hk03
        have hrlt := Blk.lt H.out.blk
        obtain ⟨g', he, hrb, hcell, hfr⟩ := h3.row.cell HP.out
        injection he with he; injection he with he
        subst he
        have hglt := H.out.row.lt HRB.out
        have c03 : w3.cell? ⟨r, 0, none⟩ = some (.slice (some ⟨g, 0, none⟩) x.files.length c) := Blk.cell h3.blk rfl
        have c13 : w3.cell? ⟨w1.heap.size, 1, none⟩ = some (.string TL) := hba3.cell rfl
        have c23 : w3.cell? ⟨g, i * 4 + 1, none⟩ = some _ := hcell 1 _ rfl
        have f23 := hfr (i * 4 + 1)
        have hby := Bytely.of Tryz.underlying88 Tryz.underlying9 Tryz.underlying5 (by kernel_rfl)
        have hTLM : TL.size ≤ L.length := by omega
        have hcbM : M ≤ cb := by obtain ⟨_, _, he, h⟩ := hob3.shape; injection he with _ _ he; omega
        have hTcb : TL.size ≤ cb := by omega
        have hv9 := ((hob3.keptNo ((Kp.refl No _).drew)).head hTLM).run_back 88 9 hby
        obtain ⟨TA, hTA⟩ : ∃ t, bs (L.take TL.size) = t := ⟨_, rfl⟩
        rw [hTA] at hv9
        have HOB3 := Lib.hid hob3
        have H3 := Lib.hid h3
        have HBA3 := Lib.hid hba3
        have HK03 := Lib.hid hk03
        have HFR := Lib.hid hfr
        have HCELL := Lib.hid hcell
        have HTA := Lib.hid hTA
        have HLL := Lib.hid (And.intro hLl hL)
        have HLT := Lib.hid (And.intro hlt (And.intro hGG (And.intro hwlt (And.intro hrlt hglt))))
        clear hw3 hLs hob3 hba2 hlt hGG hwlt hk02 hk23 hk03 hba3 h3 hrlt hglt hcell hfr hTA hLl hL hcv hrb hby hbf hbc c0 c1 c2 c3 c4
        refine Reg.wp_region_plan [⟨0, false, []⟩, ⟨1, false, []⟩, ⟨2, false, []⟩, ⟨3, false, []⟩, ⟨4, false, []⟩, ⟨5, false, []⟩, ⟨6, false, []⟩, ⟨7, false, []⟩, ⟨8, false, []⟩, ⟨9, false, []⟩, ⟨10, true, [1, 2, 3]⟩, ⟨11, false, []⟩, ⟨12, false, []⟩, ⟨13, true, []⟩] rfl (by kernel_rfl) ?_
        repeat (first | (refine Reg.look rfl rfl rfl (by go_simp; rfl) rfl ?_; go_simp) | (refine Reg.skip rfl rfl rfl ?_; go_simp))
        refine Reg.act rfl ?_
        go_wp2_with fail
        (refine ⟨?anew, ?_⟩; case anew => ((repeat (refine Reg.anew_cons rfl rfl (fun _ => by go_simp) ?_)); exact Reg.anew_nil))
        repeat (first | (refine Reg.look rfl rfl rfl (by go_simp; rfl) rfl ?_; go_simp) | (refine Reg.skip rfl rfl rfl ?_; go_simp))
        refine Reg.act rfl ?_
        go_wp2_with fail
        refine ⟨Reg.anew_nil, ?_⟩
        (refine Reg.done ?_; simp only [Exit.then])
        go_wp2_with fail
        obtain ⟨w4, hw4⟩ : ∃ w4, (w3.setCell ⟨g, i * 4 + 1, none⟩ (.string TA)).drew = w4 := ⟨_, rfl⟩
        rw [hw4]
        have hk34 : Kp (· = g) w3 w4 := by rw [← hw4]; exact ((Kp.refl (· = g) w3).setCell (p := ⟨g, i * 4 + 1, none⟩) (fun _ => rfl) _).drew
        obtain ⟨hlt, hGG, hwlt, hrlt, hglt⟩ := HLT.out
        have hgr : g ≠ r := fun e => H.out.ne (e ▸ HRB.out)
        have hob4 : OwnM w4 G 5 (.slice (some ⟨G, 0, none⟩) M cb) L := HOB3.out.kept hk34 (fun k hk => by
          have := (HOB3.out.lt k hk).1
          show ¬ k = g
          omega)
        have hby := Bytely.of Tryz.underlying88 Tryz.underlying9 Tryz.underlying5 (by kernel_rfl)
        have c04 : w4.cell? ⟨r, 0, none⟩ = some (.slice (some ⟨g, 0, none⟩) x.files.length c) := (Blk.kept H3.out.blk hk34 (fun e => hgr e.symm)).cell rfl
        have c14 : w4.cell? ⟨w1.heap.size, 1, none⟩ = some (.string TL) := (HBA3.out.kept hk34 (by show ¬ _ = g; omega)).cell rfl
        have hTM : (TL.size : Int) ≤ (M : Int) := by have := HLL.out.1; omega
        have hv10 := (hob4.keptNo ((Kp.refl No _).drew)).run_tail 88 9 hby hTLM
        obtain ⟨TB, hTB⟩ : ∃ t, bs (L.drop TL.size) = t := ⟨_, rfl⟩
        rw [hTB] at hv10
        have c24 : w4.cell? ⟨g, i * 4 + 2, none⟩ = some (.string TW) := by
          rw [← hw4, ← HTW.out]
          exact (World.cell?_setCell_other w3 _ _ _ (by simp)).trans (HCELL.out 2 _ rfl)
        have f24 : w4.frozen? ⟨g, i * 4 + 2, none⟩ = false := by
          rw [← hw4]
          exact (World.frozen?_setCell w3 _ _ _).trans (HFR.out (i * 4 + 2))
        have HW4 := Lib.hid hw4
        have HTB := Lib.hid hTB
        have HGR := Lib.hid hgr
        clear hw4 hk34 hlt hGG hwlt hrlt hglt hgr hob4 hby hTB hwS hv9 c03 c13 c23 f23
        refine Reg.wp_region_plan [⟨0, false, []⟩, ⟨1, false, []⟩, ⟨2, false, []⟩, ⟨3, false, []⟩, ⟨4, false, []⟩, ⟨5, false, []⟩, ⟨6, false, []⟩, ⟨7, false, []⟩, ⟨8, false, []⟩, ⟨9, false, []⟩, ⟨10, true, [1, 2, 3]⟩, ⟨11, false, []⟩, ⟨12, false, []⟩, ⟨13, true, []⟩] rfl (by kernel_rfl) ?_
        repeat (first | (refine Reg.look rfl rfl rfl (by go_simp; rfl) rfl ?_; go_simp) | (refine Reg.skip rfl rfl rfl ?_; go_simp))
        refine Reg.act rfl ?_
        go_wp2_with fail
        all_goals
          (refine ⟨?anew, ?_⟩; case anew => ((repeat (refine Reg.anew_cons rfl rfl (fun _ => by go_simp) ?_)); exact Reg.anew_nil))
          repeat (first | (refine Reg.look rfl rfl rfl (by go_simp; rfl) rfl ?_; go_simp) | (refine Reg.skip rfl rfl rfl ?_; go_simp))
          refine Reg.act rfl ?_
          go_wp2_with fail
          refine ⟨Reg.anew_nil, ?_⟩
          (refine Reg.done ?_; simp only [Exit.then])
          go_wp2_with fail
          go_ret
          have hset : x.files.set i (n, { f with bytes := L }) = ins n { f with bytes := L } x.files := by
            rw [← HI.out]; exact (ins_over _ H.out.ok.rising HFI.out).symm
          have hZZ : Z = (0, { x with files := ins n { f with bytes := L } x.files }) := by
            have hm := HM.out.2
            have h5 : ¬ ((k : Int) < 0 ∨ (f.bytes.length : Int) ≤ (k : Int) / 8) := by omega
            rw [← HZ.out, if_neg h5, Int.toNat_natCast, HLL.out.2]
          have hfo := HFO.out
          have hok : OkD { x with files := x.files.set i (n, { f with bytes := L }) } := by
            rw [hset]
            refine H.out.ok.put n _ (H.out.ok.at HFI.out).2 ⟨?_, ?_⟩
            · show f.sure ≤ L.length; have := HLL.out.1; have := HM.out.2; have := hfo.1; omega
            · show L.length ≤ _; have := HLL.out.1; have := HM.out.2; have := hfo.2; omega
          have hfin := H3.out.two (f' := { f with bytes := L }) HP.out (u1 := .string TA) (u2 := .string TB) (by
            have h1 := HSZ.out.1
            rw [← HTA.out, ← HTB.out, h1]; rfl) hok
          rw [hset] at hfin
          rw [hZZ, ← HW4.out]
          have hg : F g := (HF.out g).2 (.inr HRB.out)
          refine ⟨rfl, F, ⟨_, hfin.keptNo ((Kp.refl No _).drew.drew), HF.out⟩, ?_, fun k hk => .inl hk⟩
          exact (((HK03.out.any (S := F)).setCell (p := ⟨g, i * 4 + 1, none⟩) (fun _ => hg) (.string TA)).setCell (p := ⟨g, i * 4 + 2, none⟩) (fun _ => hg) (.string TB)).drew.drew
end

section
open Go.RowKit Go.ChangeShapes Go.WideShapes Go.ChangeAt

theorem lit1' (w : World) (vs : List Value) (p : ByteArray × FV) (hv : vs = enc4 p) (S : Nat → Prop) (hS : S w.heap.size) : Rp.rf.slice.R (w.alloc (.cells vs.toArray 100)) S [.slice (some ⟨w.heap.size, 0, none⟩) 1 1] [p] := by
  subst hv; exact lit1 w p S hS
/-- how far a loss of power has come -/
structure CRel (w : World) (x : DV) (ks : List Int) (i k : Nat) (L : List (ByteArray × FV)) (v : Value) (wr : World) : Prop where
  hi : i ≤ x.files.length
  hk : k ≤ i
  len : L.length ≤ i
  now : crashF x.files ks = L ++ crashF (x.files.drop i) (ks.drop k)
  own : Own Rp.rf wr No w.heap.size 100 v L
  kp : Kp No w wr
theorem crash_next {l : List (ByteArray × FV)} {i : Nat} {n : ByteArray} {f : FV} (hi : l[i]? = some (n, f)) (ks : List Int) : crashF (l.drop i) ks = consIf n (crash1 f (ks.headD 0)) (crashF (l.drop (i + 1)) (nextK f ks)) := by
  obtain ⟨h1, h2⟩ := List.getElem?_eq_some_iff.1 hi
  rw [List.drop_eq_getElem_cons h1, h2]; rfl
theorem headD_drop (ks : List Int) (k : Nat) : (ks.drop k).headD 0 = ks.getD k 0 := by
  rw [List.headD_eq_head?_getD, List.head?_drop, List.getD_eq_getElem?_getD]
theorem tail_drop (ks : List Int) (k : Nat) : (ks.drop k).tail = ks.drop (k + 1) := by rw [List.tail_drop]
/-- a file that isn't kept -/
theorem CRel.skip {w wr w2 : World} {x : DV} {ks : List Int} {i k k2 : Nat} {L : List (ByteArray × FV)} {v : Value} (h : CRel w x ks i k L v wr) {n : ByteArray} {f : FV} (hi : x.files[i]? = some (n, f)) (ho : (crash1 f ((ks.drop k).headD 0)).old = false) (hk2 : nextK f (ks.drop k) = ks.drop k2) (hkl : k2 ≤ i + 1)
    (hk : Kp No wr w2) : CRel w x ks (i + 1) k2 L v w2 :=
  ⟨(List.getElem?_eq_some_iff.1 hi).1, hkl, Nat.le_succ_of_le h.len, by rw [h.now, crash_next hi, hk2]; unfold consIf; rw [ho]; rfl, h.own.keptNo hk, h.kp.trans' hk⟩
/-- a file that is kept -/
theorem CRel.more {w wr w2 : World} {x : DV} {ks : List Int} {i k k2 : Nat} {L : List (ByteArray × FV)} {v v2 : Value} (h : CRel w x ks i k L v wr) {n : ByteArray} {f g : FV} (hi : x.files[i]? = some (n, f)) (hg : crash1 f ((ks.drop k).headD 0) = g) (ho : g.old = true) (hk2 : nextK f (ks.drop k) = ks.drop k2) (hkl : k2 ≤ i + 1)
    (hown : Own Rp.rf w2 No w.heap.size 100 v2 (L ++ [(n, g)])) (hk : Kp No w w2) : CRel w x ks (i + 1) k2 (L ++ [(n, g)]) v2 w2 :=
  ⟨(List.getElem?_eq_some_iff.1 hi).1, hkl, by have := h.len; simp; omega, by rw [h.now, crash_next hi, hk2, hg]; unfold consIf; rw [ho]; simp, hown, hk⟩

theorem cut_text (l : List UInt8) (a k : Nat) : bs (l.take a) ++ (bs (l.drop a)).extract 0 k = bs (l.take (a + k)) := by
  rw [bs_extract, bs_append, List.drop_zero, Nat.sub_zero, List.take_add]
theorem enc_cut (n : ByteArray) (f : FV) (h : Int) : enc4 (n, cutF f h) = [.string n, .string (bs (f.bytes.take (f.sure + keepOf f h))), .string ⟨#[]⟩, .bool (f.old || decide (0 < keepOf f h))] := by
  unfold enc4 cutF
  simp only [List.take_take, Nat.min_self]
  rw [List.drop_eq_nil_of_le (by rw [List.length_take]; omega)]; rfl
theorem lit2 (w : World) (vs : List Value) (p : ByteArray × FV) (hv : vs = enc4 p) (S : Nat → Prop) (g : Nat) (hg : g = w.heap.size) (hS : S g) : Rp.rf.slice.R (w.alloc (.cells vs.toArray 100)) S [.slice (some ⟨g, 0, none⟩) 1 1] [p] := by
  subst hv hg; exact lit1 w p S hS
theorem cr_append {w wr : World} {x : DV} {ks : List Int} {i k k2 : Nat} {L : List (ByteArray × FV)} {B : Option Addr} {cb : Nat} (HC : Hid (CRel w x ks i k L (.slice B L.length cb) wr)) {n : ByteArray} {f G : FV} (HP : Hid (x.files[i]? = some (n, f))) (HG : Hid (crash1 f ((ks.drop k).headD 0) = G)) (HO1 : Hid (G.old = true))
    (HK2 : Hid (nextK f (ks.drop k) = ks.drop k2)) (hkl : k2 ≤ i + 1) (hn : x.files.length ≤ 1000000) {WZ : World} (hkz : Kp No wr WZ) {g : Nat} (hsrc : Rp.rf.slice.R WZ (fun q => wr.heap.size ≤ q) [.slice (some ⟨g, 0, none⟩) 1 1] [(n, G)])
    {P : Program} {ops : Array Oper} {rest : List Oper} {o : Oper} {a : Act} {Q : Exit → Act → World → Prop} (hgd : o.guard = none) {s y : Operand} {t : TypeId} (ho : o.op = .call { callee := .builtin .append, args := #[s, y], argTypes := #[t, t] }) (el : Elem P t 100 4 56)
    (hs : a.eval s = .slice B L.length cb) (hx : a.eval y = .slice (some ⟨g, 0, none⟩) 1 1)
    (h : ∀ A9 c9 w9, Hid (CRel w x ks (i + 1) k2 (L ++ [(n, G)]) (.slice A9 (L ++ [(n, G)]).length c9) w9) → wpList P ops Q rest (a.put o.dst (.slice A9 (L ++ [(n, G)]).length c9)) w9) :
    wpList P ops Q (o :: rest) a WZ := by
  have h1 := HC.out.kp.size
  have h2 := hkz.size
  have h3 := HC.out.len
  have h4 := HC.out.hi
  refine wpList_append_rp (E := Rp.rf) hgd _ s y t ho w.heap.size 100 56 el (fun q => wr.heap.size ≤ q) (.slice B L.length cb) L hs ((HC.out.own.rf_any _).keptNo hkz) (some ⟨g, 0, none⟩) 1 (fun q => wr.heap.size ≤ q) [(n, G)] hx hsrc Rp.rf_one (by simp [maxLen]; omega) (by simp; omega) (by omega) (fun _ h => h) (fun q hq => by have := (HC.out.own.lt q hq).2; omega) ?_
  intro v9 w9 hown9 hg9 _
  have hk9 : Kp No w w9 := (HC.out.kp.trans' hkz).grown hg9 (fun q hq hlt => by have := (HC.out.own.lt q hq).1; omega)
  have hown9' := hown9.rf_any No
  obtain ⟨A9, c9, rfl, _, _, _⟩ := (RSf.of_own hown9).1
  exact h A9 c9 w9 (Lib.hid (HC.out.more HP.out HG.out HO1.out HK2.out hkl hown9' hk9))
end
end Go.Proofs.YtflodiljgphkdaaGreat
