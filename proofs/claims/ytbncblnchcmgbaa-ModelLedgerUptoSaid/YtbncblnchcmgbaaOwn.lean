/-
  Slices that a call makes for itself and appends to: their reading, and append as one law, whatever the source is.
-/
import Derived.Test.YtbncblnchcmgbaaBase
import Derived.Maps.AppendAt
import Derived.Deep.AppendLies
import Derived.OwnWalk
namespace Go.Proofs.Ytbncblnchcmgbaa
open Go.RowKit Go.ChangeShapes Go.WideShapes Go.ChangeAt

/-- from a block on -/
def From (n : Nat) : Nat → Prop := fun k => n ≤ k
/-- below a block -/
def Under (n : Nat) : Nat → Prop := fun k => k < n
/-- A value as it stands. -/
def Rp.raw : Rp Value where
  size := 1
  R _ _ cs a := cs = [a] ∧ a.oneCell' = true
  μ _ := 1
  pos := Nat.one_pos
  len h := by rw [h.1]; rfl
  keep _ _ h := h
  bnd h := h

/-- What append asks of an element's type. -/
def Elem (P : Program) (t e : TypeId) (size bytes : Nat) : Prop :=
  P.underlying t = some (.slice e) ∧ ∃ i z, P.info? e = some i ∧ i.zero = some z ∧ i.size = size ∧ i.bytes = bytes ∧ z.cells.size = size ∧ 0 < size
theorem Elem.of {P : Program} {t e : TypeId} {z : Value} {size bytes : Nat} (ht : P.underlying t = some (.slice e)) (h : (P.info? e).map (fun i => (i.zero, i.size, i.bytes)) = some (some z, size, bytes)) (hz : z.cells.size = size) (hp : 0 < size) :
    Elem P t e size bytes := by
  obtain ⟨i, h1, h2, h3, h4⟩ := info_parts h
  exact ⟨ht, i, z, h1, h2, h3, h4, hz, hp⟩

/-- A slice that the call owns (from block 'base' on), as a list. -/
def Own {α : Type} (E : Rp α) (w : World) (S : Nat → Prop) (base : Nat) (e : TypeId) (v : Value) (l : List α) : Prop :=
  ∃ xs, w.ownsRow base e E.size v l.length xs ∧ (∀ u ∈ xs, u.oneCell' = true) ∧ ∀ (i : Nat) a, l[i]? = some a → E.R w S ((xs.drop (i * E.size)).take E.size) a

theorem add_add (a : Addr) (i j : Nat) : (a.add i).add j = a.add (i + j) := Deep.add_add a i j

/-- The cells of a slice that is read. -/
theorem Rp.news {α : Type} {E : Rp α} {w S A c} {m : List α} (h : E.slice.R w S [.slice A m.length c] m) :
    ∃ news : List Value, news.length = m.length * E.size ∧ (0 < m.length → ∃ ad, A = some ad ∧ S ad.block ∧ ∀ (j : Nat) u, news[j]? = some u → w.cell? (ad.add j) = some u) ∧
      ∀ (i : Nat) a, m[i]? = some a → E.R w S ((news.drop (i * E.size)).take E.size) a := by
  obtain ⟨A', c', he, _, _, h3⟩ := h
  simp only [List.cons.injEq, Value.slice.injEq, and_true, true_and] at he
  obtain ⟨rfl, rfl⟩ := he
  by_cases hm : 0 < m.length
  · obtain ⟨ad, rfl, hb, hc⟩ := h3 hm
    clear h3
    have : ∀ n, n ≤ m.length → ∃ news : List Value, news.length = n * E.size ∧ (∀ (j : Nat) u, news[j]? = some u → w.cell? (ad.add j) = some u) ∧
        ∀ (i : Nat) a, i < n → m[i]? = some a → E.R w S ((news.drop (i * E.size)).take E.size) a := by
      intro n
      induction n with
      | zero => intro _; exact ⟨[], by simp, by simp, fun i a h => absurd h (Nat.not_lt_zero _)⟩
      | succ n ih =>
        intro hn
        obtain ⟨news, h1, h2, h3⟩ := ih (by omega)
        obtain ⟨es, h4, h5⟩ := hc n m[n] (List.getElem?_eq_getElem (by omega))
        have hes := E.len h5
        refine ⟨news ++ es, by rw [List.length_append, h1, hes, Nat.succ_mul], fun j u hu => ?_, fun i a hi ha => ?_⟩
        · by_cases hj : j < news.length
          · exact h2 j u (by rwa [List.getElem?_append_left hj] at hu)
          · rw [List.getElem?_append_right (by omega)] at hu
            have := h4 _ u hu
            rw [add_add] at this
            rwa [show n * E.size + (j - news.length) = j by omega] at this
        · rcases Nat.lt_or_ge i n with hlt | hge
          · have h6 := h3 i a hlt ha
            have hle : (i + 1) * E.size ≤ n * E.size := Nat.mul_le_mul_right _ hlt
            rw [Nat.succ_mul] at hle
            rw [List.drop_append_of_le_length (by omega), List.take_append_of_le_length (by rw [List.length_drop]; omega)]
            exact h6
          · obtain rfl : i = n := by omega
            rw [List.getElem?_eq_getElem (by omega)] at ha
            injection ha with ha
            subst ha
            rw [List.drop_append, ← h1, List.drop_length, Nat.sub_self, List.drop_zero, List.nil_append, ← hes, List.take_length]
            exact h5
    obtain ⟨news, h1, h2, h3⟩ := this m.length (Nat.le_refl _)
    exact ⟨news, h1, fun _ => ⟨ad, rfl, hb, h2⟩, fun i a ha => h3 i a (List.getElem?_eq_some_iff.1 ha).1 ha⟩
  · have hm0 : m.length = 0 := by omega
    exact ⟨[], by simp [hm0], fun h => absurd h hm, fun i a ha => absurd (List.getElem?_eq_some_iff.1 ha).1 (by omega)⟩

theorem oneCell_of_cell {w : World} {p : Addr} {u : Value} (h : w.cell? p = some u) (hw : ∀ (g : Nat) cs t fr, w.heap[g]? = some (.cells cs t fr) → ∀ x ∈ cs, x.oneCell' = true) : u.oneCell' = true := by
  unfold World.cell? at h
  split at h
  · rename_i cs t fr hg
    split at h
    · cases h
    · exact hw _ _ _ _ hg u (Array.mem_of_getElem? h)
  · cases h

namespace Own
variable {α : Type} {E : Rp α} {w w' : World} {S : Nat → Prop} {base : Nat} {e : TypeId} {v : Value} {l : List α}
theorem nil (E : Rp α) (w : World) (S : Nat → Prop) (base : Nat) (e : TypeId) : Own E w S base e (.slice none 0 0) [] := ⟨[], World.ownsRow_nil w base e E.size, by simp, by simp⟩
theorem lit {g : Nat} (h : w.heap[g]? = some (.cells #[] e (0, 0))) (hb : base ≤ g) : Own E w S base e (.slice (some ⟨g, 0, none⟩) 0 0) [] :=
  ⟨[], ⟨by simp, .inr ⟨g, 0, #[], rfl, hb, h, Nat.le_refl _, by simp, by simp, by simp⟩⟩, by simp, by simp⟩
theorem shape (h : Own E w S base e v l) : ∃ A c, v = .slice A l.length c := by
  obtain ⟨xs, ⟨_, h⟩, _⟩ := h
  rcases h with ⟨rfl, h⟩ | ⟨g, cap, cur, rfl, _⟩
  · exact ⟨none, 0, by rw [h]⟩
  · exact ⟨_, _, rfl⟩
theorem mono (h : Own E w S base e v l) {base' : Nat} {S' : Nat → Prop} (hb : base' ≤ base) (hs : ∀ k, S k → S' k) : Own E w S' base' e v l := by
  obtain ⟨xs, h1, h2, h3⟩ := h
  refine ⟨xs, ?_, h2, fun i a ha => E.more (h3 i a ha) hs⟩
  obtain ⟨h4, h5⟩ := h1
  refine ⟨h4, ?_⟩
  rcases h5 with h5 | ⟨g, cap, cur, hv, hg, r⟩
  · exact .inl h5
  · exact .inr ⟨g, cap, cur, hv, by omega, r⟩
theorem lt (h : Own E w S base e v l) : ∀ k, v.ownBlock = some k → base ≤ k ∧ k < w.heap.size := by
  obtain ⟨xs, h1, _⟩ := h
  exact h1.lt
theorem block (h : Own E w S base e v l) {g : Nat} (hg : v.ownBlock = some g) : ∃ cs, w.heap[g]? = some (.cells cs e (0, 0)) := by
  obtain ⟨xs, ⟨_, h1⟩, _⟩ := h
  rcases h1 with ⟨rfl, _⟩ | ⟨g', cap, cur, rfl, _, hh, _⟩
  · simp [Value.ownBlock] at hg
  · have : g' = g := by simpa [Value.ownBlock] using hg
    subst this
    exact ⟨cur, hh⟩
/-- Rows of unlike types don't share a block. -/
theorem ne_block {β : Type} {E' : Rp β} {S' : Nat → Prop} {base' : Nat} {e' : TypeId} {v' : Value} {l' : List β} (h : Own E w S base e v l) (h' : Own E' w S' base' e' v' l') (hne : e ≠ e') {g : Nat} (hg : v.ownBlock = some g) : v'.ownBlock ≠ some g := by
  intro hg'
  obtain ⟨cs, h1⟩ := h.block hg
  obtain ⟨cs', h2⟩ := h'.block hg'
  rw [h1] at h2
  injection h2 with h2
  injection h2 with _ h2
  exact hne h2
/-- It reads as the list, resting on its own block and on what its elements rest on. -/
theorem read (h : Own E w S base e v l) (hs : ∀ k, v.ownBlock = some k → S k) : E.slice.R w S [v] l := by
  obtain ⟨xs, ⟨h0, h1⟩, _, h3⟩ := h
  rcases h1 with ⟨rfl, h1⟩ | ⟨g, cap, cur, rfl, hb, hg, hn, hm, hc, ht⟩
  · have : l = [] := List.eq_nil_of_length_eq_zero h1
    subst this
    exact ⟨_, _, rfl, Nat.le_refl _, by simp, fun h => absurd h (by simp)⟩
  · refine ⟨_, _, rfl, hn, hm, fun _ => ⟨_, rfl, hs g rfl, fun i a ha => ⟨_, fun j u hu => ?_, h3 i a ha⟩⟩⟩
    rw [add_add]
    have hj : j < E.size := by
      have := (List.getElem?_eq_some_iff.1 hu).1
      simp only [List.length_take] at this
      omega
    rw [List.getElem?_take_of_lt hj, List.getElem?_drop] at hu
    rw [show (Addr.add ⟨g, 0, none⟩ (i * E.size + j)) = ⟨g, i * E.size + j, none⟩ by unfold Addr.add; split <;> simp_all]
    rw [cell_of_row w g _ cur e (0, 0) hg, ← Array.getElem?_toList]
    rw [← ht, List.getElem?_take_of_lt] at hu
    · exact hu
    · have := (List.getElem?_eq_some_iff.1 hu).1
      rw [List.length_take] at this
      omega
theorem readFrom (h : Own E w S base e v l) : E.slice.R w (fun k => S k ∨ base ≤ k) [v] l :=
  (h.mono (Nat.le_refl _) (fun _ hk => Or.inl hk)).read fun k hk => Or.inr (h.lt k hk).1
theorem kept {T : Nat → Prop} (h : Own E w S base e v l) (hk : Kp T w w') (hs : ∀ k, S k → k < w.heap.size → ¬ T k) (hv : ∀ k, v.ownBlock = some k → ¬ T k) : Own E w' S base e v l := by
  obtain ⟨xs, h1, h2, h3⟩ := h
  refine ⟨xs, ?_, h2, fun i a ha => E.kept (h3 i a ha) hk hs⟩
  obtain ⟨h4, h5⟩ := h1
  refine ⟨h4, ?_⟩
  rcases h5 with h5 | ⟨g, cap, cur, rfl, hb, hg, r⟩
  · exact .inl h5
  · refine .inr ⟨g, cap, cur, rfl, hb, ?_, r⟩
    have hlt : g < w.heap.size := (Array.getElem?_eq_some_iff.1 hg).1
    rw [hk.block g hlt (hv g rfl)]
    exact hg
theorem keptNo (h : Own E w S base e v l) (hk : Kp No w w') : Own E w' S base e v l := h.kept hk (fun _ _ _ x => x) (fun _ _ x => x)
theorem drew (h : Own E w S base e v l) : Own E w.drew S base e v l := h.keptNo ((Kp.refl _ _).drew)
theorem str_any {l : List ByteArray} (h : Own Rp.str w S base e v l) (S' : Nat → Prop) : Own Rp.str w S' base e v l := by
  obtain ⟨xs, h1, h2, h3⟩ := h
  exact ⟨xs, h1, h2, fun i a ha => h3 i a ha⟩
theorem int_any {k : IntKind} {l : List Int} (h : Own (Rp.int k) w S base e v l) (S' : Nat → Prop) : Own (Rp.int k) w S' base e v l := by
  obtain ⟨xs, h1, h2, h3⟩ := h
  exact ⟨xs, h1, h2, fun i a ha => h3 i a ha⟩
theorem alloc (h : Own E w S base e v l) (o : Obj) : Own E (w.alloc o) S base e v l := h.keptNo ((Kp.refl _ _).alloc o)

section
variable {vs : List Value}
theorem raw_vals (h : Own Rp.raw w S base e v vs) : w.ownsRow base e 1 v vs.length vs ∧ ∀ u ∈ vs, u.oneCell' = true := by
  obtain ⟨xs, h1, h2, h3⟩ := h
  have hx : xs = vs := by
    apply List.ext_getElem?
    intro i
    have hl : xs.length = vs.length := by have := h1.1; simpa [Rp.raw] using this
    rcases Nat.lt_or_ge i vs.length with hlt | hge
    · have h4 := (h3 i vs[i] (List.getElem?_eq_getElem hlt)).1
      simp only [Rp.raw, Nat.mul_one] at h4
      have h5 := congrArg (fun l : List Value => l[0]?) h4
      simp only [List.getElem?_cons_zero] at h5
      rw [List.getElem?_take_of_lt (by omega), List.getElem?_drop, Nat.add_zero] at h5
      rw [h5, List.getElem?_eq_getElem hlt]
    · rw [List.getElem?_eq_none hge, List.getElem?_eq_none (by omega)]
  subst hx
  exact ⟨h1, h2⟩
theorem of_raw (h1 : w.ownsRow base e 1 v vs.length vs) (h2 : ∀ u ∈ vs, u.oneCell' = true) : Own Rp.raw w S base e v vs := by
  refine ⟨vs, h1, h2, fun i a ha => ⟨?_, h2 a (List.mem_of_getElem? ha)⟩⟩
  obtain ⟨hlt, rfl⟩ := List.getElem?_eq_some_iff.1 ha
  show (vs.drop (i * 1)).take 1 = _
  rw [Nat.mul_one, List.drop_eq_getElem_cons hlt]
  rfl
theorem raw_cell {A : Option Addr} {c : Nat} (h : Own Rp.raw w S base e (.slice A vs.length c) vs) {i : Nat} {u : Value} (hi : vs[i]? = some u) :
    ∃ g, A = some ⟨g, 0, none⟩ ∧ base ≤ g ∧ g < w.heap.size ∧ w.cell? ⟨g, i, none⟩ = some u ∧ w.frozen? ⟨g, i, none⟩ = false := by
  obtain ⟨h1, _⟩ := raw_vals h
  have hlt := (List.getElem?_eq_some_iff.1 hi).1
  obtain ⟨g, cap, he, hb, hg⟩ := h1.form (by omega)
  have hA : A = some ⟨g, 0, none⟩ := by injection he
  subst hA
  have hc : c = cap := by injection he
  subst hc
  exact ⟨g, rfl, hb, hg, by rw [h1.cellAt i (by omega), hi], h1.frozenAt i⟩
theorem raw_store {g c : Nat} (h : Own Rp.raw w S base e (.slice (some ⟨g, 0, none⟩) vs.length c) vs) {i : Nat} (_hi : i < vs.length) {u : Value} (hu : u.oneCell' = true) :
    Own Rp.raw (w.setCell ⟨g, i, none⟩ u) S base e (.slice (some ⟨g, 0, none⟩) (vs.set i u).length c) (vs.set i u) := by
  obtain ⟨h1, h2⟩ := raw_vals h
  refine of_raw ?_ (fun x hx => ?_)
  · have := (h1.stored i u).1
    rw [List.length_set]
    exact this
  · rcases List.mem_or_eq_of_mem_set hx with hx | rfl
    · exact h2 x hx
    · exact hu
end
end Own

section
variable {P : Program} {α : Type} {E : Rp α}

/-- append: the call's own slice l, and behind it what the other slice reads as, m. -/
theorem run_append_rp (w : World) (base : Nat) (t ty e : TypeId) (bytes : Nat) (el : Elem P t e E.size bytes) (S : Nat → Prop) (v : Value) (l : List α) (hown : Own E w S base e v l)
    (A : Option Addr) (c : Nat) (S' : Nat → Prop) (m : List α) (hsrc : E.slice.R w S' [.slice A m.length c] m) (hone : ∀ cs a S', E.R w S' cs a → ∀ u ∈ cs, u.oneCell' = true)
    (hcap : l.length + m.length ≤ maxLen) (hbytes : (l.length + m.length) * bytes ≤ 140737488355328) (hbase : base ≤ w.heap.size) (hS' : ∀ k, S' k → S k) (hSv : ∀ k, v.ownBlock = some k → ¬ S k) :
    ∃ v' w', (Builtin.append_ #[t, t] ty #[v, .slice A m.length c]).run P w = .ok v' w' ∧ Own E w' S base e v' (l ++ m) ∧ w.grownBy w' v.ownBlock ∧
      (v'.ownBlock = v.ownBlock ∨ v'.ownBlock = some w.heap.size) := by
  obtain ⟨xs, h1, h2, h3⟩ := hown
  obtain ⟨news, h4, h5, h6⟩ := Rp.news hsrc
  obtain ⟨ht, i, z, hi, hz, hsize, hby, hzs, hpos⟩ := el
  have hnewsone : ∀ u ∈ news, u.oneCell' = true := by
    intro u hu
    obtain ⟨j, hj, rfl⟩ := List.mem_iff_getElem.1 hu
    have hq : j / E.size < m.length := by
      rw [Nat.div_lt_iff_lt_mul E.pos]; omega
    have h7 := h6 (j / E.size) m[j / E.size] (List.getElem?_eq_getElem hq)
    refine hone _ _ _ h7 _ (List.mem_of_getElem? (i := j % E.size) ?_)
    rw [List.getElem?_take_of_lt (Nat.mod_lt _ E.pos), List.getElem?_drop]
    have : j / E.size * E.size + j % E.size = j := by rw [Nat.mul_comm]; exact Nat.div_add_mod j E.size
    rw [this]
    exact List.getElem?_eq_getElem hj
  have close : ∀ v' w', w'.ownsRow base e E.size v' (l.length + m.length) (xs ++ news) → w.grownBy w' v.ownBlock → Own E w' S base e v' (l ++ m) := by
    intro v' w' hown' hg
    have hkp : Kp (fun k => v.ownBlock = some k) w w' := (Kp.refl _ w).grown hg (fun g hg _ => hg)
    refine ⟨xs ++ news, by rw [List.length_append]; exact hown', ?_, fun i a ha => ?_⟩
    · intro u hu
      rcases List.mem_append.1 hu with h | h
      · exact h2 u h
      · exact hnewsone u h
    · rcases Nat.lt_or_ge i l.length with hlt | hge
      · rw [List.getElem?_append_left hlt] at ha
        have h7 := h3 i a ha
        have hxl := h1.1
        have hle : (i + 1) * E.size ≤ l.length * E.size := Nat.mul_le_mul_right _ hlt
        rw [Nat.succ_mul] at hle
        rw [List.drop_append_of_le_length (by omega), List.take_append_of_le_length (by rw [List.length_drop]; omega)]
        exact E.kept h7 hkp (fun k hk _ hv => hSv k hv hk)
      · rw [List.getElem?_append_right hge] at ha
        have h7 := h6 _ a ha
        have hxl := h1.1
        have hle : l.length * E.size ≤ i * E.size := Nat.mul_le_mul_right _ hge
        rw [List.drop_append, List.drop_eq_nil_of_le (by omega), List.nil_append, hxl, ← Nat.sub_mul]
        exact E.kept (E.more h7 hS') hkp (fun k hk _ hv => hSv k hv hk)
  rcases A with _ | ad
  · have hm : m.length = 0 := by
      rcases Nat.eq_zero_or_pos m.length with h | h
      · exact h
      · obtain ⟨ad, h, _⟩ := h5 h
        cases h
    have hn : news = [] := List.eq_nil_of_length_eq_zero (by simpa [hm] using h4)
    refine ⟨v, w, ?_, ?_, World.grownBy.refl w _, .inl rfl⟩
    · rw [hm]
      rcases h1.2 with ⟨rfl, _⟩ | ⟨g, cap, cur, rfl, _, _, hnc, _⟩
      · simp [Builtin.append_, run_underlying ht, sizeOf, typeInfo, hi, Builtin.lenOf, Builtin.firstCells]
      · simp [Builtin.append_, run_underlying ht, sizeOf, typeInfo, hi, Builtin.lenOf, Builtin.firstCells, hnc, storeCells]
    · refine close v w ?_ (World.grownBy.refl w _)
      rw [hm, hn, List.append_nil, Nat.add_zero]
      exact h1
  · have hcells : ∀ (j : Nat) u, news[j]? = some u → w.cell? (ad.add j) = some u := by
      intro j u hu
      rcases Nat.eq_zero_or_pos m.length with h0 | h0
      · have hn : news = [] := List.eq_nil_of_length_eq_zero (by simpa [h0] using h4)
        rw [hn] at hu
        simp at hu
      · obtain ⟨ad', h, _, hc⟩ := h5 h0
        injection h with h
        subst h
        exact hc j u hu
    obtain ⟨v', w', hrun, h8, h9, _, h10⟩ := run_append_own_at (P := P) w base t ty e i z E.size bytes ht hi hz hsize hby hzs hpos v l.length xs h1 ad m.length c news h4 hcells hnewsone hcap hbytes hbase
    exact ⟨v', w', hrun, close v' w' h8 h9, h9, h10⟩

theorem wp_append_rp {o : Oper} {a : Act} {K : Act → World → Prop} {Q : Exit → Act → World → Prop} (w : World) (s x : Operand) (t : TypeId)
    (ho : o.op = .call { callee := .builtin .append, args := #[s, x], argTypes := #[t, t] })
    (base : Nat) (e : TypeId) (bytes : Nat) (el : Elem P t e E.size bytes) (S : Nat → Prop) (v : Value) (l : List α) (hs : a.eval s = v) (hown : Own E w S base e v l)
    (A : Option Addr) (c : Nat) (S' : Nat → Prop) (m : List α) (hx : a.eval x = .slice A m.length c) (hsrc : E.slice.R w S' [.slice A m.length c] m) (hone : ∀ cs a S', E.R w S' cs a → ∀ u ∈ cs, u.oneCell' = true)
    (hcap : l.length + m.length ≤ maxLen) (hbytes : (l.length + m.length) * bytes ≤ 140737488355328) (hbase : base ≤ w.heap.size) (hS' : ∀ k, S' k → S k) (hSv : ∀ k, v.ownBlock = some k → ¬ S k)
    (h : ∀ v' w', Own E w' S base e v' (l ++ m) → w.grownBy w' v.ownBlock → (v'.ownBlock = v.ownBlock ∨ v'.ownBlock = some w.heap.size) → K (a.put o.dst v') w') : o.wp P a w K Q := by
  obtain ⟨v', w', hrun, h2, h3, h4⟩ := run_append_rp (P := P) w base t o.type e bytes el S v l hown A c S' m hsrc hone hcap hbytes hbase hS' hSv
  unfold Oper.wp execOp
  simp only [ho, resolve, invoke, builtin, Sem.run_bind, Sem.run_pure, Result.andThen_ok, List.map_toArray, List.map_cons, List.map_nil, hs, hx, hrun]
  exact h v' w' h2 h3 h4

theorem wpList_append_rp {ops : Array Oper} {rest : List Oper} {o : Oper} {a : Act} {Q : Exit → Act → World → Prop} (hgd : o.guard = none) (w : World) (s x : Operand) (t : TypeId)
    (ho : o.op = .call { callee := .builtin .append, args := #[s, x], argTypes := #[t, t] })
    (base : Nat) (e : TypeId) (bytes : Nat) (el : Elem P t e E.size bytes) (S : Nat → Prop) (v : Value) (l : List α) (hs : a.eval s = v) (hown : Own E w S base e v l)
    (A : Option Addr) (c : Nat) (S' : Nat → Prop) (m : List α) (hx : a.eval x = .slice A m.length c) (hsrc : E.slice.R w S' [.slice A m.length c] m) (hone : ∀ cs a S', E.R w S' cs a → ∀ u ∈ cs, u.oneCell' = true)
    (hcap : l.length + m.length ≤ maxLen) (hbytes : (l.length + m.length) * bytes ≤ 140737488355328) (hbase : base ≤ w.heap.size) (hS' : ∀ k, S' k → S k) (hSv : ∀ k, v.ownBlock = some k → ¬ S k)
    (h : ∀ v' w', Own E w' S base e v' (l ++ m) → w.grownBy w' v.ownBlock → (v'.ownBlock = v.ownBlock ∨ v'.ownBlock = some w.heap.size) → wpList P ops Q rest (a.put o.dst v') w') : wpList P ops Q (o :: rest) a w :=
  wpList_plain hgd fun _ hK => wp_append_rp w s x t ho base e bytes el S v l hs hown A c S' m hx hsrc hone hcap hbytes hbase hS' hSv fun v' w' h2 h3 h4 => hK _ _ (h v' w' h2 h3 h4)

/-- append([]T{}, l...): a copy in new memory. -/
theorem wp_copy_lit {o : Oper} {a : Act} {K : Act → World → Prop} {Q : Exit → Act → World → Prop} (w : World) (s x : Operand) (t : TypeId)
    (ho : o.op = .call { callee := .builtin .append, args := #[s, x], argTypes := #[t, t] })
    (e : TypeId) (bytes : Nat) (el : Elem P t e E.size bytes) (hs : a.eval s = .slice (some ⟨w.heap.size, 0, none⟩) 0 0)
    (A : Option Addr) (c : Nat) (S : Nat → Prop) (m : List α) (hx : a.eval x = .slice A m.length c) (hsrc : E.slice.R w S [.slice A m.length c] m) (hone : ∀ cs a S', E.R (w.alloc (.cells #[] e)) S' cs a → ∀ u ∈ cs, u.oneCell' = true)
    (hbytes : m.length * bytes ≤ 140737488355328)
    (h : ∀ A' c' w', Own E w' S w.heap.size e (.slice A' m.length c') m → Kp No w w' → K (a.put o.dst (.slice A' m.length c')) w') : o.wp P a (w.alloc (.cells #[] e)) K Q := by
  have hcap : m.length ≤ maxLen := by obtain ⟨_, _, _, h1, h2, _⟩ := hsrc; omega
  refine wp_append_rp (E := E) (w.alloc (.cells #[] e)) s x t ho w.heap.size e bytes el (fun k => S k ∧ k < w.heap.size) _ [] hs (Own.lit (heap_alloc_new w _) (Nat.le_refl _)) A c (fun k => S k ∧ k < w.heap.size) m hx
    (E.slice.keptNo (E.slice.bnd hsrc) ((Kp.refl _ _).alloc _)) hone (by simpa using hcap) (by simpa using hbytes) (by simp) (fun k hk => hk) ?_ ?_
  · intro k hk hk2
    have hk : w.heap.size = k := by injection hk
    exact absurd hk2.2 (by omega)
  · intro v' w' hown hg _
    obtain ⟨A', c', rfl⟩ := hown.shape
    simp only [List.nil_append] at hown ⊢
    refine h A' c' w' (hown.mono (Nat.le_refl _) (fun k hk => hk.1)) (((Kp.refl _ _).alloc _).grown hg (fun g hg hlt => ?_))
    have hg : w.heap.size = g := by injection hg
    exact absurd hlt (by omega)
theorem wpList_copy_lit {ops : Array Oper} {rest : List Oper} {o : Oper} {a : Act} {Q : Exit → Act → World → Prop} (hgd : o.guard = none) (w : World) (s x : Operand) (t : TypeId)
    (ho : o.op = .call { callee := .builtin .append, args := #[s, x], argTypes := #[t, t] })
    (e : TypeId) (bytes : Nat) (el : Elem P t e E.size bytes) (hs : a.eval s = .slice (some ⟨w.heap.size, 0, none⟩) 0 0)
    (A : Option Addr) (c : Nat) (S : Nat → Prop) (m : List α) (hx : a.eval x = .slice A m.length c) (hsrc : E.slice.R w S [.slice A m.length c] m) (hone : ∀ cs a S', E.R (w.alloc (.cells #[] e)) S' cs a → ∀ u ∈ cs, u.oneCell' = true)
    (hbytes : m.length * bytes ≤ 140737488355328)
    (h : ∀ A' c' w', Own E w' S w.heap.size e (.slice A' m.length c') m → Kp No w w' → wpList P ops Q rest (a.put o.dst (.slice A' m.length c')) w') : wpList P ops Q (o :: rest) a (w.alloc (.cells #[] e)) :=
  wpList_plain hgd fun _ hK => wp_copy_lit w s x t ho e bytes el hs A c S m hx hsrc hone hbytes fun A' c' w' h1 h2 => hK _ _ (h A' c' w' h1 h2)

/-- The same, the world between as it may be. -/
theorem wp_copy_at {o : Oper} {a : Act} {K : Act → World → Prop} {Q : Exit → Act → World → Prop} (w w2 : World) (g : Nat) (s x : Operand) (t : TypeId)
    (ho : o.op = .call { callee := .builtin .append, args := #[s, x], argTypes := #[t, t] })
    (e : TypeId) (bytes : Nat) (el : Elem P t e E.size bytes) (hs : a.eval s = .slice (some ⟨g, 0, none⟩) 0 0) (hg : w2.heap[g]? = some (.cells #[] e (0, 0))) (hgw : w.heap.size ≤ g) (hk : Kp No w w2)
    (A : Option Addr) (c : Nat) (S : Nat → Prop) (m : List α) (hx : a.eval x = .slice A m.length c) (hsrc : E.slice.R w S [.slice A m.length c] m) (hone : ∀ cs a S', E.R w2 S' cs a → ∀ u ∈ cs, u.oneCell' = true)
    (hbytes : m.length * bytes ≤ 140737488355328)
    (h : ∀ A' c' w', Own E w' S g e (.slice A' m.length c') m → Kp No w w' → K (a.put o.dst (.slice A' m.length c')) w') : o.wp P a w2 K Q := by
  have hcap : m.length ≤ maxLen := by obtain ⟨_, _, _, h1, h2, _⟩ := hsrc; omega
  have hlt : g < w2.heap.size := (Array.getElem?_eq_some_iff.1 hg).1
  refine wp_append_rp (E := E) w2 s x t ho g e bytes el (fun k => S k ∧ k < w.heap.size) _ [] hs (Own.lit hg (Nat.le_refl _)) A c (fun k => S k ∧ k < w.heap.size) m hx
    (E.slice.keptNo (E.slice.bnd hsrc) hk) hone (by simpa using hcap) (by simpa using hbytes) (by omega) (fun k hk => hk) ?_ ?_
  · intro k hk hk2
    have hk : g = k := by injection hk
    exact absurd hk2.2 (by omega)
  · intro v' w' hown hgr _
    obtain ⟨A', c', rfl⟩ := hown.shape
    simp only [List.nil_append] at hown ⊢
    refine h A' c' w' (hown.mono (Nat.le_refl _) (fun k hk => hk.1)) (hk.grown hgr (fun g' hg' hlt => ?_))
    have hg' : g = g' := by injection hg'
    exact absurd hlt (by omega)
theorem wpList_copy_at {ops : Array Oper} {rest : List Oper} {o : Oper} {a : Act} {Q : Exit → Act → World → Prop} (hgd : o.guard = none) (w w2 : World) (g : Nat) (s x : Operand) (t : TypeId)
    (ho : o.op = .call { callee := .builtin .append, args := #[s, x], argTypes := #[t, t] })
    (e : TypeId) (bytes : Nat) (el : Elem P t e E.size bytes) (hs : a.eval s = .slice (some ⟨g, 0, none⟩) 0 0) (hg : w2.heap[g]? = some (.cells #[] e (0, 0))) (hgw : w.heap.size ≤ g) (hk : Kp No w w2)
    (A : Option Addr) (c : Nat) (S : Nat → Prop) (m : List α) (hx : a.eval x = .slice A m.length c) (hsrc : E.slice.R w S [.slice A m.length c] m) (hone : ∀ cs a S', E.R w2 S' cs a → ∀ u ∈ cs, u.oneCell' = true)
    (hbytes : m.length * bytes ≤ 140737488355328)
    (h : ∀ A' c' w', Own E w' S g e (.slice A' m.length c') m → Kp No w w' → wpList P ops Q rest (a.put o.dst (.slice A' m.length c')) w') : wpList P ops Q (o :: rest) a w2 :=
  wpList_plain hgd fun _ hK => wp_copy_at w w2 g s x t ho e bytes el hs hg hgw hk A c S m hx hsrc hone hbytes fun A' c' w' h1 h2 => hK _ _ (h A' c' w' h1 h2)

theorem step_append_rp {ops : Array Oper} {o : Oper} {a : Act} {K : Act → World → Prop} {Q : Exit → Act → World → Prop} {F : Prop} (hgd : o.guard = none) (w : World) (s x : Operand) (t : TypeId)
    (ho : o.op = .call { callee := .builtin .append, args := #[s, x], argTypes := #[t, t] })
    (base : Nat) (e : TypeId) (bytes : Nat) (el : Elem P t e E.size bytes) (S : Nat → Prop) (v : Value) (l : List α) (hs : a.eval s = v) (hown : Own E w S base e v l)
    (A : Option Addr) (c : Nat) (S' : Nat → Prop) (m : List α) (hx : a.eval x = .slice A m.length c) (hsrc : E.slice.R w S' [.slice A m.length c] m) (hone : ∀ cs a S', E.R w S' cs a → ∀ u ∈ cs, u.oneCell' = true)
    (hcap : l.length + m.length ≤ maxLen) (hbytes : (l.length + m.length) * bytes ≤ 140737488355328) (hbase : base ≤ w.heap.size) (hS' : ∀ k, S' k → S k) (hSv : ∀ k, v.ownBlock = some k → ¬ S k)
    (h : ∀ v' w', Own E w' S base e v' (l ++ m) → w.grownBy w' v.ownBlock → (v'.ownBlock = v.ownBlock ∨ v'.ownBlock = some w.heap.size) → K (a.put o.dst v') w') :
    if Region.wanted o (yielded ops a.tmps) = true then Oper.wp P o a w K Q else F := by
  have hw : Region.wanted o (yielded ops a.tmps) = true := by simp [Region.wanted, hgd]
  rw [if_pos hw]
  exact wp_append_rp w s x t ho base e bytes el S v l hs hown A c S' m hx hsrc hone hcap hbytes hbase hS' hSv h
end

theorem Rp.int_one {k : IntKind} {w : World} : ∀ cs a S', (Rp.int k).R w S' cs a → ∀ u ∈ cs, u.oneCell' = true := by
  rintro cs a S' ⟨rfl, _⟩ u hu
  simp only [List.mem_cons, List.not_mem_nil, or_false] at hu
  subst hu; rfl
theorem Rp.str_one {w : World} : ∀ cs a S', Rp.str.R w S' cs a → ∀ u ∈ cs, u.oneCell' = true := by
  rintro cs a S' ⟨rfl, _⟩ u hu
  simp only [List.mem_cons, List.not_mem_nil, or_false] at hu
  subst hu; rfl
theorem Rp.slice_one {α : Type} {E : Rp α} {w : World} : ∀ cs a S', E.slice.R w S' cs a → ∀ u ∈ cs, u.oneCell' = true := by
  rintro cs a S' ⟨A, c, rfl, _⟩ u hu
  simp only [List.mem_cons, List.not_mem_nil, or_false] at hu
  subst hu; rfl
end Go.Proofs.Ytbncblnchcmgbaa
