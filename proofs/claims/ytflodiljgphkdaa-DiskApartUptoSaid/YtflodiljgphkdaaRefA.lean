/-
  The document's drive in memory: its files as a row of structs.
-/
import Derived.Test.YtflodiljgphkdaaDskP
import Derived.Test.YtflodiljgphkdaaBy
import Derived.Test.YtflodiljgphkdaaW32
namespace Go.Proofs.Ytflodiljgphkdaa
open Go.RowKit Go.ChangeShapes Go.WideShapes Go.ChangeAt

/-- a file's cells: its name, what lasts, what waits, was it synced or kept -/
def enc4 (p : ByteArray × FV) : List Value := [.string p.1, .string (bs (p.2.bytes.take p.2.sure)), .string (bs (p.2.bytes.drop p.2.sure)), .bool p.2.old]
def Rp.rf : Rp (ByteArray × FV) where
  size := 4
  R _ _ cs p := cs = enc4 p
  μ _ := 1
  pos := by omega
  len h := by rw [h]; rfl
  keep _ _ h := h
  bnd h := h
theorem Rp.rf_one {w : World} : ∀ cs a S', Rp.rf.R w S' cs a → ∀ u ∈ cs, u.oneCell' = true := by
  intro cs a S' h u hu
  rw [show cs = enc4 a from h] at hu
  simp only [enc4, List.mem_cons, List.not_mem_nil, or_false] at hu
  rcases hu with rfl | rfl | rfl | rfl <;> rfl
theorem el_rf : Elem Try.prog 100 106 4 56 := Elem.of Try.underlying100 (z := .agg #[.string ByteArray.empty, .string ByteArray.empty, .string ByteArray.empty, .bool false]) (by kernel_rfl) rfl (by decide)
theorem Own.rf_any {w : World} {S : Nat → Prop} {base : Nat} {e : TypeId} {v : Value} {l : List (ByteArray × FV)} (h : Own Rp.rf w S base e v l) (S' : Nat → Prop) : Own Rp.rf w S' base e v l := by
  obtain ⟨xs, h1, h2, h3⟩ := h
  exact ⟨xs, h1, h2, fun i a ha => h3 i a ha⟩

/-- the block that a row takes: none, if it is empty -/
def rblk : Value → Option Nat
  | .slice (some a) n _ => if n = 0 then none else some a.block
  | _ => none
/-- The row v holds just these files, in a block of its own. -/
def RS (w : World) (v : Value) (l : List (ByteArray × FV)) : Prop :=
  ∃ A c, v = .slice A l.length c ∧ l.length ≤ c ∧ c ≤ maxLen ∧ (0 < l.length → ∃ g cur, A = some ⟨g, 0, none⟩ ∧ w.heap[g]? = some (.cells cur 106 (0, 0)) ∧
    ∀ (i : Nat) p, l[i]? = some p → ∀ (j : Nat) u, (enc4 p)[j]? = some u → cur[i * 4 + j]? = some u)
namespace RS
variable {w w' : World} {v : Value} {l : List (ByteArray × FV)}
theorem nil (w : World) : RS w (.slice none 0 0) [] := ⟨none, 0, rfl, Nat.le_refl _, Nat.zero_le _, fun h => absurd h (by simp)⟩
theorem blk {A : Option Addr} {n c : Nat} (h : RS w (.slice A n c) l) (hl : 0 < l.length) : ∃ g cur, A = some ⟨g, 0, none⟩ ∧ rblk (.slice A n c) = some g ∧ w.heap[g]? = some (.cells cur 106 (0, 0)) ∧
    ∀ (i : Nat) p, l[i]? = some p → ∀ (j : Nat) u, (enc4 p)[j]? = some u → cur[i * 4 + j]? = some u := by
  obtain ⟨A', c', he, _, _, h3⟩ := h
  injection he with e1 e2 e3
  subst e1 e2 e3
  obtain ⟨g, cur, rfl, h4, h5⟩ := h3 hl
  exact ⟨g, cur, rfl, by show (if l.length = 0 then none else some g) = _; rw [if_neg (by omega)], h4, h5⟩
theorem types (h : RS w v l) {k : Nat} (hk : rblk v = some k) : ∃ cs, w.heap[k]? = some (.cells cs 106 (0, 0)) := by
  obtain ⟨A, c, rfl, _, _, h3⟩ := id h
  by_cases hl : 0 < l.length
  · obtain ⟨g, cur, rfl, h4, h5, _⟩ := h.blk hl
    rw [h4] at hk; injection hk with hk; subst hk
    exact ⟨cur, h5⟩
  · have h0 : l.length = 0 := by omega
    rw [h0] at hk
    cases A <;> cases hk
theorem keep (h : RS w v l) (hk : ∀ k, rblk v = some k → w'.heap[k]? = w.heap[k]?) : RS w' v l := by
  obtain ⟨A, c, rfl, h1, h2, h3⟩ := id h
  refine ⟨A, c, rfl, h1, h2, fun hl => ?_⟩
  obtain ⟨g, cur, rfl, h4, h5, h6⟩ := h.blk hl
  exact ⟨g, cur, rfl, (hk g h4).trans h5, h6⟩
theorem lt (h : RS w v l) {k : Nat} (hk : rblk v = some k) : k < w.heap.size := by
  obtain ⟨cs, h1⟩ := h.types hk
  exact (Array.getElem?_eq_some_iff.1 h1).1
theorem kept {S : Nat → Prop} (h : RS w v l) (hk : Kp S w w') (hs : ∀ k, rblk v = some k → ¬ S k) : RS w' v l := h.keep fun k hk' => hk.block k (h.lt hk') (hs k hk')
theorem keptNo (h : RS w v l) (hk : Kp No w w') : RS w' v l := h.kept hk fun _ _ x => x
theorem cell {A : Option Addr} {n c : Nat} (h : RS w (.slice A n c) l) {i : Nat} {p : ByteArray × FV} (hi : l[i]? = some p) :
    ∃ g, A = some ⟨g, 0, none⟩ ∧ rblk (.slice A n c) = some g ∧ (∀ (j : Nat) u, (enc4 p)[j]? = some u → w.cell? ⟨g, i * 4 + j, none⟩ = some u) ∧ ∀ j, w.frozen? ⟨g, j, none⟩ = false := by
  obtain ⟨g, cur, rfl, h4, h5, h6⟩ := h.blk (by have := (List.getElem?_eq_some_iff.1 hi).1; omega)
  refine ⟨g, rfl, h4, fun j u hu => ?_, fun j => by simp [World.frozen?, h5]⟩
  have := h6 i p hi j u hu
  simp [World.cell?, h5, this]
theorem set {g n c : Nat} (h : RS w (.slice (some ⟨g, 0, none⟩) n c) l) {i j : Nat} {p q : ByteArray × FV} (hi : l[i]? = some p) {u : Value} (hj : j < 4) (hq : enc4 q = (enc4 p).set j u) : RS (w.setCell ⟨g, i * 4 + j, none⟩ u) (.slice (some ⟨g, 0, none⟩) n c) (l.set i q) := by
  have hil := (List.getElem?_eq_some_iff.1 hi).1
  obtain ⟨g', cur, he, h4, h5, h6⟩ := h.blk (by omega)
  injection he with he
  injection he with he
  subst he
  obtain ⟨A, c', he, h1, h2, _⟩ := h
  injection he with e1 e2 e3
  subst e1 e2 e3
  refine ⟨_, _, by rw [List.length_set], by rw [List.length_set]; exact h1, h2, fun _ => ⟨g, cur.setIfInBounds (i * 4 + j) u, rfl, ?_, ?_⟩⟩
  · simp [World.setCell, Array.getElem?_modify, h5, Array.setIfInBounds_def]
    try omega
  · intro i' p' hi' j' u' hu'
    rw [List.getElem?_set] at hi'
    have hlen4 : ∀ p : ByteArray × FV, (enc4 p).length = 4 := fun _ => rfl
    have hj' : j' < 4 := by have := (List.getElem?_eq_some_iff.1 hu').1; rw [hlen4] at this; exact this
    rw [Array.getElem?_setIfInBounds]
    by_cases e : i = i'
    · subst e
      rw [if_pos rfl, if_pos hil] at hi'
      injection hi' with hi'
      subst hi'
      rw [hq, List.getElem?_set] at hu'
      by_cases ej : j = j'
      · subst ej
        rw [if_pos rfl, if_pos (by rw [hlen4]; exact hj)] at hu'
        rw [if_pos rfl]
        have hin : i * 4 + j < cur.size := by
          obtain ⟨u0, hu0⟩ : ∃ u0, (enc4 p)[j]? = some u0 := ⟨_, List.getElem?_eq_getElem (by rw [hlen4]; exact hj)⟩
          exact (Array.getElem?_eq_some_iff.1 (h6 i p hi j u0 hu0)).1
        rw [if_pos hin]; exact hu'
      · rw [if_neg ej] at hu'
        rw [if_neg (by omega)]
        exact h6 i p hi j' u' hu'
    · rw [if_neg e] at hi'
      rw [if_neg (by omega)]
      exact h6 i' p' hi' j' u' hu'
/-- cut behind, without room -/
theorem take {A : Option Addr} {n c : Nat} (h : RS w (.slice A n c) l) {k : Nat} (hk : k ≤ l.length) : RS w (.slice A k k) (l.take k) := by
  have hl : (l.take k).length = k := by rw [List.length_take]; omega
  obtain ⟨A', c', he, h1, h2, h3⟩ := h
  injection he with e1 e2 e3
  subst e1 e2 e3
  refine ⟨A, k, by rw [hl], by omega, by omega, fun h0 => ?_⟩
  obtain ⟨g, cur, rfl, h4, h5⟩ := h3 (by omega)
  refine ⟨g, cur, rfl, h4, fun i p hi => h5 i p ?_⟩
  have := (List.getElem?_eq_some_iff.1 hi).1
  rwa [List.getElem?_take_of_lt (by omega)] at hi
/-- as a row that is read -/
theorem read (h : RS w v l) : Rp.rf.slice.R w (fun k => rblk v = some k) [v] l := by
  obtain ⟨A, c, rfl, h1, h2, h3⟩ := id h
  refine ⟨A, c, rfl, h1, h2, fun hl => ?_⟩
  obtain ⟨g, cur, rfl, h4, h5, h6⟩ := h.blk hl
  refine ⟨_, rfl, h4, fun i p hi => ⟨enc4 p, fun j u hu => ?_, rfl⟩⟩
  have := h6 i p hi j u hu
  rw [Addr.add_lit, Addr.add_lit]
  show w.cell? ⟨g, 0 + i * 4 + j, none⟩ = _
  rw [Nat.zero_add]
  simp [World.cell?, h5, this]
theorem of_own {S : Nat → Prop} {base : Nat} (h : Own Rp.rf w S base 106 v l) : RS w v l ∧ ∀ k, rblk v = some k → base ≤ k := by
  obtain ⟨xs, ⟨h0, h1⟩, _, h3⟩ := h
  rcases h1 with ⟨rfl, h1⟩ | ⟨g, cap, cur, rfl, hb, hg, hn, hm, hc, ht⟩
  · have : l = [] := List.eq_nil_of_length_eq_zero h1
    subst this
    exact ⟨nil w, fun k hk => by cases hk⟩
  · refine ⟨⟨_, _, rfl, hn, hm, fun _ => ⟨g, cur, rfl, hg, fun i p hi j u hu => ?_⟩⟩, fun k hk => ?_⟩
    · have h4 : (xs.drop (i * 4)).take 4 = enc4 p := h3 i p hi
      have hj : j < 4 := by have := (List.getElem?_eq_some_iff.1 hu).1; have e : (enc4 p).length = 4 := rfl; omega
      rw [← h4, List.getElem?_take_of_lt hj, List.getElem?_drop] at hu
      rw [← Array.getElem?_toList]
      have hlt : i * 4 + j < l.length * 4 := by have := (List.getElem?_eq_some_iff.1 hi).1; omega
      rw [← ht, List.getElem?_take_of_lt (by exact hlt)] at hu
      exact hu
    · have hk : (if l.length = 0 then none else some g) = some k := hk
      split at hk
      · cases hk
      · injection hk with hk
        rw [← hk]; exact hb
end RS

/-- append to a row without room: all of it anew -/
theorem run_append_full {α : Type} {E : Rp α} {P : Program} (w : World) (t ty e : TypeId) (bytes : Nat) (el : Elem P t e E.size bytes) (S : Nat → Prop) (A : Option Addr) (l : List α) (hl : E.slice.R w S [.slice A l.length l.length] l)
    (B : Option Addr) (c : Nat) (m : List α) (hm : E.slice.R w S [.slice B m.length c] m) (h0 : 0 < m.length) (hone : ∀ cs a S', E.R w S' cs a → ∀ u ∈ cs, u.oneCell' = true)
    (hcap : l.length + m.length ≤ maxLen) (hbytes : (l.length + m.length) * bytes ≤ 140737488355328) :
    ∃ A' c' w', (Builtin.append_ #[t, t] ty #[.slice A l.length l.length, .slice B m.length c]).run P w = .ok (.slice A' (l ++ m).length c') w' ∧ Own E w' S w.heap.size e (.slice A' (l ++ m).length c') (l ++ m) ∧ Kp No w w' := by
  obtain ⟨olds, o1, o2, o3⟩ := Rp.news hl
  obtain ⟨news, n1, n2, n3⟩ := Rp.news hm
  obtain ⟨b, rfl, _, hnews⟩ := n2 h0
  obtain ⟨ht, i, z, hi, hz, hsize, hby, hzs, hpos⟩ := el
  have hones : ∀ (xs : List Value) (l : List α) (_ : xs.length = l.length * E.size) (_ : ∀ (i : Nat) a, l[i]? = some a → E.R w S ((xs.drop (i * E.size)).take E.size) a), ∀ u ∈ xs, u.oneCell' = true := by
    intro xs l hx hr u hu
    obtain ⟨j, hj, rfl⟩ := List.mem_iff_getElem.1 hu
    have hq : j / E.size < l.length := by rw [Nat.div_lt_iff_lt_mul E.pos]; omega
    have h7 := hr (j / E.size) l[j / E.size] (List.getElem?_eq_getElem hq)
    refine hone _ _ _ h7 _ (List.mem_of_getElem? (i := j % E.size) ?_)
    rw [List.getElem?_take_of_lt (Nat.mod_lt _ E.pos), List.getElem?_drop]
    have : j / E.size * E.size + j % E.size = j := by rw [Nat.mul_comm]; exact Nat.div_add_mod j E.size
    rw [this]
    exact List.getElem?_eq_getElem hj
  have hlen2 : (l ++ m).length = l.length + m.length := List.length_append
  have hxl : (olds ++ news).length = (l.length + m.length) * E.size := by rw [List.length_append, o1, n1, Nat.add_mul]
  have hge := grownCap_ge w (l.length + m.length) l.length e
  have hgm : grownCap w (l.length + m.length) l.length e ≤ maxLen := grownCap_le_maxLen w (l.length + m.length) l.length e hcap
  have hkp : Kp No w (w.drew.alloc (.cells (olds.toArray ++ news.toArray ++ Builtin.zeroCells z.cells (grownCap w (l.length + m.length) l.length e - (l.length + m.length))) e)) := ((Kp.refl _ w).drew).alloc _
  have hown : Own E (w.drew.alloc (.cells (olds.toArray ++ news.toArray ++ Builtin.zeroCells z.cells (grownCap w (l.length + m.length) l.length e - (l.length + m.length))) e)) S w.heap.size e (.slice (some ⟨w.heap.size, 0, none⟩) (l ++ m).length (grownCap w (l.length + m.length) l.length e)) (l ++ m) := by
    refine ⟨olds ++ news, ⟨by rw [hlen2, hxl], .inr ⟨w.heap.size, _, _, rfl, Nat.le_refl _, heap_alloc_new w.drew _, by rw [hlen2]; exact hge, hgm, ?_, ?_⟩⟩, ?_, ?_⟩
    · simp only [Array.size_append, List.size_toArray, size_zeroCells, hzs, o1, n1, ← Nat.add_mul]
      congr 1
      omega
    · simp only [Array.toList_append, List.append_assoc]
      rw [← List.append_assoc, hlen2, ← hxl]
      exact List.take_left
    · intro u hu
      rcases List.mem_append.1 hu with h | h
      · exact hones olds l o1 o3 u h
      · exact hones news m n1 n3 u h
    · intro i a ha
      refine E.keptNo ?_ hkp
      rcases Nat.lt_or_ge i l.length with hlt | hge
      · rw [List.getElem?_append_left hlt] at ha
        have h7 := o3 i a ha
        have hle : (i + 1) * E.size ≤ l.length * E.size := Nat.mul_le_mul_right _ hlt
        rw [Nat.succ_mul] at hle
        rw [List.drop_append_of_le_length (by omega), List.take_append_of_le_length (by rw [List.length_drop]; omega)]
        exact h7
      · rw [List.getElem?_append_right hge] at ha
        have h7 := n3 _ a ha
        have hle : l.length * E.size ≤ i * E.size := Nat.mul_le_mul_right _ hge
        rw [List.drop_append, List.drop_eq_nil_of_le (by omega), List.nil_append, o1, ← Nat.sub_mul]
        exact h7
  have h63 : ((l.length + m.length : Nat) : Int) ≤ 9223372036854775807 := by unfold maxLen at hcap; omega
  cases A with
  | some a =>
    have holds : ∀ (j : Nat) u, olds[j]? = some u → w.cell? (a.add j) = some u := by
      intro j u hu
      have hl0 : 0 < l.length := by
        rcases Nat.eq_zero_or_pos l.length with h | h
        · have : olds = [] := List.eq_nil_of_length_eq_zero (by simpa [h] using o1)
          rw [this] at hu; simp at hu
        · exact h
      obtain ⟨a', ha', _, hc⟩ := o2 hl0
      injection ha' with ha'
      subst ha'
      exact hc j u hu
    have hr := run_append_grow (P := P) w t ty e i z ht hi hz a l.length l.length olds (by rw [hsize]; exact o1) holds b m.length c news (by rw [hsize]; exact n1) hnews (by omega) h63 (by rw [hby]; exact growslice_fits (by omega) hbytes)
    exact ⟨_, _, _, by rw [hlen2]; exact hr, by rw [hlen2] at hown ⊢; exact hown, hkp⟩
  | none =>
    have hl0 : l.length = 0 := by
      rcases Nat.eq_zero_or_pos l.length with h | h
      · exact h
      · obtain ⟨_, ha, _⟩ := o2 h; cases ha
    have ho : olds = [] := List.eq_nil_of_length_eq_zero (by simpa [hl0] using o1)
    have hr := run_append_nil (P := P) w t ty e i z ht hi hz b m.length c news (by rw [hsize]; exact n1) hnews h0 (by omega) (by rw [hby]; simp only [hl0, Nat.zero_add] at hbytes; omega)
    subst ho
    rw [hl0] at hown hkp hlen2 ⊢
    simp only [Nat.zero_add, Array.empty_append] at hown hkp hlen2
    exact ⟨_, _, _, by rw [hlen2]; exact hr, by rw [hlen2] at hown ⊢; simpa using hown, by simpa using hkp⟩
theorem wpList_append_full {α : Type} {E : Rp α} {P : Program} {ops : Array Oper} {rest : List Oper} {o : Oper} {a : Act} {Q : Exit → Act → World → Prop} (hgd : o.guard = none) (w : World) (s x : Operand) (t : TypeId)
    (ho : o.op = .call { callee := .builtin .append, args := #[s, x], argTypes := #[t, t] }) (e : TypeId) (bytes : Nat) (el : Elem P t e E.size bytes) (S : Nat → Prop) (A : Option Addr) (l : List α) (hs : a.eval s = .slice A l.length l.length) (hl : E.slice.R w S [.slice A l.length l.length] l)
    (B : Option Addr) (c : Nat) (m : List α) (hx : a.eval x = .slice B m.length c) (hm : E.slice.R w S [.slice B m.length c] m) (h0 : 0 < m.length) (hone : ∀ cs a S', E.R w S' cs a → ∀ u ∈ cs, u.oneCell' = true)
    (hcap : l.length + m.length ≤ maxLen) (hbytes : (l.length + m.length) * bytes ≤ 140737488355328)
    (h : ∀ A' c' w', Own E w' S w.heap.size e (.slice A' (l ++ m).length c') (l ++ m) → Kp No w w' → wpList P ops Q rest (a.put o.dst (.slice A' (l ++ m).length c')) w') : wpList P ops Q (o :: rest) a w := by
  refine wpList_plain hgd fun K hK => ?_
  obtain ⟨A', c', w', hr, h2, h3⟩ := run_append_full (P := P) w t o.type e bytes el S A l hl B c m hm h0 hone hcap hbytes
  unfold Oper.wp execOp
  simp only [ho, resolve, invoke, builtin, Sem.run_bind, Sem.run_pure, Result.andThen_ok, List.map_toArray, List.map_cons, List.map_nil, hs, hx, hr]
  exact hK _ _ (h A' c' w' h2 h3)
/-- append of nothing -/
theorem wpList_append_none {P : Program} {ops : Array Oper} {rest : List Oper} {o : Oper} {a : Act} {Q : Exit → Act → World → Prop} (hgd : o.guard = none) (w : World) (s x : Operand) (t e : TypeId)
    (ho : o.op = .call { callee := .builtin .append, args := #[s, x], argTypes := #[t, t] }) (size bytes : Nat) (el : Elem P t e size bytes) (A : Option Addr) (n c : Nat) (hnc : n ≤ c) (hs : a.eval s = .slice A n c)
    (B : Option Addr) (c2 : Nat) (hx : a.eval x = .slice B 0 c2) (h : wpList P ops Q rest (a.put o.dst (.slice A n c)) w) : wpList P ops Q (o :: rest) a w := by
  refine wpList_plain hgd fun K hK => ?_
  obtain ⟨ht, i, z, hi, hz, hsize, hby, hzs, hpos⟩ := el
  have hr : (Builtin.append_ #[t, t] o.type #[.slice A n c, .slice B 0 c2]).run P w = .ok (.slice A n c) w := by
    cases B with
    | none => cases A <;> simp [Builtin.append_, run_underlying ht, sizeOf, typeInfo, hi, Builtin.lenOf, Builtin.firstCells, hnc, storeCells, Sem.run_pure]
    | some b =>
      have hf := run_firstCells_some (P := P) w i.size 0 b 0 c2 [] (by simp) (by simp)
      cases A <;> simp [Builtin.append_, run_underlying ht, sizeOf, typeInfo, hi, Builtin.lenOf, hnc, hf, storeCells, Sem.run_pure]
  unfold Oper.wp execOp
  simp only [ho, resolve, invoke, builtin, Sem.run_bind, Sem.run_pure, Result.andThen_ok, List.map_toArray, List.map_cons, List.map_nil, hs, hx, hr]
  exact hK _ _ h
end Go.Proofs.Ytflodiljgphkdaa
