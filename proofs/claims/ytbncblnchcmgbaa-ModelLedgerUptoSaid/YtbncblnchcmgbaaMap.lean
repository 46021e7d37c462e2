/-
  Maps, as the lists of their entries: what a lookup, a store, a delete do, whatever the elements are.
-/
import Derived.Test.YtbncblnchcmgbaaBase
import Derived.Maps.Own
namespace Go.Proofs.Ytbncblnchcmgbaa
open Go.RowKit Go.ChangeShapes Go.WideShapes Go.ChangeAt

/-- the first entry of a key: its place and its value -/
def findIx {κ : Type} [DecidableEq κ] (k : κ) : List (κ × Value) → Option (Nat × Value)
  | [] => none
  | (k', v) :: l => if k = k' then some (0, v) else (findIx k l).map fun x => (x.1 + 1, x.2)
/-- what a map has at a key -/
def mget {κ ν : Type} [DecidableEq κ] (k : κ) : List (κ × ν) → Option ν
  | [] => none
  | (k', v) :: l => if k = k' then some v else mget k l
/-- a store: in its place, or behind all others -/
def mput {κ ν : Type} [DecidableEq κ] (k : κ) (v : ν) : List (κ × ν) → List (κ × ν)
  | [] => [(k, v)]
  | (k', v') :: l => if k = k' then (k, v) :: l else (k', v') :: mput k v l
/-- a delete -/
def mdel {κ ν : Type} [DecidableEq κ] (k : κ) : List (κ × ν) → List (κ × ν)
  | [] => []
  | (k', v') :: l => if k = k' then l else (k', v') :: mdel k l

section
variable {κ ν : Type} [DecidableEq κ]
theorem mget_put_same (k : κ) (v : ν) : ∀ l : List (κ × ν), mget k (mput k v l) = some v
  | [] => by simp [mput, mget]
  | (k', v') :: l => by
    unfold mput
    split
    · simp [mget]
    · rename_i h; rw [mget, if_neg h]; exact mget_put_same k v l
theorem mget_put_other {k k2 : κ} (v : ν) (h : k2 ≠ k) : ∀ l : List (κ × ν), mget k2 (mput k v l) = mget k2 l
  | [] => by simp [mput, mget, h]
  | (k', v') :: l => by
    unfold mput
    split
    · rename_i e; subst e; simp [mget, h]
    · simp only [mget]; rw [mget_put_other v h l]
theorem mget_put (k k2 : κ) (v : ν) (l : List (κ × ν)) : mget k2 (mput k v l) = if k2 = k then some v else mget k2 l := by
  split
  · rename_i h; subst h; exact mget_put_same _ _ _
  · rename_i h; exact mget_put_other v h l
theorem mem_keys_mput (k k2 : κ) (v : ν) : ∀ l : List (κ × ν), k2 ∈ (mput k v l).map (·.1) ↔ k2 = k ∨ k2 ∈ l.map (·.1)
  | [] => by simp [mput]
  | (k', v') :: l => by
    unfold mput
    split
    · rename_i e; subst e; simp
    · simp only [List.map_cons, List.mem_cons, mem_keys_mput k k2 v l]
      constructor
      · rintro (h | h | h) <;> simp [h]
      · rintro (h | h | h) <;> simp [h]
theorem nodup_mput (k : κ) (v : ν) : ∀ l : List (κ × ν), (l.map (·.1)).Nodup → ((mput k v l).map (·.1)).Nodup
  | [], _ => by simp [mput]
  | (k', v') :: l, h => by
    simp only [List.map_cons, List.nodup_cons] at h
    unfold mput
    split
    · rename_i e; subst e; simpa using h
    · rename_i e
      simp only [List.map_cons, List.nodup_cons]
      refine ⟨fun hm => ?_, nodup_mput k v l h.2⟩
      rcases (mem_keys_mput k k' v l).1 hm with h1 | h1
      · exact e h1.symm
      · exact h.1 h1
theorem mget_none_iff (k : κ) : ∀ l : List (κ × ν), mget k l = none ↔ k ∉ l.map (·.1)
  | [] => by simp [mget]
  | (k', v') :: l => by
    simp only [mget, List.map_cons, List.mem_cons, not_or]
    split
    · rename_i e; simp [e]
    · rename_i e; rw [mget_none_iff k l]; simp [e]
theorem mem_keys_mdel {k k2 : κ} : ∀ {l : List (κ × ν)}, k2 ∈ (mdel k l).map (·.1) → k2 ∈ l.map (·.1)
  | (k', v') :: l, h => by
    unfold mdel at h
    split at h
    · exact List.mem_cons_of_mem _ h
    · simp only [List.map_cons, List.mem_cons] at h ⊢
      rcases h with h | h
      · exact .inl h
      · exact .inr (mem_keys_mdel h)
theorem nodup_mdel (k : κ) : ∀ l : List (κ × ν), (l.map (·.1)).Nodup → ((mdel k l).map (·.1)).Nodup
  | [], _ => by simp [mdel]
  | (k', v') :: l, h => by
    simp only [List.map_cons, List.nodup_cons] at h
    unfold mdel
    split
    · exact h.2
    · simp only [List.map_cons, List.nodup_cons]
      exact ⟨fun hm => h.1 (mem_keys_mdel hm), nodup_mdel k l h.2⟩
theorem mget_del (k k2 : κ) : ∀ l : List (κ × ν), (l.map (·.1)).Nodup → mget k2 (mdel k l) = if k2 = k then none else mget k2 l
  | [], _ => by simp [mdel, mget]
  | (k', v') :: l, h => by
    simp only [List.map_cons, List.nodup_cons] at h
    unfold mdel
    split
    · rename_i e
      subst e
      split
      · rename_i e2; subst e2; exact (mget_none_iff _ _).2 h.1
      · rename_i e2; rw [mget, if_neg e2]
    · rename_i e
      simp only [mget]
      rw [mget_del k k2 l h.2]
      by_cases e2 : k2 = k
      · subst e2; rw [if_neg e, if_pos rfl, if_pos rfl]
      · rw [if_neg e2, if_neg e2]
end

theorem bytes_beq (a b : ByteArray) : (a == b) = decide (a = b) := by
  by_cases h : a = b
  · subst h; simp only [decide_true]
    show (a.data == a.data) = true
    simp
  · simp only [h, decide_false]
    show (a.data == b.data) = false
    rw [beq_eq_false_iff_ne]
    intro e
    apply h
    cases a; cases b; simp_all

/-- Keys of a type, as Lean's values: how they are found. -/
structure KeyOk (P : Program) (T : TypeId) {κ : Type} [DecidableEq κ] (enc : κ → Value) : Prop where
  inj : ∀ a b, enc a = enc b → a = b
  check : ∀ b k w, (Instr.checkKey b 10000 T (enc k)).run P w = .ok () w
  find : ∀ (k : κ) (l : List (κ × Value)) (es : List MapEntry) w, es.map (fun e => (e.key, e.val)) = l.map (fun p => (enc p.1, p.2)) → (Instr.findKey T (enc k) es).run P w = .ok (findIx k l) w
  stays : ∀ k w, (Instr.keyThatStays (enc k) (enc k)).run P w = .ok (enc k) w

/-- Block b is a map of just these entries. -/
def MapOf {κ : Type} (w : World) (b : Nat) (enc : κ → Value) (l : List (κ × Value)) : Prop :=
  ∃ es clock, w.heap[b]? = some (.map es clock) ∧ es.toList.map (fun e => (e.key, e.val)) = l.map (fun p => (enc p.1, p.2)) ∧ (l.map (·.1)).Nodup ∧
    (∀ e ∈ es, e.born < clock) ∧ (es.toList.map (·.born)).Nodup

theorem findNow_eq {κ : Type} [DecidableEq κ] (kind : TypeDesc) (enc : κ → Value) (hsame : ∀ a b, Instr.sameNow kind (enc a) (enc b) = some (decide (a = b))) (k : κ) : ∀ (l : List (κ × Value)) (es : List MapEntry) (i : Nat),
    es.map (fun e => (e.key, e.val)) = l.map (fun p => (enc p.1, p.2)) → Instr.findNow kind (enc k) es i = some ((findIx k l).map fun x => (x.1 + i, x.2))
  | [], [], i, _ => rfl
  | [], _ :: _, _, h => by cases h
  | _ :: _, [], _, h => by cases h
  | (k', v) :: l, e :: es, i, h => by
    simp only [List.map_cons, List.cons.injEq, Prod.mk.injEq] at h
    obtain ⟨⟨h1, h2⟩, h3⟩ := h
    unfold Instr.findNow
    rw [h1, hsame]
    by_cases hk : k = k'
    · simp [hk, findIx, h2]
    · simp only [hk, decide_false]
      rw [findNow_eq kind enc hsame k l es (i + 1) h3]
      simp only [findIx, if_neg hk, Option.map_map, Option.some.injEq]
      congr 1
      funext x
      simp only [Function.comp, Prod.mk.injEq, and_true]
      omega

theorem KeyOk.string {P : Program} {T : TypeId} (hT : P.underlying T = some .string) : KeyOk P T (κ := ByteArray) Value.string where
  inj a b h := by injection h
  check b k w := by
    unfold Instr.checkKey
    simp [run_underlying hT]
  find k l es w h := by
    unfold Instr.findKey
    simp only [Sem.run_bind, run_underlying hT, Result.andThen_ok]
    rw [findNow_eq .string Value.string (fun a b => by simp [Instr.sameNow, bytes_beq]) k l es 0 h]
    simp
  stays k w := by
    unfold Instr.keyThatStays
    simp [Instr.sameBits, bytes_beq]

theorem KeyOk.int {P : Program} {T : TypeId} {q : IntKind} (hT : P.underlying T = some (.int q)) : KeyOk P T (κ := Int) (Value.int q) where
  inj a b h := by injection h
  check b k w := by
    unfold Instr.checkKey
    simp [run_underlying hT]
  find k l es w h := by
    unfold Instr.findKey
    simp only [Sem.run_bind, run_underlying hT, Result.andThen_ok]
    rw [findNow_eq (.int q) (Value.int q) (fun a b => by simp [Instr.sameNow]; rfl) k l es 0 h]
    simp
  stays k w := by
    unfold Instr.keyThatStays
    simp [Instr.sameBits]

set_option linter.unusedSectionVars false
section
variable {P : Program} {T K E : TypeId} {κ : Type} [DecidableEq κ] {enc : κ → Value} {w w' : World} {b : Nat} {l : List (κ × Value)}

theorem findIx_get (k : κ) : ∀ l : List (κ × Value), (findIx k l).map (·.2) = mget k l
  | [] => rfl
  | (k', v) :: l => by
    unfold findIx mget
    split
    · rfl
    · rw [← findIx_get k l, Option.map_map]; rfl

theorem MapOf.lt (h : MapOf w b enc l) : b < w.heap.size := by
  obtain ⟨es, clock, hb, _⟩ := h
  exact (Array.getElem?_eq_some_iff.1 hb).1
theorem MapOf.kept {S : Nat → Prop} (h : MapOf w b enc l) (hk : Kp S w w') (hs : ¬ S b) : MapOf w' b enc l := by
  have hlt := h.lt
  obtain ⟨es, clock, hb, h2⟩ := h
  exact ⟨es, clock, (hk.block b hlt hs).trans hb, h2⟩
theorem MapOf.made (w : World) : MapOf (w.alloc (.map #[] 0)) w.heap.size enc [] :=
  ⟨#[], 0, by show (w.heap.push _)[w.heap.size]? = _; simp, by simp, by simp, by simp, by simp⟩

/-- m[k] -/
theorem MapOf.look (hK : KeyOk P K enc) (ht : P.underlying T = some (.map K E)) (h : MapOf w b enc l) (k : κ) {z : Value} (hz : (zeroValue E).run P w = .ok z w) :
    (Instr.lookup T (.map (some b)) (enc k) false).run P w = .ok ((mget k l).getD z) w := by
  obtain ⟨es, clock, hb, h1, _⟩ := h
  unfold Instr.lookup
  simp only [Sem.run_bind, run_underlying ht, Result.andThen_ok]
  have hg : (getObj b).run P w = .ok (.map es clock) w := by show (Sem.getObj b Sem.pure).run P w = _; simp [Sem.run, hb]
  have hf := hK.find k l es.toList w h1
  rw [← findIx_get]
  cases hx : findIx k l with
  | none => rw [hx] at hf; simp [hg, hK.check, hf, hz]
  | some x => rw [hx] at hf; simp [hg, hK.check, hf]
/-- v, ok := m[k] -/
theorem MapOf.look_ok (hK : KeyOk P K enc) (ht : P.underlying T = some (.map K E)) (h : MapOf w b enc l) (k : κ) {z : Value} (hz : (zeroValue E).run P w = .ok z w) :
    (Instr.lookup T (.map (some b)) (enc k) true).run P w = .ok (.tuple #[(mget k l).getD z, .bool (mget k l).isSome]) w := by
  obtain ⟨es, clock, hb, h1, _⟩ := h
  unfold Instr.lookup
  simp only [Sem.run_bind, run_underlying ht, Result.andThen_ok]
  have hg : (getObj b).run P w = .ok (.map es clock) w := by show (Sem.getObj b Sem.pure).run P w = _; simp [Sem.run, hb]
  have hf := hK.find k l es.toList w h1
  rw [← findIx_get]
  cases hx : findIx k l with
  | none => rw [hx] at hf; simp [hg, hK.check, hf, hz]
  | some x => rw [hx] at hf; simp [hg, hK.check, hf]
theorem map_eraseIdx {α β : Type} (f : α → β) : ∀ (l : List α) (i : Nat), (l.eraseIdx i).map f = (l.map f).eraseIdx i
  | [], _ => rfl
  | _ :: _, 0 => rfl
  | x :: l, i + 1 => by simp [map_eraseIdx f l i]
theorem mput_of_some {k : κ} {v : Value} : ∀ {l : List (κ × Value)} {i : Nat} {v0 : Value}, findIx k l = some (i, v0) → mput k v l = l.modify i (fun _ => (k, v)) ∧ (l[i]?).map (·.1) = some k
  | [], _, _, h => by cases h
  | (k', v') :: l, i, v0, h => by
    unfold findIx at h
    unfold mput
    split at h
    · rename_i e
      subst e
      simp only [Option.some.injEq, Prod.mk.injEq] at h
      obtain ⟨rfl, _⟩ := h
      simp
    · rename_i e
      rw [if_neg e]
      cases hf : findIx k l with
      | none => rw [hf] at h; cases h
      | some x =>
        rw [hf] at h
        simp only [Option.map_some, Option.some.injEq, Prod.mk.injEq] at h
        obtain ⟨rfl, _⟩ := h
        obtain ⟨h1, h2⟩ := mput_of_some (v := v) (i := x.1) (v0 := x.2) hf
        rw [h1]
        simp [h2]
theorem mput_of_none {k : κ} {v : Value} : ∀ {l : List (κ × Value)}, findIx k l = none → mput k v l = l ++ [(k, v)]
  | [], _ => rfl
  | (k', v') :: l, h => by
    unfold findIx at h
    unfold mput
    split at h
    · cases h
    · rename_i e
      rw [if_neg e]
      cases hf : findIx k l with
      | none => rw [mput_of_none hf]; rfl
      | some x => rw [hf] at h; cases h
theorem mdel_of_some {k : κ} : ∀ {l : List (κ × Value)} {i : Nat} {v0 : Value}, findIx k l = some (i, v0) → mdel k l = l.eraseIdx i
  | [], _, _, h => by cases h
  | (k', v') :: l, i, v0, h => by
    unfold findIx at h
    unfold mdel
    split at h
    · rename_i e
      subst e
      simp only [Option.some.injEq, Prod.mk.injEq] at h
      obtain ⟨rfl, _⟩ := h
      simp
    · rename_i e
      rw [if_neg e]
      cases hf : findIx k l with
      | none => rw [hf] at h; cases h
      | some x =>
        rw [hf] at h
        simp only [Option.map_some, Option.some.injEq, Prod.mk.injEq] at h
        obtain ⟨rfl, _⟩ := h
        rw [mdel_of_some (i := x.1) (v0 := x.2) hf]
        rfl
theorem mdel_of_none {k : κ} : ∀ {l : List (κ × Value)}, findIx k l = none → mdel k l = l
  | [], _ => rfl
  | (k', v') :: l, h => by
    unfold findIx at h
    unfold mdel
    split at h
    · cases h
    · rename_i e
      rw [if_neg e]
      cases hf : findIx k l with
      | none => rw [mdel_of_none hf]
      | some x => rw [hf] at h; cases h

/-- a map's block written anew -/
def setMap (w : World) (b : Nat) (o : Obj) : World := { w with heap := w.heap.setIfInBounds b o }
theorem setMap_at {o : Obj} (hb : b < w.heap.size) : (setMap w b o).heap[b]? = some o := by
  show (w.heap.setIfInBounds b o)[b]? = _
  simp [hb]
theorem setMap_kp (w : World) (b : Nat) (o : Obj) : Kp (· = b) w (setMap w b o) :=
  ⟨rfl, rfl, by show w.heap.size ≤ (w.heap.setIfInBounds b o).size; simp, fun k _ hn => by
    show (w.heap.setIfInBounds b o)[k]? = _
    rw [Array.getElem?_setIfInBounds_ne (fun e => hn e.symm)]⟩
theorem run_setObj {es : Array MapEntry} {clock : Nat} {o : Obj} (hb : w.heap[b]? = some (.map es clock)) : (setObj b o).run P w = .ok () (setMap w b o) := by
  show (Sem.setObj b o (Sem.pure ())).run P w = _
  simp [Sem.run, hb, setMap]

/-- m[k] = v -/
theorem MapOf.update (hK : KeyOk P K enc) (ht : P.underlying T = some (.map K E)) (h : MapOf w b enc l) (k : κ) (v : Value) :
    ∃ w', (Instr.mapUpdate T (.map (some b)) (enc k) v).run P w = .ok () w' ∧ MapOf w' b enc (mput k v l) ∧ Kp (· = b) w w' := by
  have hlt := h.lt
  obtain ⟨es, clock, hb, h1, h2, h3, h4⟩ := h
  have hg : (getObj b).run P w = .ok (.map es clock) w := by show (Sem.getObj b Sem.pure).run P w = _; simp [Sem.run, hb]
  have hf := hK.find k l es.toList w h1
  cases hx : findIx k l with
  | none =>
    rw [hx] at hf
    refine ⟨setMap w b (.map (es.push { key := enc k, val := v, born := clock }) (clock + 1)), ?_, ⟨_, _, setMap_at hlt, ?_, nodup_mput k v l h2, ?_, ?_⟩, setMap_kp _ _ _⟩
    · unfold Instr.mapUpdate
      simp [run_underlying ht, hg, hK.check, hf, run_setObj hb]
    · rw [mput_of_none hx]
      simp [h1]
    · intro e he
      rcases Array.mem_push.1 he with he | rfl
      · have := h3 e he; omega
      · simp
    · rw [Array.toList_push, List.map_append, List.nodup_append]
      refine ⟨h4, by simp, ?_⟩
      intro a ha c hc
      simp only [List.map_cons, List.map_nil, List.mem_cons, List.not_mem_nil, or_false] at hc
      obtain ⟨e, he, rfl⟩ := List.mem_map.1 ha
      have := h3 e (by simpa using he)
      omega
  | some x =>
    obtain ⟨i, v0⟩ := x
    rw [hx] at hf
    obtain ⟨h5, h6⟩ := mput_of_some (v := v) hx
    have hkey : (es[i]?).map (·.key) = some (enc k) := by
      have := congrArg (fun (l : List (Value × Value)) => (l[i]?).map (·.1)) h1
      simp only [List.getElem?_map, Option.map_map, Array.getElem?_toList] at this
      cases hi : l[i]? with
      | none => rw [hi] at h6; cases h6
      | some p =>
        rw [hi] at h6 this
        simp only [Option.map_some, Option.some.injEq] at h6
        rw [← h6]
        cases he : es[i]? with
        | none => rw [he] at this; cases this
        | some e => rw [he] at this; simpa using this
    refine ⟨setMap w b (.map (es.modify i fun e => { e with key := enc k, val := v }) clock), ?_, ⟨_, _, setMap_at hlt, ?_, nodup_mput k v l h2, ?_, ?_⟩, setMap_kp _ _ _⟩
    · unfold Instr.mapUpdate
      simp [run_underlying ht, hg, hK.check, hf, run_setObj hb, hkey, hK.stays]
    · rw [h5]
      apply List.ext_getElem?
      intro j
      have hj := congrArg (fun (l : List (Value × Value)) => l[j]?) h1
      simp only [List.getElem?_map, Array.getElem?_toList] at hj
      simp only [List.getElem?_map, Array.getElem?_toList, Array.getElem?_modify, List.getElem?_modify]
      by_cases hij : i = j
      · subst hij
        cases he : es[i]? <;> cases hl : l[i]? <;> simp_all
      · simp only [hij, ↓reduceIte]
        cases he : es[j]? <;> cases hl : l[j]? <;> simp_all
    · intro e he
      obtain ⟨j, hj⟩ := Array.mem_iff_getElem?.1 he
      rw [Array.getElem?_modify] at hj
      by_cases hij : i = j
      · subst hij
        simp only [if_true] at hj
        cases he0 : es[i]? with
        | none => rw [he0] at hj; cases hj
        | some e0 =>
          rw [he0] at hj
          simp only [Option.map_some, Option.some.injEq] at hj
          subst hj
          exact h3 e0 (Array.mem_of_getElem? he0)
      · simp only [hij, if_false] at hj
        exact h3 e (Array.mem_of_getElem? hj)
    · have : (es.modify i fun e => { e with key := enc k, val := v }).toList.map (·.born) = es.toList.map (·.born) := by
        apply List.ext_getElem?
        intro j
        simp only [List.getElem?_map, Array.getElem?_toList, Array.getElem?_modify]
        by_cases hij : i = j
        · subst hij; cases es[i]? <;> simp
        · simp [hij]
      rw [this]; exact h4

/-- delete(m, k) -/
theorem MapOf.delete (hK : KeyOk P K enc) (ht : P.underlying T = some (.map K E)) (h : MapOf w b enc l) (k : κ) (tk ty : TypeId) :
    ∃ w', (Builtin.delete_ #[T, tk] ty #[.map (some b), enc k]).run P w = .ok (.tuple #[]) w' ∧ MapOf w' b enc (mdel k l) ∧ Kp (· = b) w w' := by
  have hlt := h.lt
  obtain ⟨es, clock, hb, h1, h2, h3, h4⟩ := h
  have hg : (getObj b).run P w = .ok (.map es clock) w := by show (Sem.getObj b Sem.pure).run P w = _; simp [Sem.run, hb]
  have hf := hK.find k l es.toList w h1
  cases hx : findIx k l with
  | none =>
    rw [hx] at hf
    refine ⟨setMap w b (.map es clock), ?_, ⟨es, clock, setMap_at hlt, ?_, nodup_mdel k l h2, h3, h4⟩, setMap_kp _ _ _⟩
    · unfold Builtin.delete_
      simp [run_underlying ht, hg, hK.check, hf, run_setObj hb]
    · rw [mdel_of_none hx]; exact h1
  | some x =>
    obtain ⟨i, v0⟩ := x
    rw [hx] at hf
    have hlen : es.size = l.length := by have := congrArg List.length h1; simpa using this
    have hil : i < es.size := by
      obtain ⟨_, h6⟩ := mput_of_some (v := v0) hx
      rw [hlen]
      rcases Nat.lt_or_ge i l.length with h | h
      · exact h
      · rw [List.getElem?_eq_none h] at h6; cases h6
    have htl : (es.eraseIdxIfInBounds i).toList = es.toList.eraseIdx i := by
      simp [Array.eraseIdxIfInBounds, hil]
    refine ⟨setMap w b (.map (es.eraseIdxIfInBounds i) clock), ?_, ⟨_, _, setMap_at hlt, ?_, nodup_mdel k l h2, ?_, ?_⟩, setMap_kp _ _ _⟩
    · unfold Builtin.delete_
      simp [run_underlying ht, hg, hK.check, hf, run_setObj hb]
    · rw [mdel_of_some hx, htl, map_eraseIdx, map_eraseIdx, h1]
    · intro e he
      have : e ∈ es.toList.eraseIdx i := by rw [← htl]; exact Array.mem_toList_iff.2 he
      exact h3 e (Array.mem_toList_iff.1 (List.mem_of_mem_eraseIdx this))
    · rw [htl, map_eraseIdx]
      exact h4.sublist (List.eraseIdx_sublist _ _)

/-- len(m) -/
theorem MapOf.len (h : MapOf w b enc l) : ∃ es clock, w.heap[b]? = some (.map es clock) ∧ es.size = l.length := by
  obtain ⟨es, clock, hb, h1, _⟩ := h
  exact ⟨es, clock, hb, by have := congrArg List.length h1; simpa using this⟩
end

end Go.Proofs.Ytbncblnchcmgbaa
