/-
  Maps whose elements are structs: what they read as.
-/
import Derived.Test.YtbncblnchcmgbaaMap
namespace Go.Proofs.Ytbncblnchcmgbaa
open Go.RowKit Go.ChangeShapes Go.WideShapes Go.ChangeAt

/-- Block b is a map of just these entries, each read. -/
def MapRp {κ α : Type} [DecidableEq κ] (E : Rp α) (w : World) (S : Nat → Prop) (b : Nat) (enc : κ → Value) (l : List (κ × α)) : Prop :=
  ∃ lv : List (κ × Value), MapOf w b enc lv ∧ lv.map (·.1) = l.map (·.1) ∧ ∀ k a, mget k l = some a → ∃ cs, mget k lv = some (.agg cs.toArray) ∧ E.R w S cs a

section
variable {κ α β : Type} [DecidableEq κ]
theorem keys_mput (k : κ) (v : α) (u : β) : ∀ (l : List (κ × α)) (m : List (κ × β)), l.map (·.1) = m.map (·.1) → (mput k v l).map (·.1) = (mput k u m).map (·.1)
  | [], [], _ => rfl
  | [], _ :: _, h => by simp at h
  | _ :: _, [], h => by simp at h
  | (k1, v1) :: l, (k2, u2) :: m, h => by
    simp only [List.map_cons, List.cons.injEq] at h
    obtain ⟨rfl, h⟩ := h
    unfold mput
    split
    · simp [h]
    · simp [keys_mput k v u l m h]
theorem keys_mdel (k : κ) : ∀ (l : List (κ × α)) (m : List (κ × β)), l.map (·.1) = m.map (·.1) → (mdel k l).map (·.1) = (mdel k m).map (·.1)
  | [], [], _ => rfl
  | [], _ :: _, h => by simp at h
  | _ :: _, [], h => by simp at h
  | (k1, v1) :: l, (k2, u2) :: m, h => by
    simp only [List.map_cons, List.cons.injEq] at h
    obtain ⟨rfl, h⟩ := h
    unfold mdel
    split
    · exact h
    · simp [keys_mdel k l m h]
end

namespace MapRp
variable {κ α : Type} [DecidableEq κ] {E : Rp α} {w w' : World} {S T : Nat → Prop} {b : Nat} {enc : κ → Value} {l : List (κ × α)}
theorem lt (h : MapRp E w S b enc l) : b < w.heap.size := by
  obtain ⟨lv, h, _⟩ := h
  exact h.lt
theorem nodup (h : MapRp E w S b enc l) : (l.map (·.1)).Nodup := by
  obtain ⟨lv, ⟨_, _, _, _, h, _⟩, hk, _⟩ := h
  rw [← hk]; exact h
theorem block (h : MapRp E w S b enc l) : ∃ es clock, w.heap[b]? = some (.map es clock) := by
  obtain ⟨lv, ⟨es, clock, h, _⟩, _⟩ := h
  exact ⟨es, clock, h⟩
theorem kept (h : MapRp E w S b enc l) (hk : Kp T w w') (hb : ¬ T b) (hs : ∀ k, S k → k < w.heap.size → ¬ T k) : MapRp E w' S b enc l := by
  obtain ⟨lv, h1, h2, h3⟩ := h
  refine ⟨lv, h1.kept hk hb, h2, fun k a ha => ?_⟩
  obtain ⟨cs, h4, h5⟩ := h3 k a ha
  exact ⟨cs, h4, E.kept h5 hk hs⟩
theorem keptNo (h : MapRp E w S b enc l) (hk : Kp No w w') : MapRp E w' S b enc l := h.kept hk (fun x => x) (fun _ _ _ x => x)
theorem more (h : MapRp E w S b enc l) (hs : ∀ k, S k → T k) : MapRp E w T b enc l := by
  obtain ⟨lv, h1, h2, h3⟩ := h
  refine ⟨lv, h1, h2, fun k a ha => ?_⟩
  obtain ⟨cs, h4, h5⟩ := h3 k a ha
  exact ⟨cs, h4, E.more h5 hs⟩
theorem made (w : World) (S : Nat → Prop) : MapRp E (w.alloc (.map #[] 0)) S w.heap.size enc ([] : List (κ × α)) :=
  ⟨[], MapOf.made w, rfl, fun _ _ h => by cases h⟩

section
variable {P : Program} {T : TypeId} {K V : TypeId}
/-- v, ok := m[k], what is there -/
theorem some_ok (h : MapRp E w S b enc l) (hK : KeyOk P K enc) (ht : P.underlying T = some (.map K V)) {k : κ} {a : α} (hg : mget k l = some a) {z : Value} (hz : (zeroValue V).run P w = .ok z w) :
    ∃ cs, E.R w S cs a ∧ (Instr.lookup T (.map (some b)) (enc k) true).run P w = .ok (.tuple #[.agg cs.toArray, .bool true]) w ∧ (Instr.lookup T (.map (some b)) (enc k) false).run P w = .ok (.agg cs.toArray) w := by
  obtain ⟨lv, h1, h2, h3⟩ := h
  obtain ⟨cs, h4, h5⟩ := h3 k a hg
  refine ⟨cs, h5, ?_, ?_⟩
  · have := h1.look_ok hK ht k hz
    rw [h4] at this
    exact this
  · have := h1.look hK ht k hz
    rw [h4] at this
    exact this
/-- v, ok := m[k], what isn't there -/
theorem none_ok (h : MapRp E w S b enc l) (hK : KeyOk P K enc) (ht : P.underlying T = some (.map K V)) {k : κ} (hg : mget k l = none) {z : Value} (hz : (zeroValue V).run P w = .ok z w) :
    (Instr.lookup T (.map (some b)) (enc k) true).run P w = .ok (.tuple #[z, .bool false]) w ∧ (Instr.lookup T (.map (some b)) (enc k) false).run P w = .ok z w := by
  obtain ⟨lv, h1, h2, h3⟩ := h
  have h4 : mget k lv = none := by rw [mget_none_iff, h2, ← mget_none_iff]; exact hg
  refine ⟨?_, ?_⟩
  · have := h1.look_ok hK ht k hz
    rw [h4] at this
    exact this
  · have := h1.look hK ht k hz
    rw [h4] at this
    exact this
/-- v, ok := m[k], in whatever world that leaves the map alone -/
theorem look_all (h : MapRp E w S b enc l) (hK : KeyOk P K enc) (ht : P.underlying T = some (.map K V)) (k : κ) {z : Value} (hz : ∀ w, (zeroValue V).run P w = .ok z w) :
    ∃ u B, (∀ w', Kp No w w' → (Instr.lookup T (.map (some b)) (enc k) true).run P w' = .ok (.tuple #[u, .bool B]) w') ∧ ((B = true ∧ ∃ a cs, mget k l = some a ∧ u = .agg cs.toArray ∧ E.R w S cs a) ∨ (B = false ∧ mget k l = none ∧ u = z)) := by
  obtain ⟨lv, h1, h2, h3⟩ := h
  cases hg : mget k l with
  | none =>
    have h4 : mget k lv = none := by rw [mget_none_iff, h2, ← mget_none_iff]; exact hg
    refine ⟨z, false, fun w' hk => ?_, .inr ⟨rfl, rfl, rfl⟩⟩
    have := (h1.kept hk (fun x => x)).look_ok hK ht k (hz w')
    rw [h4] at this
    exact this
  | some a =>
    obtain ⟨cs, h4, h5⟩ := h3 k a hg
    refine ⟨_, true, fun w' hk => ?_, .inl ⟨rfl, a, cs, rfl, rfl, h5⟩⟩
    have := (h1.kept hk (fun x => x)).look_ok hK ht k (hz w')
    rw [h4] at this
    exact this
/-- m[k] = v -/
theorem update (h : MapRp E w S b enc l) (hK : KeyOk P K enc) (ht : P.underlying T = some (.map K V)) (hb : ¬ S b) (k : κ) {cs : List Value} {a : α} (hr : E.R w S cs a) :
    ∃ w', (Instr.mapUpdate T (.map (some b)) (enc k) (.agg cs.toArray)).run P w = .ok () w' ∧ MapRp E w' S b enc (mput k a l) ∧ Kp (· = b) w w' := by
  obtain ⟨lv, h1, h2, h3⟩ := h
  obtain ⟨w', hrun, hm, hk⟩ := h1.update hK ht k (.agg cs.toArray)
  refine ⟨w', hrun, ⟨_, hm, keys_mput k _ _ _ _ h2, fun k2 a2 ha => ?_⟩, hk⟩
  rw [mget_put] at ha ⊢
  by_cases hkk : k2 = k
  · rw [if_pos hkk] at ha ⊢
    injection ha with ha
    subst ha
    exact ⟨cs, rfl, E.kept hr hk (fun i hi _ e => hb (e ▸ hi))⟩
  · rw [if_neg hkk] at ha ⊢
    obtain ⟨cs2, h4, h5⟩ := h3 k2 a2 ha
    exact ⟨cs2, h4, E.kept h5 hk (fun i hi _ e => hb (e ▸ hi))⟩
/-- delete(m, k) -/
theorem delete (h : MapRp E w S b enc l) (hK : KeyOk P K enc) (ht : P.underlying T = some (.map K V)) (hb : ¬ S b) (k : κ) (tk ty : TypeId) :
    ∃ w', (Builtin.delete_ #[T, tk] ty #[.map (some b), enc k]).run P w = .ok (.tuple #[]) w' ∧ MapRp E w' S b enc (mdel k l) ∧ Kp (· = b) w w' := by
  have hnd := h.nodup
  obtain ⟨lv, h1, h2, h3⟩ := h
  obtain ⟨w', hrun, hm, hk⟩ := h1.delete hK ht k tk ty
  refine ⟨w', hrun, ⟨_, hm, keys_mdel k _ _ h2, fun k2 a2 ha => ?_⟩, hk⟩
  rw [mget_del k k2 l hnd] at ha
  rw [mget_del k k2 lv (by rw [h2]; exact hnd)]
  split at ha
  · cases ha
  · rename_i hne
    rw [if_neg hne]
    obtain ⟨cs2, h4, h5⟩ := h3 k2 a2 ha
    exact ⟨cs2, h4, E.kept h5 hk (fun i hi _ e => hb (e ▸ hi))⟩
end
end MapRp
end Go.Proofs.Ytbncblnchcmgbaa
