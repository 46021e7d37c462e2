/-
  More of the shared library: rows of rows read; what the first library lacked.
-/
import Derived.Test.YtbncblnchcmgbaaOwn
import Derived.Laws.MakeOwn
import Derived.Laws.OwnMore
namespace Go.Proofs.Ytbncblnchcmgbaa
open Go.RowKit Go.ChangeShapes Go.WideShapes Go.ChangeAt

/-- An element of a slice of slices. -/
theorem Rp.at_slice {α : Type} {E : Rp α} {w S A c} {l : List (List α)} (h : E.slice.slice.R w S [.slice A l.length c] l) {i : Nat} {a : List α} (hi : l[i]? = some a) :
    ∃ ad A' c', A = some ad ∧ S ad.block ∧ w.cell? (ad.add i) = some (.slice A' a.length c') ∧ E.slice.R w S [.slice A' a.length c'] a := by
  obtain ⟨ad, u, h1, h2, h3, h4⟩ := Rp.at_ rfl h hi
  obtain ⟨A', c', he, h5⟩ := id h4
  simp only [List.cons.injEq, and_true] at he
  subst he
  exact ⟨ad, A', c', h1, h2, h3, h4⟩
/-- A slice made with room, of no element yet. -/
theorem own_make {α : Type} (E : Rp α) {P : Program} (w : World) (S : Nat → Prop) (base : Nat) (t e : TypeId) {bytes : Nat} (el : Elem P t e E.size bytes) (kl kc : IntKind) (c : Nat) (hb : bytes * c ≤ 281474976710656) (h63 : c ≤ maxLen) (hbase : base ≤ w.heap.size) :
    ∃ w', (Instr.makeSlice t (.int kl 0) (.int kc (c : Int))).run P w = .ok (.slice (some ⟨w.heap.size, 0, none⟩) 0 c) w' ∧ Own E w' S base e (.slice (some ⟨w.heap.size, 0, none⟩) 0 c) [] ∧ Kp No w w' := by
  obtain ⟨ht, i, z, hi, hz, hs, hbb, _, _⟩ := el
  subst hbb
  obtain ⟨w', h1, h2, h3⟩ := run_make_own (P := P) w base t e i z E.size ht hi hz hs kl kc c hb h63 hbase
  exact ⟨w', h1, ⟨[], h2, by simp, by simp⟩, (Kp.refl _ _).grown h3 (fun g h => by cases h)⟩

/-- A text's length. -/
def vsize : Value → Nat | .string s => s.size | _ => 0

/-- Bytes as a text. -/
def bs (l : List UInt8) : ByteArray := ⟨l.toArray⟩
theorem bs_data (l : List UInt8) : (bs l).data.toList = l := rfl
theorem bs_of (s : ByteArray) : bs s.data.toList = s := by
  apply ByteArray.ext
  exact Array.toArray_toList
theorem bs_size (l : List UInt8) : (bs l).size = l.length := rfl
theorem bs_inj {a b : List UInt8} (h : bs a = bs b) : a = b := by rw [← bs_data a, h, bs_data]
theorem data_length (s : ByteArray) : s.data.toList.length = s.size := rfl
theorem bs_extract (l : List UInt8) (i j : Nat) : (bs l).extract i j = bs ((l.drop i).take (j - i)) := by
  apply ByteArray.ext
  simp [bs, ByteArray.data_extract, List.extract_toArray, List.extract_eq_take_drop]
theorem bs_append (a b : List UInt8) : bs a ++ bs b = bs (a ++ b) := by
  apply ByteArray.ext
  simp [bs, ByteArray.data_append]
theorem bs_nil : bs [] = ByteArray.empty := rfl
theorem toList_isEmpty (s : ByteArray) : s.toList.isEmpty = decide (s.size = 0) := by
  rw [ByteArray.toList_eq, ← data_length]
  cases h : s.data.toList <;> simp
theorem bs_toList (l : List UInt8) : (bs l).toList = l := by rw [ByteArray.toList_eq, bs_data]

/-- Readings of one cell, by a code. -/
structure Rp.By {α : Type} (E : Rp α) (enc : α → Value) (P : α → Prop) : Prop where
  size : E.size = 1
  R : ∀ w S cs a, E.R w S cs a ↔ cs = [enc a] ∧ P a
  one : ∀ a, (enc a).oneCell' = true
theorem Rp.str_by : Rp.By Rp.str Value.string (fun s => s.size ≤ maxLen) := ⟨rfl, fun _ _ _ _ => Iff.rfl, fun _ => rfl⟩
theorem Rp.int_by (k : IntKind) : Rp.By (Rp.int k) (Value.int k) (fun i => (Lit.int k i).wf = true) := ⟨rfl, fun _ _ _ _ => Iff.rfl, fun _ => rfl⟩

namespace Own
variable {α : Type} {E : Rp α} {enc : α → Value} {P : α → Prop} {w w' : World} {S : Nat → Prop} {base : Nat} {e : TypeId} {v : Value} {l : List α}
theorem toRaw (hb : Rp.By E enc P) (h : Own E w S base e v l) : Own Rp.raw w S base e v (l.map enc) ∧ ∀ a ∈ l, P a := by
  obtain ⟨xs, h1, h2, h3⟩ := h
  rw [hb.size] at h1
  have hl : xs.length = l.length := by have := h1.1; simpa using this
  have hx : xs = l.map enc := by
    apply List.ext_getElem?
    intro i
    rcases Nat.lt_or_ge i l.length with hlt | hge
    · have h4 := ((hb.R _ _ _ _).1 (h3 i l[i] (List.getElem?_eq_getElem hlt))).1
      rw [hb.size, Nat.mul_one] at h4
      have h5 := congrArg (fun l : List Value => l[0]?) h4
      simp only [List.getElem?_cons_zero] at h5
      rw [List.getElem?_take_of_lt (by omega), List.getElem?_drop, Nat.add_zero] at h5
      rw [h5, List.getElem?_map, List.getElem?_eq_getElem hlt]; rfl
    · rw [List.getElem?_eq_none (by omega), List.getElem?_eq_none (by rw [List.length_map]; omega)]
  subst hx
  refine ⟨of_raw (by rw [List.length_map]; exact h1) h2, fun a ha => ?_⟩
  obtain ⟨i, hi, rfl⟩ := List.mem_iff_getElem.1 ha
  exact ((hb.R _ _ _ _).1 (h3 i _ (List.getElem?_eq_getElem hi))).2
theorem ofRaw (hb : Rp.By E enc P) (h : Own Rp.raw w S base e v (l.map enc)) (hp : ∀ a ∈ l, P a) (S' : Nat → Prop) : Own E w S' base e v l := by
  obtain ⟨h1, h2⟩ := raw_vals h
  rw [List.length_map] at h1
  refine ⟨l.map enc, by rw [hb.size]; exact h1, h2, fun i a ha => (hb.R _ _ _ _).2 ⟨?_, hp a (List.mem_of_getElem? ha)⟩⟩
  obtain ⟨hlt, rfl⟩ := List.getElem?_eq_some_iff.1 ha
  rw [hb.size, Nat.mul_one, List.drop_eq_getElem_cons (by rw [List.length_map]; exact hlt), List.getElem_map]
  rfl
theorem by_any (hb : Rp.By E enc P) (h : Own E w S base e v l) (S' : Nat → Prop) : Own E w S' base e v l := ofRaw hb (toRaw hb h).1 (toRaw hb h).2 S'
theorem cellBy (hb : Rp.By E enc P) {A : Option Addr} {c : Nat} (h : Own E w S base e (.slice A l.length c) l) {i : Nat} {a : α} (hi : l[i]? = some a) :
    ∃ g, A = some ⟨g, 0, none⟩ ∧ base ≤ g ∧ g < w.heap.size ∧ w.cell? ⟨g, i, none⟩ = some (enc a) ∧ w.frozen? ⟨g, i, none⟩ = false ∧ P a := by
  obtain ⟨h1, h2⟩ := toRaw hb h
  have hl : (l.map enc).length = l.length := List.length_map ..
  rw [← hl] at h1
  obtain ⟨g, h3, h4, h5, h6, h7⟩ := raw_cell h1 (i := i) (u := enc a) (by rw [List.getElem?_map, hi]; rfl)
  exact ⟨g, h3, h4, h5, h6, h7, h2 a (List.mem_of_getElem? hi)⟩
theorem storeBy (hb : Rp.By E enc P) {g c : Nat} (h : Own E w S base e (.slice (some ⟨g, 0, none⟩) l.length c) l) {i : Nat} (hi : i < l.length) {a : α} (ha : P a) :
    Own E (w.setCell ⟨g, i, none⟩ (enc a)) S base e (.slice (some ⟨g, 0, none⟩) l.length c) (l.set i a) := by
  obtain ⟨h1, h2⟩ := toRaw hb h
  have hl : (l.map enc).length = l.length := List.length_map ..
  rw [← hl] at h1
  have h3 := raw_store h1 (i := i) (by rw [hl]; exact hi) (hb.one a)
  rw [List.length_set, hl, ← List.map_set] at h3
  refine ofRaw hb h3 (fun x hx => ?_) S
  rcases List.mem_or_eq_of_mem_set hx with hx | rfl
  · exact h2 x hx
  · exact ha
end Own

/-- A literal's block, read as a slice of the call's own. -/
theorem Own.of_cells {α : Type} {E : Rp α} {enc : α → Value} {P : α → Prop} (hb : Rp.By E enc P) {w : World} (S : Nat → Prop) {base g : Nat} {cs : Array Value} {e : TypeId} {l : List α} (h : w.heap[g]? = some (.cells cs e (0, 0))) (hcs : cs.toList = l.map enc) (hp : ∀ a ∈ l, P a) (hbase : base ≤ g) (hm : l.length ≤ maxLen) :
    Own E w S base e (.slice (some ⟨g, 0, none⟩) l.length l.length) l := by
  refine Own.ofRaw (S := S) hb (Own.of_raw ?_ ?_) hp S
  · refine ⟨by simp, .inr ⟨g, l.length, cs, by simp, hbase, h, by simp, hm, ?_, ?_⟩⟩
    · rw [← Array.length_toList, hcs]; simp
    · rw [hcs]; exact List.take_of_length_le (by simp)
  · intro u hu
    obtain ⟨a, _, rfl⟩ := List.mem_map.1 hu
    exact hb.one a
/-- A made slice of so many zeros. -/
theorem own_zeros {α : Type} {E : Rp α} {enc : α → Value} {PP : α → Prop} (hbE : Rp.By E enc PP) {P : Program} (w : World) (S : Nat → Prop) (base : Nat) (t e : TypeId) (z : α) (hz0 : PP z) {bytes : Nat} (ht : P.underlying t = some (.slice e)) (hi : (P.info? e).map (fun i => (i.zero, i.size, i.bytes)) = some (some (enc z), 1, bytes)) (hzc : (enc z).cells = #[enc z]) (kl kc : IntKind) (c : Nat) (hb : bytes * c ≤ 281474976710656) (h63 : c ≤ maxLen) (hbase : base ≤ w.heap.size) :
    ∃ w', (Instr.makeSlice t (.int kl (c : Int)) (.int kc (c : Int))).run P w = .ok (.slice (some ⟨w.heap.size, 0, none⟩) c c) w' ∧ Own E w' S base e (.slice (some ⟨w.heap.size, 0, none⟩) c c) (List.replicate c z) ∧ Kp No w w' := by
  obtain ⟨i, hi2, hz, hs, hbb⟩ := info_parts hi
  subst hbb
  have h63' : (c : Int) ≤ 9223372036854775807 := by simp [maxLen] at h63; omega
  have hb' : (i.bytes : Int) * (c : Int) ≤ 281474976710656 := by
    have h : ((i.bytes * c : Nat) : Int) ≤ 281474976710656 := by omega
    rwa [Int.natCast_mul] at h
  have hr := run_make (P := P) w t e i _ ht hi2 hz kl kc c c (by omega) (Int.le_refl _) hb' h63'
  simp only [Int.toNat_natCast, hs, Nat.mul_one] at hr
  refine ⟨_, hr, ?_, (Kp.refl _ _).alloc _⟩
  have h1 := Own.of_cells hbE (w := w.alloc (.cells (madeCells (enc z).cells c) e)) S (base := base) (g := w.heap.size) (l := List.replicate c z) (heap_alloc_new w _) (by rw [hzc, toList_madeCells_one, List.map_replicate]) (fun a ha => by rw [(List.mem_replicate.1 ha).2]; exact hz0) hbase (by rw [List.length_replicate]; exact h63)
  rwa [List.length_replicate] at h1
end Go.Proofs.Ytbncblnchcmgbaa
