/-
  slices.Sorted(maps.Keys(m)): the names of a map, rising (XSort, without the disk's own).
-/
import Derived.Test.YtbncblnchcmgbaaShelf
import Derived.Test.YtbncblnchcmgbaaMap
import Derived.Test.YtbncblnchcmgbaaGen
import Derived.Sort.KeysCollected
import Derived.StringKeys
namespace Go.Proofs.Ytbncblnchcmgbaa
open Go.RowKit Go.ChangeShapes Go.WideShapes Go.ChangeAt
def nlt (a b : ByteArray) : Prop := a.data.toList < b.data.toList
instance (a b : ByteArray) : Decidable (nlt a b) := inferInstanceAs (Decidable (a.data.toList < b.data.toList))
theorem data_inj {a b : ByteArray} (h : a.data.toList = b.data.toList) : a = b := by
  rw [← bs_of a, h, bs_of]
theorem nlt_irrefl (a : ByteArray) : ¬ nlt a a := List.lt_irrefl _
theorem nlt_trans {a b c : ByteArray} (h : nlt a b) (k : nlt b c) : nlt a c := List.lt_trans h k
theorem nlt_ne {a b : ByteArray} (h : nlt a b) : a ≠ b := fun e => nlt_irrefl b (e ▸ h)
theorem nlt_asymm {a b : ByteArray} (h : nlt a b) : ¬ nlt b a := fun k => nlt_irrefl _ (nlt_trans h k)
theorem nlt_tri {a b : ByteArray} (h : ¬ nlt a b) (hn : a ≠ b) : nlt b a := by
  unfold nlt at *
  rw [List.not_lt] at h
  rcases Decidable.em (b.data.toList < a.data.toList) with h1 | h1
  · exact h1
  · rw [List.not_lt] at h1
    exact absurd (data_inj (List.le_antisymm h1 h)) hn

/-- rising names -/
def sortedN (l : List ByteArray) : List ByteArray := ((l.map fun s => s.data.toList).mergeSort leB).map bs
theorem sortedN_length (l : List ByteArray) : (sortedN l).length = l.length := by simp [sortedN]
theorem leB_trans (a b c : List UInt8) (h1 : leB a b = true) (h2 : leB b c = true) : leB a c = true := by simp only [leB, decide_eq_true_eq] at *; exact List.le_trans h1 h2
theorem leB_total (a b : List UInt8) : (leB a b || leB b a) = true := by simp only [leB, Bool.or_eq_true, decide_eq_true_eq]; exact List.le_total a b
theorem mem_sortedN {l : List ByteArray} {x : ByteArray} : x ∈ sortedN l ↔ x ∈ l := by
  unfold sortedN
  rw [List.mem_map]
  constructor
  · rintro ⟨y, hy, rfl⟩
    rw [List.mem_mergeSort, List.mem_map] at hy
    obtain ⟨z, hz, rfl⟩ := hy
    rw [bs_of]; exact hz
  · intro h
    exact ⟨x.data.toList, by rw [List.mem_mergeSort]; exact List.mem_map.2 ⟨x, h, rfl⟩, bs_of x⟩
/-- Names that rise already are the sorted ones of any row of the same. -/
theorem sortedN_eq {l l' : List ByteArray} (hp : l.Perm l') (hr : l'.Pairwise nlt) : sortedN l = l' := by
  have h1 : (l.map fun s => s.data.toList).mergeSort leB = l'.map fun s => s.data.toList := by
    rw [mergeSort_of_perm (hp.map _)]
    refine List.mergeSort_of_pairwise ?_
    refine List.pairwise_map.2 (hr.imp fun {a b} h => ?_)
    simp only [leB, decide_eq_true_eq]
    exact List.le_of_lt h
  unfold sortedN
  rw [h1, List.map_map]
  conv => rhs; rw [← List.map_id l']
  exact List.map_congr_left fun s _ => bs_of s
theorem perm_names {ν μ : Type} {l : List (ByteArray × ν)} {m : List (ByteArray × μ)} (hl : (l.map (·.1)).Nodup) (hm : (m.map (·.1)).Nodup) (h : ∀ n, mget n l = none ↔ mget n m = none) : (l.map (·.1)).Perm (m.map (·.1)) := by
  refine (List.perm_ext_iff_of_nodup hl hm).2 fun n => ?_
  have := h n
  rw [mget_none_iff, mget_none_iff] at this
  constructor
  · intro h1
    exact Classical.byContradiction fun h2 => this.2 h2 h1
  · intro h1
    exact Classical.byContradiction fun h2 => this.1 h2 h1

/-- A map keyed by texts, in the words of the kit's own laws. -/
theorem MapOf.owns {P : Program} {w : World} {b : Nat} {l : List (ByteArray × Value)} (K : TypeId) (hk : P.underlying K = some .string) (h : MapOf w b Value.string l) (hs : ∀ p ∈ l, p.1.size ≤ maxLen) (hn : l.length ≤ maxLen) :
    ∃ D0 : DataW Unit, w.ownsMap P K (fun _ => some (.nil, [])) b l.length D0 ∧ (strKeys D0).Perm (l.map fun p => p.1.data.toList) ∧ Maps.size D0 = l.length := by
  obtain ⟨es, clock, hb, h1, h2, h3, h4⟩ := h
  have hlen : es.size = l.length := by have := congrArg List.length h1; simpa using this
  have hkey : ∀ (j : Nat) e, es.toList[j]? = some e → ∃ p, l[j]? = some p ∧ e.key = .string p.1 ∧ p.1.size ≤ maxLen := by
    intro j e he
    have := congrArg (fun l : List (Value × Value) => l[j]?) h1
    simp only [List.getElem?_map, he, Option.map_some] at this
    cases hl : l[j]? with
    | none => rw [hl] at this; cases this
    | some p =>
      rw [hl] at this
      simp only [Option.map_some, Option.some.injEq, Prod.mk.injEq] at this
      exact ⟨p, rfl, this.1, hs p (List.mem_of_getElem? hl)⟩
  have hrd : ∀ (j : Nat) e, es.toList[j]? = some e → ∃ p, l[j]? = some p ∧ WideElems.rd P K (fun _ => some ((.nil : DataW Unit), [])) e = some (.string p.1.data.toList, .nil) := by
    intro j e he
    obtain ⟨p, hp, hk1, hps⟩ := hkey j e he
    refine ⟨p, hp, ?_⟩
    unfold WideElems.rd
    rw [hk1, WideMaps.keyOf_string_mk hk hps]
    rfl
  refine ⟨_, ⟨es, clock, hb, ⟨by rw [hlen]; exact hn, ⟨fun x hx => h3 x (Array.mem_toList_iff.1 hx), h4, ?_⟩, ?_⟩, Nat.le_of_eq hlen, rfl⟩, ?_, ?_⟩
  · have e1 : es.toList.map (·.key) = (l.map (·.1)).map Value.string := by
      have := congrArg (List.map Prod.fst) h1
      simpa [List.map_map, Function.comp_def] using this
    rw [e1]
    exact List.pairwise_map.2 (h2.imp fun hne e => hne (by injection e))
  · intro x hx
    obtain ⟨j, hj⟩ := List.mem_iff_getElem?.1 hx
    obtain ⟨p, _, h5⟩ := hrd j x hj
    exact ⟨_, h5⟩
  · refine ((sorted_perm _).map _).trans ?_
    refine List.Perm.of_eq ?_
    apply List.ext_getElem?
    intro j
    simp only [List.getElem?_map]
    cases he : es.toList[j]? with
    | none =>
      have : l[j]? = none := by
        rw [List.getElem?_eq_none_iff] at he ⊢
        rw [Array.length_toList] at he; omega
      rw [this]; rfl
    | some e =>
      obtain ⟨p, hp, h5⟩ := hrd j e he
      rw [hp]
      simp only [Option.map_some]
      unfold WideElems.rg
      rw [h5]; rfl
  · have := (sorted_perm (es.toList.map (WideElems.rg P K (fun _ => some ((.nil : DataW Unit), []))))).length_eq
    show List.length _ = _
    rw [this, List.length_map, Array.length_toList, hlen]

/-- what slices.Sorted hands back, as a slice of the call's own -/
theorem own_of_sorted {w : World} {base : Nat} {v : Value} {ss : List (List UInt8)} (h : w.ownsRow base 9 1 v ss.length ((ss.mergeSort (fun x y => decide (x ≤ y))).map Go.Proofs.encStr)) {l : List ByteArray} (hp : ss.Perm (l.map fun s => s.data.toList)) (hs : ∀ s ∈ l, s.size ≤ maxLen) :
    Own Rp.str w No base 9 v (sortedN l) := by
  have e1 : (ss.mergeSort (fun x y => decide (x ≤ y))).map Go.Proofs.encStr = (sortedN l).map Value.string := by
    unfold sortedN
    rw [← mergeSort_of_perm hp, List.map_map]
    exact List.map_congr_left fun x _ => rfl
  rw [e1] at h
  have hl : ss.length = ((sortedN l).map Value.string).length := by rw [List.length_map, sortedN_length, hp.length_eq, List.length_map]
  rw [hl] at h
  refine Own.ofRaw (S := No) Rp.str_by (Own.of_raw h (fun u hu => ?_)) (fun a ha => hs a (mem_sortedN.1 ha)) No
  obtain ⟨a, _, rfl⟩ := List.mem_map.1 hu
  rfl

end Go.Proofs.Ytbncblnchcmgbaa
