/-
  The document's sha: primes, cubes, roots, the message (merged of ten texts).
-/
import Derived.Test.YtamfgmlhopjppaaGA2
import Derived.Test.YtamfgmlhopjppaaShaL
import Derived.Test.YtamfgmlhopjppaaGA
import Derived.Deep.WholeRow
import Derived.Test.YtamfgmlhopjppaaS1
namespace Go.Proofs.Ytamfgmlhopjppaa
section
open Go.RowKit Go.ChangeShapes Go.WideShapes Go.ChangeAt

/-- nothing of the block is frozen (a mark behind its end is let be) -/
def FrOk (cur : Array Value) (fr : Nat × Nat) : Prop := fr = (0, 0) ∨ cur.size ≤ fr.1
theorem FrOk.size {cur cur' : Array Value} {fr : Nat × Nat} (h : FrOk cur fr) (hs : cur'.size = cur.size) : FrOk cur' fr := by
  rcases h with h | h
  · exact .inl h
  · exact .inr (by omega)
theorem FrOk.off {w : World} {g o : Nat} {cur : Array Value} {t : TypeId} {fr : Nat × Nat} (h : FrOk cur fr) (hg : w.heap[g]? = some (.cells cur t fr)) (ho : o < cur.size) : w.frozen? ⟨g, o, none⟩ = false := by
  obtain ⟨lo, hi⟩ := fr
  rcases h with h | h
  · injection h with h1 h2
    subst h1 h2
    simp [World.frozen?, hg]
  · have h : cur.size ≤ lo := h
    simp [World.frozen?, hg]; omega
theorem run_storeCells_atM {P : Program} (g o : Nat) (t : TypeId) (fr : Nat × Nat) : ∀ (vs : List Value) (i : Nat) (cur : Array Value) (w : World), w.heap[g]? = some (.cells cur t fr) → FrOk cur fr → o + i + vs.length ≤ cur.size → (∀ v ∈ vs, v.oneCell' = true) →
    (storeCells ⟨g, o, none⟩ vs i).run P w = .ok () (w.setRow g (cur.toList.take (o + i) ++ vs ++ cur.toList.drop (o + i + vs.length)).toArray)
  | [], i, cur, w, hg, _, _, _ => by
    simp only [storeCells, List.append_nil, List.length_nil, Nat.add_zero, List.take_append_drop, Array.toArray_toList]
    rw [setRow_self w g cur t fr hg]
    rfl
  | v :: rest, i, cur, w, hg, hf, hl, h1 => by
    have hi : o + i < cur.size := by simp at hl; omega
    have hadd : (⟨g, o, none⟩ : Addr).add i = ⟨g, o + i, none⟩ := by unfold Addr.add; split <;> simp_all
    have hcell : w.cell? ⟨g, o + i, none⟩ = some cur[o + i] := by simp [World.cell?, hg, hi]
    have hfro : w.frozen? ⟨g, o + i, none⟩ = false := hf.off hg hi
    have hst : (store ((⟨g, o, none⟩ : Addr).add i) v).run P w = .ok () (w.setRow g (cur.setIfInBounds (o + i) v)) := by
      rw [hadd, run_store P w _ v _ (h1 v (by simp)), hcell]
      simp [hfro, setCell_eq_setRow w g (o + i) cur t fr v hg]
    have ih := run_storeCells_atM (P := P) g o t fr rest (i + 1) (cur.setIfInBounds (o + i) v) (w.setRow g (cur.setIfInBounds (o + i) v)) (setRow_heap w g cur _ t _ hg) (hf.size (by simp)) (by simp at hl ⊢; omega) (fun x hx => h1 x (by simp [hx]))
    simp only [storeCells, Sem.run_bind, hst, Result.andThen_ok, ih, setRow_setRow]
    congr 3
    have e := list_seg_step cur.toList (o + i) v rest (by simp at hl ⊢; omega)
    simpa [Array.toList_setIfInBounds, Nat.add_assoc] using e

/-- The call's own bytes, wherever they begin in their block. -/
def OwnM (w : World) (base : Nat) (e : TypeId) (v : Value) (l : List UInt8) : Prop :=
  (l = [] ∧ ∃ A, v = .slice A 0 0 ∧ ∀ a : Addr, A = some a → base ≤ a.block ∧ ∃ cur fr, w.heap[a.block]? = some (.cells cur e fr)) ∨
  ∃ g o cap cur fr, v = .slice (some ⟨g, o, none⟩) l.length cap ∧ base ≤ g ∧ w.heap[g]? = some (.cells cur e fr) ∧ FrOk cur fr ∧ l.length ≤ cap ∧ o + cap = cur.size ∧ cap ≤ maxLen ∧ (cur.toList.drop o).take l.length = l.map byteOf

section
variable {P : Program}
theorem room_text_atM (w : World) (t u ty e : TypeId) (hb : Bytely P t u e) (g o sLen sCap : Nat) (cur : Array Value) (fr : Nat × Nat) (hg : w.heap[g]? = some (.cells cur e fr)) (hfr : FrOk cur fr) (s : ByteArray) (hroom : sLen + s.size ≤ sCap) (hfit : o + sLen + s.size ≤ cur.size) :
    (Builtin.append_ #[t, u] ty #[.slice (some ⟨g, o, none⟩) sLen sCap, .string s]).run P w =
      .ok (.slice (some ⟨g, o, none⟩) (sLen + s.size) sCap) (w.setRow g (cur.toList.take (o + sLen) ++ Lib.strCells s ++ cur.toList.drop (o + sLen + s.size)).toArray) := by
  obtain ⟨ht, hu, _, i, hi, hz, hs1, _⟩ := hb
  have hf := Lib.run_firstCells_string (P := P) w 1 s
  have hst := run_storeCells_atM (P := P) g (o + sLen) e fr (Lib.strCells s) 0 cur w hg hfr (by simpa [Lib.strCells_length] using hfit) (Lib.strCells_oneCell s)
  simp only [Nat.add_zero, Lib.strCells_length] at hst
  simp [Builtin.append_, run_underlying ht, run_underlying hu, sizeOf, typeInfo, hi, hs1, Builtin.lenOf, hroom, hf, Addr.add_lit, hst]

/-- What a new block holds. -/
theorem OwnM.made (w : World) (base : Nat) (e : TypeId) (l : List UInt8) (cells : Array Value) (cap : Nat) (hl : l.length ≤ cap) (hc : cap ≤ maxLen) (hcs : cells.size = cap) (ht : cells.toList.take l.length = l.map byteOf) (hbase : base ≤ w.heap.size) :
    OwnM (w.drew.alloc (.cells cells e)) base e (.slice (some ⟨w.heap.size, 0, none⟩) l.length cap) l :=
  .inr ⟨w.heap.size, 0, cap, cells, (0, 0), rfl, hbase, heap_alloc_new w.drew _, .inl rfl, hl, by omega, hc, by simpa using ht⟩
theorem grownBy_newM (w : World) (o : Obj) (row : Option Nat) : w.grownBy (w.drew.alloc o) row := ⟨rfl, rfl, rfl, by simp, fun k hk _ => heap_alloc_old w.drew _ hk⟩
theorem map_byteOfM (s : ByteArray) : s.data.toList.map byteOf = Lib.strCells s := rfl

theorem OwnM.append_text (w : World) (t u ty e : TypeId) (hb : Bytely P t u e) {base : Nat} {v : Value} {l : List UInt8} (h : OwnM w base e v l) (s : ByteArray) (hlen : l.length + s.size ≤ 140737488355328) (hbase : base ≤ w.heap.size) :
    ∃ v' w', (Builtin.append_ #[t, u] ty #[v, .string s]).run P w = .ok v' w' ∧ OwnM w' base e v' (l ++ s.data.toList) ∧ w.grownBy w' v.ownBlock := by
  have hb' := hb
  obtain ⟨ht, hu, _, i, hi, hz, hs1, hby⟩ := hb'
  have hcap : ∀ need old, need ≤ 140737488355328 → grownCap w need old e ≤ maxLen := fun need old hn => grownCap_le_maxLen w need old e (by simp [maxLen]; omega)
  have hz1 : (Value.int IntKind.u8 0).cells.size = 1 := rfl
  rcases h with ⟨rfl, A, rfl, hA⟩ | ⟨g, o, cap, cur, fr, rfl, hbg, hg, hfr, hlc, hoc, hcm, htk⟩
  · simp only [List.length_nil, Nat.zero_add] at hlen
    simp only [List.nil_append]
    by_cases hm : s.size = 0
    · have hd : s.data.toList = [] := List.eq_nil_of_length_eq_zero hm
      have hf := Lib.run_firstCells_string (P := P) w 1 s
      rw [hm] at hf
      have hsc : Lib.strCells s = [] := by rw [← map_byteOfM, hd]; rfl
      rw [hsc] at hf
      rw [hd]
      refine ⟨.slice A 0 0, w, ?_, .inl ⟨rfl, A, rfl, hA⟩, ⟨rfl, rfl, rfl, Nat.le_refl _, fun _ _ _ => rfl⟩⟩
      cases A with
      | none => simp [Builtin.append_, run_underlying ht, run_underlying hu, sizeOf, typeInfo, hi, hs1, Builtin.lenOf, hm, hf]
      | some a => simp [Builtin.append_, run_underlying ht, run_underlying hu, sizeOf, typeInfo, hi, hs1, Builtin.lenOf, hm, hf, storeCells, Sem.run_pure]
    · have hge := grownCap_ge w s.size 0 e
      have hcells : ∀ c, c = ((Lib.strCells s).toArray ++ Builtin.zeroCells (Value.int .u8 0).cells (grownCap w s.size 0 e - s.size)) → OwnM (w.drew.alloc (.cells c e)) base e (.slice (some ⟨w.heap.size, 0, none⟩) s.size (grownCap w s.size 0 e)) s.data.toList := by
        rintro c rfl
        refine OwnM.made w base e s.data.toList _ _ hge (hcap _ _ hlen) ?_ ?_ hbase
        · simp only [Array.size_append, List.size_toArray, size_zeroCells, hz1, Lib.strCells_length]; omega
        · rw [map_byteOfM]
          simp only [Array.toList_append]
          exact List.take_left' (by rw [Lib.strCells_length]; rfl)
      cases A with
      | none =>
        have hr := run_append_nil_string (P := P) w t u ty e i (.int .u8 0) ht hu hi hz s (by omega) (by omega) (by rw [hby]; omega)
        exact ⟨_, _, hr, hcells _ (by congr 1; apply Array.ext'; simp [Lib.strCells]), grownBy_newM _ _ _⟩
      | some a =>
        have hr := Lib.run_append_grow_string (P := P) w t u ty e i (.int .u8 0) ht hu hi hz a 0 0 [] (by simp) (by simp) s (by omega) (by omega) (by rw [hby]; exact growslice_fits (by omega) (by omega))
        simp only [Nat.zero_add, Array.empty_append] at hr
        exact ⟨_, _, hr, hcells _ (by simp), grownBy_newM _ _ _⟩
  · have hlen2 : (l ++ s.data.toList).length = l.length + s.size := by rw [List.length_append, data_length]
    by_cases hroom : l.length + s.size ≤ cap
    · have hr := room_text_atM (P := P) w t u ty e hb g o l.length cap cur fr hg hfr s hroom (by omega)
      refine ⟨_, _, hr, .inr ⟨g, o, cap, _, fr, by rw [hlen2], hbg, setRow_heap w g cur _ e _ hg, hfr.size ?_, by rw [hlen2]; exact hroom, ?_, hcm, ?_⟩, ⟨rfl, rfl, rfl, by simp, fun k _ hk => setRow_other w g k _ (fun e => hk (by simp [Value.ownBlock, e]))⟩⟩
      · simp only [List.size_toArray, List.length_append, List.length_take, List.length_drop, Array.length_toList, Lib.strCells_length]; omega
      · simp only [List.size_toArray, List.length_append, List.length_take, List.length_drop, Array.length_toList, Lib.strCells_length]; omega
      · rw [hlen2, List.map_append, map_byteOfM, ← htk]
        have hcl : cur.toList.length = o + cap := by rw [Array.length_toList]; omega
        show ((cur.toList.take (o + l.length) ++ Lib.strCells s ++ cur.toList.drop (o + l.length + s.size)).drop o).take (l.length + s.size) = _
        rw [List.append_assoc, List.drop_append_of_le_length (by rw [List.length_take]; omega), ← List.append_assoc, List.drop_take, Nat.add_sub_cancel_left]
        exact List.take_left' (by rw [List.length_append, List.length_take, List.length_drop, Lib.strCells_length]; omega)
    · have holds : ∀ j u, (l.map byteOf)[j]? = some u → w.cell? ((⟨g, o, none⟩ : Addr).add j) = some u := by
        intro j x hx
        have hj : j < l.length := by have := (List.getElem?_eq_some_iff.1 hx).1; simpa using this
        rw [← htk, List.getElem?_take_of_lt hj, List.getElem?_drop] at hx
        rw [Addr.add_lit]
        simp [World.cell?, hg]
        simpa using hx
      have hr := Lib.run_append_grow_string (P := P) w t u ty e i (.int .u8 0) ht hu hi hz ⟨g, o, none⟩ l.length cap (l.map byteOf) (by rw [hs1]; simp) holds s (by omega) (by omega) (by rw [hby]; exact growslice_fits (by omega) (by omega))
      have hge := grownCap_ge w (l.length + s.size) cap e
      refine ⟨_, _, hr, ?_, grownBy_newM _ _ _⟩
      rw [← hlen2]
      refine OwnM.made w base e _ _ _ (by rw [hlen2]; exact hge) (by rw [hlen2]; exact hcap _ _ hlen) ?_ ?_ hbase
      · rw [hlen2]
        simp only [Array.size_append, List.size_toArray, List.length_map, size_zeroCells, hz1, Lib.strCells_length]; omega
      · simp only [Array.toList_append, List.map_append, map_byteOfM]
        exact List.take_left' (by rw [List.length_append, List.length_map, Lib.strCells_length, hlen2])

theorem room_bytes_atM (w : World) (t u ty e : TypeId) (hb : Bytely P t u e) (g o sLen sCap : Nat) (cur : Array Value) (fr : Nat × Nat) (hg : w.heap[g]? = some (.cells cur e fr)) (hfr : FrOk cur fr) (a : Addr) (c : Nat) (m : List UInt8) (hnews : ∀ j x, (m.map byteOf)[j]? = some x → w.cell? (a.add j) = some x) (hroom : sLen + m.length ≤ sCap) (hfit : o + sLen + m.length ≤ cur.size) :
    (Builtin.append_ #[t, t] ty #[.slice (some ⟨g, o, none⟩) sLen sCap, .slice (some a) m.length c]).run P w =
      .ok (.slice (some ⟨g, o, none⟩) (sLen + m.length) sCap) (w.setRow g (cur.toList.take (o + sLen) ++ m.map byteOf ++ cur.toList.drop (o + sLen + m.length)).toArray) := by
  obtain ⟨ht, _, _, i, hi, hz, hs1, _⟩ := hb
  have hf := run_firstCells_some (P := P) w 1 m.length a m.length c (m.map byteOf) (by simp) hnews
  have hst := run_storeCells_atM (P := P) g (o + sLen) e fr (m.map byteOf) 0 cur w hg hfr (by simpa using hfit) (by intro x hx; obtain ⟨b, _, rfl⟩ := List.mem_map.1 hx; rfl)
  simp only [Nat.add_zero, List.length_map] at hst
  simp [Builtin.append_, run_underlying ht, sizeOf, typeInfo, hi, hs1, Builtin.lenOf, hroom, hf, Addr.add_lit, hst]

theorem OwnM.append_bytes (w : World) (t u ty e : TypeId) (hb : Bytely P t u e) {base : Nat} {v : Value} {l : List UInt8} (h : OwnM w base e v l) (a : Addr) (c : Nat) (m : List UInt8) (hm0 : 0 < m.length) (hnews : ∀ j x, (m.map byteOf)[j]? = some x → w.cell? (a.add j) = some x) (hlen : l.length + m.length ≤ 140737488355328) (hbase : base ≤ w.heap.size) :
    ∃ v' w', (Builtin.append_ #[t, t] ty #[v, .slice (some a) m.length c]).run P w = .ok v' w' ∧ OwnM w' base e v' (l ++ m) ∧ w.grownBy w' v.ownBlock := by
  have hb' := hb
  obtain ⟨ht, _, _, i, hi, hz, hs1, hby⟩ := hb'
  have hcap : ∀ need old, need ≤ 140737488355328 → grownCap w need old e ≤ maxLen := fun need old hn => grownCap_le_maxLen w need old e (by simp [maxLen]; omega)
  have hz1 : (Value.int IntKind.u8 0).cells.size = 1 := rfl
  have hml : (m.map byteOf).length = m.length * i.size := by rw [hs1]; simp
  rcases h with ⟨rfl, A, rfl, hA⟩ | ⟨g, o, cap, cur, fr, rfl, hbg, hg, hfr, hlc, hoc, hcm, htk⟩
  · simp only [List.length_nil, Nat.zero_add] at hlen
    simp only [List.nil_append]
    have hge := grownCap_ge w m.length 0 e
    have hcells : ∀ cs, cs = ((m.map byteOf).toArray ++ Builtin.zeroCells (Value.int .u8 0).cells (grownCap w m.length 0 e - m.length)) → OwnM (w.drew.alloc (.cells cs e)) base e (.slice (some ⟨w.heap.size, 0, none⟩) m.length (grownCap w m.length 0 e)) m := by
      rintro cs rfl
      refine OwnM.made w base e m _ _ hge (hcap _ _ hlen) ?_ ?_ hbase
      · simp only [Array.size_append, List.size_toArray, size_zeroCells, hz1, List.length_map]; omega
      · simp only [Array.toList_append]
        exact List.take_left' (by rw [List.length_map])
    cases A with
    | none =>
      have hr := run_append_nil (P := P) w t ty e i (.int .u8 0) ht hi hz a m.length c (m.map byteOf) hml hnews hm0 (by omega) (by rw [hby]; omega)
      exact ⟨_, _, hr, hcells _ rfl, grownBy_newM _ _ _⟩
    | some a0 =>
      have hr := run_append_grow (P := P) w t ty e i (.int .u8 0) ht hi hz a0 0 0 [] (by simp) (by simp) a m.length c (m.map byteOf) hml hnews (by omega) (by omega) (by rw [hby]; exact growslice_fits (by omega) (by omega))
      simp only [Nat.zero_add, Array.empty_append] at hr
      exact ⟨_, _, hr, hcells _ (by simp), grownBy_newM _ _ _⟩
  · have hlen2 : (l ++ m).length = l.length + m.length := List.length_append
    by_cases hroom : l.length + m.length ≤ cap
    · have hr := room_bytes_atM (P := P) w t u ty e hb g o l.length cap cur fr hg hfr a c m hnews hroom (by omega)
      refine ⟨_, _, hr, .inr ⟨g, o, cap, _, fr, by rw [hlen2], hbg, setRow_heap w g cur _ e _ hg, hfr.size ?_, by rw [hlen2]; exact hroom, ?_, hcm, ?_⟩, ⟨rfl, rfl, rfl, by simp, fun k _ hk => setRow_other w g k _ (fun e => hk (by simp [Value.ownBlock, e]))⟩⟩
      · simp only [List.size_toArray, List.length_append, List.length_take, List.length_drop, Array.length_toList, List.length_map]; omega
      · simp only [List.size_toArray, List.length_append, List.length_take, List.length_drop, Array.length_toList, List.length_map]; omega
      · rw [hlen2, List.map_append, ← htk]
        have hcl : cur.toList.length = o + cap := by rw [Array.length_toList]; omega
        show ((cur.toList.take (o + l.length) ++ m.map byteOf ++ cur.toList.drop (o + l.length + m.length)).drop o).take (l.length + m.length) = _
        rw [List.append_assoc, List.drop_append_of_le_length (by rw [List.length_take]; omega), ← List.append_assoc, List.drop_take, Nat.add_sub_cancel_left]
        exact List.take_left' (by rw [List.length_append, List.length_take, List.length_drop, List.length_map]; omega)
    · have holds : ∀ j x, (l.map byteOf)[j]? = some x → w.cell? ((⟨g, o, none⟩ : Addr).add j) = some x := by
        intro j x hx
        have hj : j < l.length := by have := (List.getElem?_eq_some_iff.1 hx).1; simpa using this
        rw [← htk, List.getElem?_take_of_lt hj, List.getElem?_drop] at hx
        rw [Addr.add_lit]
        simp [World.cell?, hg]
        simpa using hx
      have hr := run_append_grow (P := P) w t ty e i (.int .u8 0) ht hi hz ⟨g, o, none⟩ l.length cap (l.map byteOf) (by rw [hs1]; simp) holds a m.length c (m.map byteOf) hml hnews (by omega) (by omega) (by rw [hby]; exact growslice_fits (by omega) (by omega))
      have hge := grownCap_ge w (l.length + m.length) cap e
      refine ⟨_, _, hr, ?_, grownBy_newM _ _ _⟩
      rw [← hlen2]
      refine OwnM.made w base e _ _ _ (by rw [hlen2]; exact hge) (by rw [hlen2]; exact hcap _ _ hlen) ?_ ?_ hbase
      · rw [hlen2]
        simp only [Array.size_append, List.size_toArray, List.length_map, size_zeroCells, hz1]; omega
      · simp only [Array.toList_append, List.map_append]
        exact List.take_left' (by rw [List.length_append, List.length_map, List.length_map, hlen2])
end

namespace OwnM
variable {w w' : World} {base : Nat} {e : TypeId} {v : Value} {l : List UInt8}
theorem nil (w : World) (base : Nat) (e : TypeId) : OwnM w base e (.slice none 0 0) [] := .inl ⟨rfl, none, rfl, fun _ h => by cases h⟩
theorem shape (h : OwnM w base e v l) : ∃ A c, v = .slice A l.length c ∧ l.length ≤ c := by
  rcases h with ⟨rfl, A, rfl, _⟩ | ⟨g, o, cap, cur, fr, rfl, _, _, _, h, _⟩
  · exact ⟨A, 0, rfl, Nat.le_refl _⟩
  · exact ⟨_, _, rfl, h⟩
theorem lt (h : OwnM w base e v l) : ∀ k, v.ownBlock = some k → base ≤ k ∧ k < w.heap.size := by
  intro k hk
  rcases h with ⟨_, A, rfl, hA⟩ | ⟨g, o, cap, cur, fr, rfl, hb, hg, _⟩
  · cases A with
    | none => cases hk
    | some a => have : a.block = k := by simpa [Value.ownBlock] using hk
                subst this; obtain ⟨h1, cur, fr, h2⟩ := hA a rfl; exact ⟨h1, (Array.getElem?_eq_some_iff.1 h2).1⟩
  · have : g = k := by simpa [Value.ownBlock] using hk
    subst this
    exact ⟨hb, (Array.getElem?_eq_some_iff.1 hg).1⟩
theorem block (h : OwnM w base e v l) {g : Nat} (hg : v.ownBlock = some g) : ∃ cs fr, w.heap[g]? = some (.cells cs e fr) := by
  rcases h with ⟨_, A, rfl, hA⟩ | ⟨g', o, cap, cur, fr, rfl, _, hh, _⟩
  · cases A with
    | none => cases hg
    | some a => have : a.block = g := by simpa [Value.ownBlock] using hg
                subst this; exact (hA a rfl).2
  · have : g' = g := by simpa [Value.ownBlock] using hg
    subst this; exact ⟨cur, fr, hh⟩
/-- it lies in no block of another type -/
theorem ne_blk (h : OwnM w base e v l) {g : Nat} {e' : TypeId} {cs : Array Value} {fr' : Nat × Nat} (hb : w.heap[g]? = some (.cells cs e' fr')) (hne : e ≠ e') : v.ownBlock ≠ some g := by
  intro hg
  obtain ⟨cs', fr2, h2⟩ := h.block hg
  rw [hb] at h2
  injection h2 with h2
  injection h2 with _ h2
  exact hne h2.symm
theorem kept {T : Nat → Prop} (h : OwnM w base e v l) (hk : Kp T w w') (hv : ∀ k, v.ownBlock = some k → ¬ T k) : OwnM w' base e v l := by
  have hlt := h.lt
  rcases h with ⟨hl, A, rfl, hA⟩ | ⟨g, o, cap, cur, fr, rfl, hb, hg, r⟩
  · refine .inl ⟨hl, A, rfl, fun a ha => ?_⟩
    obtain ⟨h1, cur, fr, h2⟩ := hA a ha
    subst ha
    exact ⟨h1, cur, fr, (hk.block a.block (hlt a.block rfl).2 (hv a.block rfl)).trans h2⟩
  · exact .inr ⟨g, o, cap, cur, fr, rfl, hb, (hk.block g (hlt g rfl).2 (hv g rfl)).trans hg, r⟩
theorem keptNo (h : OwnM w base e v l) (hk : Kp No w w') : OwnM w' base e v l := h.kept hk fun _ _ x => x
/-- a byte of it -/
theorem cell {A : Option Addr} {n c : Nat} (h : OwnM w base e (.slice A n c) l) {i : Nat} (hi : i < l.length) : ∃ g o, A = some ⟨g, o, none⟩ ∧ base ≤ g ∧ g < w.heap.size ∧ w.cell? ⟨g, o + i, none⟩ = some (byteOf (l.getD i 0)) := by
  have hlt := h.lt
  rcases h with ⟨rfl, _⟩ | ⟨g, o, cap, cur, fr, he, hb, hg, _, _, _, _, htk⟩
  · cases hi
  · injection he with h1 h2 h3
    subst h1
    refine ⟨g, o, rfl, hb, (hlt g rfl).2, ?_⟩
    have hx : (l.map byteOf)[i]? = some (byteOf (l.getD i 0)) := by rw [List.getElem?_map, List.getD_eq_getElem?_getD, List.getElem?_eq_getElem hi]; rfl
    rw [← htk, List.getElem?_take_of_lt hi, List.getElem?_drop] at hx
    simp [World.cell?, hg]
    simpa using hx
theorem read {A : Option Addr} {m c : Nat} (h : OwnM w base e (.slice A m c) l) {n c2 : Nat} (hn : n ≤ l.length) (h1 : n ≤ c2) (h2 : c2 ≤ maxLen) : Rp.byte.slice.R w (fun k => (Value.slice A m c).ownBlock = some k) [.slice A (l.take n).length c2] (l.take n) := by
  have hl : (l.take n).length = n := by rw [List.length_take]; omega
  refine ⟨A, c2, rfl, by omega, h2, fun h0 => ?_⟩
  obtain ⟨g, o, rfl, hb, hg, _⟩ := h.cell (i := 0) (by omega)
  refine ⟨_, rfl, rfl, fun i a hi => ⟨[byteOf a], fun j u hu => ?_, rfl⟩⟩
  have hj : j = 0 := by
    have := (List.getElem?_eq_some_iff.1 hu).1
    simp at this; exact this
  subst hj
  have hi2 : i < (l.take n).length := (List.getElem?_eq_some_iff.1 hi).1
  obtain ⟨g', o', he, _, _, hc⟩ := h.cell (i := i) (by omega)
  injection he with he
  injection he with he1 he2
  subst he1 he2
  have ha : l.getD i 0 = a := by
    rw [List.getElem?_take_of_lt (by omega)] at hi
    rw [List.getD_eq_getElem?_getD, hi]; rfl
  rw [ha] at hc
  have hu : byteOf a = u := by simpa using hu
  subst hu
  have hp : ((⟨g, o, none⟩ : Addr).add (i * Rp.byte.size + 0)) = ⟨g, o + i, none⟩ := by
    rw [Addr.add_lit]; show (⟨g, o + (i * 1 + 0), none⟩ : Addr) = _; rw [Nat.mul_one, Nat.add_zero]
  first
    | exact hp ▸ hc
    | (simp only [Addr.add_lit] at *; simpa [Rp.byte] using hc)
/-- cut in front -/
theorem cut {g o n c : Nat} (h : OwnM w base e (.slice (some ⟨g, o, none⟩) n c) l) {k : Nat} (hk : k ≤ l.length) (hkc : k < c) : OwnM w base e (.slice (some ⟨g, o + k, none⟩) (l.drop k).length (c - k)) (l.drop k) := by
  rcases h with ⟨rfl, A, he, _⟩ | ⟨g', o', cap, cur, fr, he, hb, hg, hfr, h1, h2, h3, htk⟩
  · injection he with _ _ he; omega
  · injection he with e1 e2 e3
    injection e1 with e1
    injection e1 with e1 e4
    subst e1 e4 e3
    refine .inr ⟨g, o + k, c - k, cur, fr, rfl, hb, hg, hfr, by rw [List.length_drop]; omega, by omega, by omega, ?_⟩
    rw [List.length_drop, List.map_drop, ← htk, ← List.drop_drop, List.drop_take]
/-- all of it cut off, no room left -/
theorem cutAll {g o n : Nat} (h : OwnM w base e (.slice (some ⟨g, o, none⟩) n n) l) : OwnM w base e (.slice (some ⟨g, o, none⟩) 0 0) [] := by
  obtain ⟨cur, fr, hc⟩ := h.block rfl
  exact .inl ⟨rfl, _, rfl, fun a ha => by injection ha with ha; subst ha; exact ⟨(h.lt g rfl).1, cur, fr, hc⟩⟩
theorem mono (h : OwnM w base e v l) {base' : Nat} (hb : base' ≤ base) : OwnM w base' e v l := by
  rcases h with ⟨h1, A, h2, h3⟩ | ⟨g, o, cap, cur, fr, h1, h2, r⟩
  · exact .inl ⟨h1, A, h2, fun a ha => ⟨Nat.le_trans hb (h3 a ha).1, (h3 a ha).2⟩⟩
  · exact .inr ⟨g, o, cap, cur, fr, h1, Nat.le_trans hb h2, r⟩
theorem ofOwn (h : Own Rp.byte w No base e v l) : OwnM w base e v l := by
  obtain ⟨h1, _⟩ := Own.toRaw Rp.byte_by h
  obtain ⟨h2, _⟩ := Own.raw_vals h1
  rw [List.length_map] at h2
  obtain ⟨h3, h4⟩ := h2
  rcases h4 with ⟨rfl, h5⟩ | ⟨g, cap, cur, rfl, hb, hg, hn, hm, hc, ht⟩
  · exact .inl ⟨List.eq_nil_of_length_eq_zero h5, none, rfl, fun _ h => by cases h⟩
  · exact .inr ⟨g, 0, cap, cur, (0, 0), rfl, hb, hg, .inl rfl, hn, by omega, hm, by simpa using ht⟩
/-- all of it read -/
theorem readAll {A : Option Addr} {c : Nat} (h : OwnM w base e (.slice A l.length c) l) : Rp.byte.slice.R w (fun k => (Value.slice A l.length c).ownBlock = some k) [.slice A l.length c] l := by
  have hc : l.length ≤ c ∧ c ≤ maxLen := by
    rcases h with ⟨rfl, A', he, _⟩ | ⟨g, o, cap, cur, fr, he, _, _, _, h1, _, h2, _⟩
    · injection he with _ _ he; subst he; simp
    · injection he with _ _ he; subst he; exact ⟨h1, h2⟩
  have h1 := h.read (n := l.length) (c2 := c) (Nat.le_refl _) hc.1 hc.2
  rw [List.take_length] at h1
  exact h1
end OwnM
/-- a text's bytes -/
theorem ownM_text {P : Program} (w : World) (t u e : TypeId) (hb : Bytely P t u e) (s : ByteArray) (hs : s.size ≤ 140737488355328) (base : Nat) (hbase : base ≤ w.heap.size) :
    ∃ c w', (convert u t (.string s)).run P w = .ok (.slice (some ⟨w.heap.size, 0, none⟩) s.size c) w' ∧ OwnM w' base e (.slice (some ⟨w.heap.size, 0, none⟩) s.data.toList.length c) s.data.toList ∧ Kp No w w' := by
  obtain ⟨ht, hu, he, _⟩ := hb
  have hr := run_bytes_of_string (P := P) w u t e s hu ht he
  have hge := grownCap_ge w s.size 0 e
  have hle := grownCap_le_maxLen w s.size 0 e (by simp [maxLen]; omega)
  have hsz : (bytesRow s (grownCap w s.size 0 e)).size = grownCap w s.size 0 e := by
    unfold bytesRow
    rw [Array.size_append, Array.size_map, Array.size_replicate]
    show s.size + _ = _
    omega
  refine ⟨_, _, hr, .inr ⟨w.heap.size, 0, _, _, _, by rw [data_length], hbase, heap_alloc_new w.drew _, .inr (Nat.le_refl _), by rw [data_length]; exact hge, by omega, hle, ?_⟩, ((Kp.refl _ _).drew).alloc _⟩
  rw [List.drop_zero, data_length]
  unfold bytesRow
  rw [Array.toList_append, Array.toList_map]
  exact List.take_left' (by rw [List.length_map, data_length])
theorem wpList_appendM_text {P : Program} {ops : Array Oper} {rest : List Oper} {o : Oper} {a : Act} {Q : Exit → Act → World → Prop} (hgd : o.guard = none) (w : World) (sl x : Operand) (t u : TypeId)
    (ho : o.op = .call { callee := .builtin .append, args := #[sl, x], argTypes := #[t, u] }) (base : Nat) (e : TypeId) (hb : Bytely P t u e) (v : Value) (l : List UInt8) (hs : a.eval sl = v) (hown : OwnM w base e v l) (s : ByteArray) (hx : a.eval x = .string s)
    (hlen : l.length + s.size ≤ 140737488355328) (hbase : base ≤ w.heap.size)
    (h : ∀ v' w', OwnM w' base e v' (l ++ s.data.toList) → w.grownBy w' v.ownBlock → wpList P ops Q rest (a.put o.dst v') w') : wpList P ops Q (o :: rest) a w := by
  refine wpList_plain hgd fun K hK => ?_
  obtain ⟨v', w', hr, h2, h3⟩ := OwnM.append_text (P := P) w t u o.type e hb hown s hlen hbase
  unfold Oper.wp execOp
  simp only [ho, resolve, invoke, builtin, Sem.run_bind, Sem.run_pure, Result.andThen_ok, List.map_toArray, List.map_cons, List.map_nil, hs, hx, hr]
  exact hK _ _ (h v' w' h2 h3)
theorem wpList_appendM_bytes {P : Program} {ops : Array Oper} {rest : List Oper} {o : Oper} {a : Act} {Q : Exit → Act → World → Prop} (hgd : o.guard = none) (w : World) (sl x : Operand) (t u : TypeId)
    (ho : o.op = .call { callee := .builtin .append, args := #[sl, x], argTypes := #[t, t] }) (base : Nat) (e : TypeId) (hb : Bytely P t u e) (v : Value) (l : List UInt8) (hs : a.eval sl = v) (hown : OwnM w base e v l)
    (ad : Addr) (c : Nat) (m : List UInt8) (hm0 : 0 < m.length) (hx : a.eval x = .slice (some ad) m.length c) (hnews : ∀ j x, (m.map byteOf)[j]? = some x → w.cell? (ad.add j) = some x)
    (hlen : l.length + m.length ≤ 140737488355328) (hbase : base ≤ w.heap.size)
    (h : ∀ v' w', OwnM w' base e v' (l ++ m) → w.grownBy w' v.ownBlock → wpList P ops Q rest (a.put o.dst v') w') : wpList P ops Q (o :: rest) a w := by
  refine wpList_plain hgd fun K hK => ?_
  obtain ⟨v', w', hr, h2, h3⟩ := OwnM.append_bytes (P := P) w t u o.type e hb hown ad c m hm0 hnews hlen hbase
  unfold Oper.wp execOp
  simp only [ho, resolve, invoke, builtin, Sem.run_bind, Sem.run_pure, Result.andThen_ok, List.map_toArray, List.map_cons, List.map_nil, hs, hx, hr]
  exact hK _ _ (h v' w' h2 h3)
end

section
open Go.RowKit Go.ChangeShapes Go.WideShapes Go.ChangeAt

def zerosR (n : Nat) : List Value := List.replicate n (.int .u32 0)
/-- the first t words stand, zeros behind them -/
def fillR (l : List W) (n t : Nat) : List Value := (l.take t).map uv ++ zerosR (n - t)
theorem fillR_zero (l : List W) (n : Nat) : fillR l n 0 = zerosR n := rfl
theorem fillR_full {l : List W} {n : Nat} (h : l.length = n) : fillR l n n = l.map uv := by
  unfold fillR; rw [List.take_of_length_le (by omega), Nat.sub_self]; exact List.append_nil _
theorem fillR_length {l : List W} {n t : Nat} (h : l.length = n) (ht : t ≤ n) : (fillR l n t).length = n := by
  unfold fillR zerosR; rw [List.length_append, List.length_map, List.length_take, List.length_replicate]; omega
theorem fillR_set {l : List W} {n t : Nat} (h : l.length = n) (ht : t < n) : (fillR l n t).set t (uv (l.getD t 0)) = fillR l n (t + 1) := by
  unfold fillR
  have hl : ((l.take t).map uv).length = t := by rw [List.length_map, List.length_take]; omega
  rw [List.set_append_right _ _ (by omega), hl, Nat.sub_self, List.take_succ_eq_append_getElem (by omega), List.map_append, List.append_assoc]
  congr 1
  unfold zerosR
  rw [show n - t = (n - (t + 1)) + 1 by omega, List.replicate_succ, List.getD_eq_getElem?_getD, List.getElem?_eq_getElem (by omega)]
  rfl
theorem fillR_at {l : List W} {n t i : Nat} (h : l.length = n) (ht : t ≤ n) (hi : i < t) : (fillR l n t)[i]? = some (uv (l.getD i 0)) := by
  unfold fillR
  rw [List.getElem?_append_left (by rw [List.length_map, List.length_take]; omega), List.getElem?_map, List.getElem?_take_of_lt hi, List.getD_eq_getElem?_getD, List.getElem?_eq_getElem (by omega)]
  rfl
/-- the t-th word amid its making -/
def fillP (l : List W) (n t a : Nat) : List Value := (fillR l n t).set t (.int .u32 (a : Int))
theorem fillP_zero {l : List W} {n t : Nat} (h : l.length = n) (ht : t < n) : fillP l n t 0 = fillR l n t := by
  unfold fillP
  have hz : (fillR l n t)[t]? = some (.int .u32 ((0 : Nat) : Int)) := by
    unfold fillR zerosR
    rw [List.getElem?_append_right (by rw [List.length_map, List.length_take]; omega), List.length_map, List.length_take, Nat.min_eq_left (by omega), Nat.sub_self, show n - t = (n - t - 1) + 1 by omega, List.replicate_succ]
    rfl
  obtain ⟨hlt, he⟩ := List.getElem?_eq_some_iff.1 hz
  rw [← he]
  exact List.set_getElem_self hlt
theorem fillP_at {l : List W} {n t a : Nat} (h : l.length = n) (ht : t < n) : (fillP l n t a)[t]? = some (.int .u32 (a : Int)) := by
  unfold fillP
  rw [List.getElem?_set_self (by rw [fillR_length h (by omega)]; exact ht)]
theorem fillP_set (l : List W) (n t a b : Nat) : (fillP l n t a).set t (.int .u32 (b : Int)) = fillP l n t b := by
  unfold fillP; rw [List.set_set]
theorem fillP_full {l : List W} {n t a : Nat} (h : l.length = n) (ht : t < n) (ha : (l.getD t 0).toNat = a) : fillP l n t a = fillR l n (t + 1) := by
  rw [← fillR_set h ht]
  unfold fillP uv un
  rw [ha]
/-- the first j bytes of a word -/
def pacc (b : List UInt8) (t : Nat) : Nat → Nat
  | 0 => 0
  | j + 1 => pacc b t j * 256 + byteN b (4 * t + j)
theorem byteN_ltR (b : List UInt8) (i : Nat) : byteN b i < 256 := UInt8.toNat_lt _
theorem pacc_lt (b : List UInt8) (t j : Nat) : pacc b t j < 256 ^ j := by
  induction j with
  | zero => simp [pacc]
  | succ j ih =>
    have := byteN_ltR b (4 * t + j)
    rw [pacc, Nat.pow_succ]; omega
theorem pacc_four (b : List UInt8) (t : Nat) : (word b t).toNat = pacc b t 4 := by
  have h := pacc_lt b t 4
  have e : pacc b t 4 = byteN b (4 * t) * 16777216 + byteN b (4 * t + 1) * 65536 + byteN b (4 * t + 2) * 256 + byteN b (4 * t + 3) := by
    simp only [pacc, Nat.add_zero]; omega
  unfold word
  rw [← e, BitVec.toNat_ofNat, Nat.mod_eq_of_lt (by omega)]
/-- all the words -/
def wall (b : List UInt8) : List W := wpre b 64
theorem wall_length (b : List UInt8) : (wall b).length = 64 := wpre_length b 64
theorem wall_get (b : List UInt8) (t : Nat) (h : t < 64) : (wall b).getD t 0 = wnext b (wpre b t) t := by
  unfold wall
  rw [List.getD_eq_getElem?_getD, wpre_get b t 64 h]; rfl
theorem wpre_getD (b : List UInt8) (t i : Nat) (ht : t ≤ 64) (h : i < t) : (wpre b t).getD i 0 = (wall b).getD i 0 := by
  unfold wall
  rw [List.getD_eq_getElem?_getD, List.getD_eq_getElem?_getD, wpre_get b i t h, wpre_get b i 64 (by omega)]
theorem wall_word (b : List UInt8) (t : Nat) (h : t < 16) : (wall b).getD t 0 = word b t := by rw [wall_get b t (by omega), wnext, if_pos h]
theorem wall_next (b : List UInt8) (t : Nat) (h : t < 64) (h16 : ¬ t < 16) : (wall b).getD t 0 = (wall b).getD (t - 16) 0 + sig0 ((wall b).getD (t - 15) 0) + (wall b).getD (t - 7) 0 + sig1 ((wall b).getD (t - 2) 0) := by
  rw [wall_get b t h, wnext, if_neg h16, wpre_getD _ _ _ (by omega) (by omega), wpre_getD _ _ _ (by omega) (by omega), wpre_getD _ _ _ (by omega) (by omega), wpre_getD _ _ _ (by omega) (by omega)]
  generalize (wall b).getD (t - 16) 0 = p
  generalize (wall b).getD (t - 7) 0 = q
  generalize sig0 ((wall b).getD (t - 15) 0) = r
  rw [BitVec.add_assoc p q r, BitVec.add_comm q r, ← BitVec.add_assoc]
def mixR (s r : S8) (k : Nat) : List W := (s.add r).l.take k ++ s.l.drop k
theorem un_notR (x : W) : bits .xor .u32 IntKind.u32.max (un x) = un (~~~x) := by
  have h := un_xor (BitVec.allOnes 32) x
  rw [BitVec.allOnes_xor] at h
  exact h
end

section
open Go.RowKit Go.ChangeShapes Go.WideShapes Go.ChangeAt

theorem wpList_store_new {P : Program} {ops : Array Oper} {rest : List Oper} {o : Oper} {a : Act} {Q : Exit → Act → World → Prop} (hgd : o.guard = none) (w : World) (T : TypeId) (p v : Operand) (ho : o.op = .store T p v)
    (hp : a.eval p = .pointer (some ⟨w.heap.size, 0, none⟩)) (Z Z0 : Array Value) (hv : a.eval v = .agg Z) (hi : (P.info? T).map (·.size) = some Z.size) (hz : Z0.size = Z.size) (h1 : Z.all (·.oneCell') = true)
    (h : wpList P ops Q rest (a.put o.dst undef) (w.alloc (.cells Z T))) : wpList P ops Q (o :: rest) a (w.alloc (.cells Z0 T)) := by
  refine wpList_plain hgd fun K hK => ?_
  have hr := run_storeAt_new (P := P) w T Z0 Z hi hz h1
  unfold Oper.wp execOp
  simp only [ho, hp, hv, Sem.run_bind, Sem.run_pure, hr, Result.andThen_ok]
  exact hK _ _ h
theorem wpList_store_row {P : Program} {ops : Array Oper} {rest : List Oper} {o : Oper} {a : Act} {Q : Exit → Act → World → Prop} (hgd : o.guard = none) (w : World) (T : TypeId) (p v : Operand) (ho : o.op = .store T p v) (g : Nat)
    (hp : a.eval p = .pointer (some ⟨g, 0, none⟩)) (Z Z0 : Array Value) (hv : a.eval v = .agg Z) (hg : w.heap[g]? = some (.cells Z0 T (0, 0))) (hi : (P.info? T).map (·.size) = some Z.size) (hz : Z0.size = Z.size) (h1 : Z.all (·.oneCell') = true)
    (h : wpList P ops Q rest (a.put o.dst undef) (w.setRow g Z)) : wpList P ops Q (o :: rest) a w := by
  refine wpList_plain hgd fun K hK => ?_
  have hr : (Instr.storeAt T (.pointer (some ⟨g, 0, none⟩)) (.agg Z)).run P w = .ok () (w.setRow g Z) := by
    simp only [Instr.storeAt, Instr.sureAddr, Sem.run_bind, Sem.run_pure, Result.andThen]
    exact run_storeVar_row _ _ T T Z0 Z hg hi hz h1
  unfold Oper.wp execOp
  simp only [ho, hp, hv, Sem.run_bind, Sem.run_pure, hr, Result.andThen_ok]
  exact hK _ _ h
end

section
open Go

/-- no divisor from 2 on -/
def noDiv (p : Nat) : Nat → Bool
  | 0 => true
  | d + 1 => noDiv p d && (decide (d < 2) || decide (p < d * d) || decide (p % d ≠ 0))
def isP (p : Nat) : Bool := noDiv p 20
theorem noDiv_iff (p n : Nat) : noDiv p n = true ↔ ∀ d, d < n → 2 ≤ d → d * d ≤ p → p % d ≠ 0 := by
  induction n with
  | zero => simp [noDiv]
  | succ n ih =>
    rw [noDiv, Bool.and_eq_true, ih]
    constructor
    · rintro ⟨h1, h2⟩ d hd h3 h4
      rcases Nat.lt_or_ge d n with h | h
      · exact h1 d h h3 h4
      · obtain rfl : d = n := by omega
        simp only [Bool.or_eq_true, decide_eq_true_eq] at h2
        omega
    · intro h
      refine ⟨fun d hd => h d (by omega), ?_⟩
      simp only [Bool.or_eq_true, decide_eq_true_eq]
      by_cases h1 : n < 2
      · exact .inl (.inl h1)
      · by_cases h2 : p < n * n
        · exact .inl (.inr h2)
        · exact .inr (h n (by omega) (by omega) (by omega))
/-- behind p: the n-th prime, in so many steps -/
def pgo : Nat → Nat → Nat → Option Nat
  | 0, _, _ => none
  | f + 1, p, n => if isP (p + 1) then (match n with | 0 => some (p + 1) | n + 1 => pgo f (p + 1) n) else pgo f (p + 1) n
def P64 : List Nat := [2, 3, 5, 7, 11, 13, 17, 19, 23, 29, 31, 37, 41, 43, 47, 53, 59, 61, 67, 71, 73, 79, 83, 89, 97, 101, 103, 107, 109, 113, 127, 131, 137, 139, 149, 151, 157, 163, 167, 173, 179, 181, 191, 193, 197, 199, 211, 223, 227, 229, 233, 239, 241, 251, 257, 263, 269, 271, 277, 281, 283, 293, 307, 311]
theorem pgo_P64 : ∀ i, i < 64 → pgo 398 1 i = some (P64.getD i 0) := by decide +kernel

def pnext (P : Nat) : Nat → Option Nat
  | 0 => some P
  | n + 1 => pgo (399 - P) P n
theorem pgo_step {p n : Nat} (h : p ≤ 398) : pgo (399 - p) p n = if isP (p + 1) then pnext (p + 1) n else pgo (399 - (p + 1)) (p + 1) n := by
  rw [show 399 - p = (399 - (p + 1)) + 1 by omega]
  cases n <;> rfl
theorem isP_at {P d : Nat} (hP : P ≤ 399) (hlo : d = 2 ∨ (d - 1) * (d - 1) ≤ P) (hhi : P < d * d) : isP P = true ↔ ∀ e, 2 ≤ e → e < d → P % e ≠ 0 := by
  unfold isP
  rw [noDiv_iff]
  constructor
  · intro h e h2 hed
    have h3 : e * e ≤ (d - 1) * (d - 1) := Nat.mul_le_mul (by omega) (by omega)
    have h4 : e * e ≤ P := by omega
    refine h e ?_ h2 h4
    rcases Nat.lt_or_ge e 20 with h5 | h5
    · exact h5
    · have := Nat.mul_le_mul h5 h5; omega
  · intro h e _ h2 hee
    refine h e h2 ?_
    rcases Nat.lt_or_ge e d with h5 | h5
    · exact h5
    · have := Nat.mul_le_mul h5 h5; omega
def wq (x : Int) : Int := x % 18446744073709551616
def an32 (x : Int) : Int := Go.bits .and .u64 x 4294967295
/-- a bit more, if its square is not too great -/
def sqN (p r : Int) (b : Nat) : Int :=
  let x := wq (r + wq (2 ^ b)); let hi := x / 4294967296; let lo := an32 x; let t := wq (hi * lo)
  let top := wq (wq (hi * hi) + t / 2147483648); let mid := wq (an32 (wq (t * 2)) * 4294967296); let rest := wq (wq (lo * lo) + mid)
  let T := if rest < mid then wq (top + 1) else top
  if T < p then x else if T = p then (if rest = 0 then x else r) else r
def sqGo (p : Int) : Nat → Int → Int
  | 0, r => r
  | b + 1, r => sqGo p b (sqN p r b)
theorem sq_P64 : ∀ i, i < 8 → sqGo ((P64.getD i 0 : Nat) : Int) 36 0 % 4294967296 = ((H0.l.getD i 0).toNat : Int) := by decide +kernel
end

section

def M64 : Nat := 18446744073709551616
def digits : Nat → Nat → Nat → List Nat → Option (List Nat)
  | 0, _, _, _ => none
  | f + 1, y, n, a => if y = 0 then some a else if n < 12 then digits f (y / 65536) (n + 1) (a.set n ((a.getD n 0 + y % 65536) % 18446744073709551616)) else none
def one3 (x i : Nat) : Nat := if i = 0 then x % 65536 else if i = 1 then x / 65536 % 65536 else x / 4294967296
def kgo (x i j : Nat) : Nat → Nat → List Nat → Option (List Nat)
  | 0, _, a => some a
  | f + 1, k, a => match digits 5 (one3 x i * one3 x j % 18446744073709551616 * one3 x k % 18446744073709551616) (i + j + k) a with
    | some a' => kgo x i j f (k + 1) a'
    | none => none
def jgo (x i : Nat) : Nat → Nat → List Nat → Option (List Nat)
  | 0, _, a => some a
  | f + 1, j, a => match kgo x i j 3 0 a with
    | some a' => jgo x i f (j + 1) a'
    | none => none
def igo (x : Nat) : Nat → Nat → List Nat → Option (List Nat)
  | 0, _, a => some a
  | f + 1, i, a => match jgo x i 3 0 a with
    | some a' => igo x f (i + 1) a'
    | none => none
def carryGo : Nat → Nat → List Nat → List Nat
  | 0, _, a => a
  | f + 1, n, a => carryGo f (n + 1) ((a.set (n + 1) ((a.getD (n + 1) 0 + a.getD n 0 / 65536) % 18446744073709551616)).set n (a.getD n 0 % 65536))
def topGo (a : List Nat) : Nat → Nat → Nat
  | 0, t => t
  | f + 1, t => topGo a f ((t * 65536 % 18446744073709551616 + a.getD (f + 6) 0) % 18446744073709551616)
def ad (a b : Nat) : Nat := (a + b) % 18446744073709551616
def restOf (b : List Nat) : Nat := ad (ad (ad (ad (ad (b.getD 0 0) (b.getD 1 0)) (b.getD 2 0)) (b.getD 3 0)) (b.getD 4 0)) (b.getD 5 0)
def lessOf (b : List Nat) (p : Nat) : Bool := let top := topGo b 6 0; decide (top < p) || (decide (top = p) && decide (restOf b = 0))
def lessR (x p : Nat) : Option Bool :=
  match igo x 3 0 (List.replicate 12 0) with
  | none => none
  | some a => some (lessOf (carryGo 11 0 a) p)
def cubeR (p : Nat) : Nat → Nat → Option Nat
  | 0, r => some r
  | b + 1, r => match lessR ((r + 2 ^ b % 18446744073709551616) % 18446744073709551616) p with
    | some true => cubeR p b ((r + 2 ^ b % 18446744073709551616) % 18446744073709551616)
    | some false => cubeR p b r
    | none => none

theorem digits_zero {f n : Nat} {a r : List Nat} (h : digits f 0 n a = some r) : a = r := by
  cases f with
  | zero => cases h
  | succ f => rw [digits, if_pos rfl] at h; injection h
theorem digits_pos {f y n : Nat} {a r : List Nat} (h : digits f y n a = some r) (hy : 0 < y) : n < 12 ∧ digits (f - 1) (y / 65536) (n + 1) (a.set n ((a.getD n 0 + y % 65536) % 18446744073709551616)) = some r := by
  cases f with
  | zero => cases h
  | succ f =>
    rw [digits, if_neg (by omega)] at h
    by_cases hn : n < 12
    · rw [if_pos hn] at h; exact ⟨hn, h⟩
    · rw [if_neg hn] at h; cases h
theorem kgo_step {x i j k : Nat} {a r : List Nat} (hk : k < 3) (h : kgo x i j (3 - k) k a = some r) : ∃ a', digits 5 (one3 x i * one3 x j % 18446744073709551616 * one3 x k % 18446744073709551616) (i + j + k) a = some a' ∧ kgo x i j (3 - (k + 1)) (k + 1) a' = some r := by
  rw [show 3 - k = (3 - (k + 1)) + 1 by omega, kgo] at h
  split at h
  · rename_i a' ha; exact ⟨a', ha, h⟩
  · cases h
theorem jgo_step {x i j : Nat} {a r : List Nat} (hj : j < 3) (h : jgo x i (3 - j) j a = some r) : ∃ a', kgo x i j 3 0 a = some a' ∧ jgo x i (3 - (j + 1)) (j + 1) a' = some r := by
  rw [show 3 - j = (3 - (j + 1)) + 1 by omega, jgo] at h
  split at h
  · rename_i a' ha; exact ⟨a', ha, h⟩
  · cases h
theorem igo_step {x i : Nat} {a r : List Nat} (hi : i < 3) (h : igo x (3 - i) i a = some r) : ∃ a', jgo x i 3 0 a = some a' ∧ igo x (3 - (i + 1)) (i + 1) a' = some r := by
  rw [show 3 - i = (3 - (i + 1)) + 1 by omega, igo] at h
  split at h
  · rename_i a' ha; exact ⟨a', ha, h⟩
  · cases h
theorem carry_step {n : Nat} {a : List Nat} (hn : n < 11) : carryGo (11 - n) n a = carryGo (11 - (n + 1)) (n + 1) ((a.set (n + 1) ((a.getD (n + 1) 0 + a.getD n 0 / 65536) % 18446744073709551616)).set n (a.getD n 0 % 65536)) := by
  rw [show 11 - n = (11 - (n + 1)) + 1 by omega, carryGo]
end

section
def cubesAre (i : Nat) : Bool := (cubeR (P64.getD i 0) 35 0).map (· % 4294967296) == some (K64.getD i 0).toNat
theorem cubes_0 : (cubesAre 0 && cubesAre 1 && cubesAre 2 && cubesAre 3) = true := by decide +kernel
theorem cubes_1 : (cubesAre 4 && cubesAre 5 && cubesAre 6 && cubesAre 7) = true := by decide +kernel
theorem cubes_2 : (cubesAre 8 && cubesAre 9 && cubesAre 10 && cubesAre 11) = true := by decide +kernel
theorem cubes_3 : (cubesAre 12 && cubesAre 13 && cubesAre 14 && cubesAre 15) = true := by decide +kernel
theorem cubes_4 : (cubesAre 16 && cubesAre 17 && cubesAre 18 && cubesAre 19) = true := by decide +kernel
theorem cubes_5 : (cubesAre 20 && cubesAre 21 && cubesAre 22 && cubesAre 23) = true := by decide +kernel
theorem cubes_6 : (cubesAre 24 && cubesAre 25 && cubesAre 26 && cubesAre 27) = true := by decide +kernel
theorem cubes_7 : (cubesAre 28 && cubesAre 29 && cubesAre 30 && cubesAre 31) = true := by decide +kernel
theorem cubes_8 : (cubesAre 32 && cubesAre 33 && cubesAre 34 && cubesAre 35) = true := by decide +kernel
theorem cubes_9 : (cubesAre 36 && cubesAre 37 && cubesAre 38 && cubesAre 39) = true := by decide +kernel
theorem cubes_10 : (cubesAre 40 && cubesAre 41 && cubesAre 42 && cubesAre 43) = true := by decide +kernel
theorem cubes_11 : (cubesAre 44 && cubesAre 45 && cubesAre 46 && cubesAre 47) = true := by decide +kernel
theorem cubes_12 : (cubesAre 48 && cubesAre 49 && cubesAre 50 && cubesAre 51) = true := by decide +kernel
theorem cubes_13 : (cubesAre 52 && cubesAre 53 && cubesAre 54 && cubesAre 55) = true := by decide +kernel
theorem cubes_14 : (cubesAre 56 && cubesAre 57 && cubesAre 58 && cubesAre 59) = true := by decide +kernel
theorem cubes_15 : (cubesAre 60 && cubesAre 61 && cubesAre 62 && cubesAre 63) = true := by decide +kernel
theorem cube_P64 (i : Nat) (h : i < 64) : ∃ F, cubeR (P64.getD i 0) 35 0 = some F ∧ F % 4294967296 = (K64.getD i 0).toNat := by
  have key : cubesAre i = true := by
    have h16 : i / 4 = 0 ∨ i / 4 = 1 ∨ i / 4 = 2 ∨ i / 4 = 3 ∨ i / 4 = 4 ∨ i / 4 = 5 ∨ i / 4 = 6 ∨ i / 4 = 7 ∨ i / 4 = 8 ∨ i / 4 = 9 ∨ i / 4 = 10 ∨ i / 4 = 11 ∨ i / 4 = 12 ∨ i / 4 = 13 ∨ i / 4 = 14 ∨ i / 4 = 15 := by omega
    have four : ∀ q : Nat, i / 4 = q → (cubesAre (4 * q) && cubesAre (4 * q + 1) && cubesAre (4 * q + 2) && cubesAre (4 * q + 3)) = true → cubesAre i = true := by
      intro q hq hc
      simp only [Bool.and_eq_true] at hc
      obtain ⟨⟨⟨h0, h1⟩, h2⟩, h3⟩ := hc
      rcases (by omega : i = 4 * q ∨ i = 4 * q + 1 ∨ i = 4 * q + 2 ∨ i = 4 * q + 3) with e | e | e | e
      · rw [e]; exact h0
      · rw [e]; exact h1
      · rw [e]; exact h2
      · rw [e]; exact h3
    rcases h16 with h | h | h | h | h | h | h | h | h | h | h | h | h | h | h | h
    · exact four _ h cubes_0
    · exact four _ h cubes_1
    · exact four _ h cubes_2
    · exact four _ h cubes_3
    · exact four _ h cubes_4
    · exact four _ h cubes_5
    · exact four _ h cubes_6
    · exact four _ h cubes_7
    · exact four _ h cubes_8
    · exact four _ h cubes_9
    · exact four _ h cubes_10
    · exact four _ h cubes_11
    · exact four _ h cubes_12
    · exact four _ h cubes_13
    · exact four _ h cubes_14
    · exact four _ h cubes_15
  unfold cubesAre at key
  cases hF : cubeR (P64.getD i 0) 35 0 with
  | none => rw [hF] at key; cases key
  | some F =>
    rw [hF] at key
    exact ⟨F, rfl, by simpa using key⟩
end

section
open Go.RowKit Go.ChangeShapes Go.WideShapes Go.ChangeAt


theorem wrap_wr (x : Int) : IntKind.u64.wrap x = wq x := by simp [IntKind.wrap, IntKind.signed, IntKind.bits, wq]
set_option maxRecDepth 100000 in
set_option maxHeartbeats 1000000 in
theorem r_square (p : Nat) (w : World) : Calls Try.prog 82 #[.int .u64 (p : Int)] w fun e w' => e = .returned (.int .u32 (sqGo p 36 0 % 4294967296)) ∧ w' = w := by
  have hw : ∀ x, IntKind.u64.wrap x = wq x := wrap_wr
  obtain ⟨F, hF⟩ : ∃ F, sqGo p 36 0 = F := ⟨_, rfl⟩
  have HF0 : Hid (sqGo p 36 0 = F) := Lib.hid hF
  rw [hF]
  clear hF
  go_enter Try.func82, Try.ntmps82
  go_wp2_with fail
  go_loopw [3, 4] (fun rv bv w' => ∃ (r : Int) (b : Nat), b ≤ 36 ∧ rv = .int .u64 r ∧ bv = .int .i64 ((b : Int) - 1) ∧ Hid (sqGo p b r = F) ∧ w' = w) (fun _ bv _ => ((intOf bv) + 1).toNat)
  case atStart => exact ⟨0, 36, by omega, rfl, rfl, HF0, rfl⟩
  case round =>
    obtain ⟨r, b, hb, rfl, rfl, HF, rfl⟩ := hrel
    clear HF0
    cases b with
    | succ c =>
      rw [show (((c + 1 : Nat) : Int) - 1) = (c : Int) by omega]
      have h0 : (0 : Int) ≤ (c : Int) := by omega
      have e0 : IntKind.i64.wrap ((c : Int) - 1) = (c : Int) - 1 := by rw [IntKind.wrap_i64]; omega
      obtain ⟨x, ex⟩ : ∃ x, wq (r + wq (2 ^ c)) = x := ⟨_, rfl⟩
      obtain ⟨hi, ehi⟩ : ∃ z, x / 4294967296 = z := ⟨_, rfl⟩
      obtain ⟨lo, elo⟩ : ∃ z, bits .and .u64 x 4294967295 = z := ⟨_, rfl⟩
      obtain ⟨t, et⟩ : ∃ z, wq (hi * lo) = z := ⟨_, rfl⟩
      obtain ⟨q, eq⟩ : ∃ z, wq (hi * hi) = z := ⟨_, rfl⟩
      obtain ⟨t1, et1⟩ : ∃ z, t / 2147483648 = z := ⟨_, rfl⟩
      obtain ⟨top, etop⟩ : ∃ z, wq (q + t1) = z := ⟨_, rfl⟩
      obtain ⟨m1, em1⟩ : ∃ z, wq (t * 2) = z := ⟨_, rfl⟩
      obtain ⟨m2, em2⟩ : ∃ z, bits .and .u64 m1 4294967295 = z := ⟨_, rfl⟩
      obtain ⟨mid, emid⟩ : ∃ z, wq (m2 * 4294967296) = z := ⟨_, rfl⟩
      obtain ⟨l2, el2⟩ : ∃ z, wq (lo * lo) = z := ⟨_, rfl⟩
      obtain ⟨rest, erest⟩ : ∃ z, wq (l2 + mid) = z := ⟨_, rfl⟩
      obtain ⟨top1, etop1⟩ : ∃ z, wq (top + 1) = z := ⟨_, rfl⟩
      have hN : sqN p r c = if (if rest < mid then top1 else top) < (p : Int) then x else if (if rest < mid then top1 else top) = (p : Int) then (if rest = 0 then x else r) else r := by
        unfold sqN an32
        simp only [ex, ehi, elo, et, eq, et1, etop, em1, em2, emid, el2, erest, etop1]
      by_cases c1 : rest < mid
      · simp only [if_pos c1] at hN
        have HN := Lib.hid hN
        clear hN
        by_cases c2 : top1 < (p : Int)
        · have HX : Hid (sqN p r c = x) := Lib.hid (by rw [HN.out, if_pos c2])
          go_wp2_with fail
          go_roundw
          case rel => exact ⟨x, c, by omega, rfl, by go_num, Lib.hid (by rw [← HF.out, sqGo, HX.out]), trivial⟩
          case measure => simp [intOf]
        · by_cases c3 : top1 = (p : Int)
          · have d3 : (top1 == (p : Int)) = true := by simp [c3]
            by_cases c4 : rest = 0
            · have HX : Hid (sqN p r c = x) := Lib.hid (by rw [HN.out, if_neg c2, if_pos c3, if_pos c4])
              have d4 : (rest == 0) = true := by simp [c4]
              clear c3 c4
              go_wp2_with fail
              go_roundw
              case rel => exact ⟨x, c, by omega, rfl, by go_num, Lib.hid (by rw [← HF.out, sqGo, HX.out]), trivial⟩
              case measure => simp [intOf]
            · have HX : Hid (sqN p r c = r) := Lib.hid (by rw [HN.out, if_neg c2, if_pos c3, if_neg c4])
              have d4 : (rest == 0) = false := by simp [c4]
              clear c3 c4
              go_wp2_with fail
              go_roundw
              case rel => exact ⟨r, c, by omega, rfl, by go_num, Lib.hid (by rw [← HF.out, sqGo, HX.out]), trivial⟩
              case measure => simp [intOf]
          · have HX : Hid (sqN p r c = r) := Lib.hid (by rw [HN.out, if_neg c2, if_neg c3])
            have d3 : (top1 == (p : Int)) = false := by simp [c3]
            clear c3
            go_wp2_with fail
            go_roundw
            case rel => exact ⟨r, c, by omega, rfl, by go_num, Lib.hid (by rw [← HF.out, sqGo, HX.out]), trivial⟩
            case measure => simp [intOf]
      · simp only [if_neg c1] at hN
        have HN := Lib.hid hN
        clear hN
        by_cases c2 : top < (p : Int)
        · have HX : Hid (sqN p r c = x) := Lib.hid (by rw [HN.out, if_pos c2])
          go_wp2_with fail
          go_roundw
          case rel => exact ⟨x, c, by omega, rfl, by go_num, Lib.hid (by rw [← HF.out, sqGo, HX.out]), trivial⟩
          case measure => simp [intOf]
        · by_cases c3 : top = (p : Int)
          · have d3 : (top == (p : Int)) = true := by simp [c3]
            by_cases c4 : rest = 0
            · have HX : Hid (sqN p r c = x) := Lib.hid (by rw [HN.out, if_neg c2, if_pos c3, if_pos c4])
              have d4 : (rest == 0) = true := by simp [c4]
              clear c3 c4
              go_wp2_with fail
              go_roundw
              case rel => exact ⟨x, c, by omega, rfl, by go_num, Lib.hid (by rw [← HF.out, sqGo, HX.out]), trivial⟩
              case measure => simp [intOf]
            · have HX : Hid (sqN p r c = r) := Lib.hid (by rw [HN.out, if_neg c2, if_pos c3, if_neg c4])
              have d4 : (rest == 0) = false := by simp [c4]
              clear c3 c4
              go_wp2_with fail
              go_roundw
              case rel => exact ⟨r, c, by omega, rfl, by go_num, Lib.hid (by rw [← HF.out, sqGo, HX.out]), trivial⟩
              case measure => simp [intOf]
          · have HX : Hid (sqN p r c = r) := Lib.hid (by rw [HN.out, if_neg c2, if_neg c3])
            have d3 : (top == (p : Int)) = false := by simp [c3]
            clear c3
            go_wp2_with fail
            go_roundw
            case rel => exact ⟨r, c, by omega, rfl, by go_num, Lib.hid (by rw [← HF.out, sqGo, HX.out]), trivial⟩
            case measure => simp [intOf]
    | zero =>
      have hr : r = F := HF.out
      subst hr
      go_wp2_with fail
      go_ret
      exact ⟨rfl, rfl⟩

set_option maxRecDepth 100000 in
set_option maxHeartbeats 1000000 in
theorem r_prime (i : Nat) (r : Nat) (hr : pgo 398 1 i = some r) (hi : i < 1000) (w : World) : Calls Try.prog 83 #[.int .i64 (i : Int)] w fun e w' => e = .returned (.int .u64 (r : Int)) ∧ w' = w := by
  have HR0 := Lib.hid hr
  clear hr
  go_enter Try.func83, Try.ntmps83
  go_wp2_with fail
  go_loopw [0, 3] (fun nv pv w' => ∃ n p : Nat, n < 1000 ∧ p ≤ 399 ∧ nv = .int .i64 (n : Int) ∧ pv = .int .u64 (p : Int) ∧ Hid (pgo (399 - p) p n = some r) ∧ w' = w) (fun _ pv _ => 400 - (intOf pv).toNat)
  case atStart => exact ⟨i, 1, hi, by omega, rfl, rfl, HR0, rfl⟩
  case round =>
    obtain ⟨n, p, hn, hp, rfl, rfl, HR, rfl⟩ := hrel
    clear HR0 hi
    have hp8 : p ≤ 398 := by
      rcases Nat.lt_or_ge 398 p with h | h
      · obtain rfl : p = 399 := by omega
        have := HR.out
        cases this
      · exact h
    rw [pgo_step hp8] at HR
    obtain ⟨P, hP⟩ : ∃ P, p + 1 = P := ⟨_, rfl⟩
    rw [hP] at HR
    have hPp : p < P := by omega
    have hP9 : P ≤ 399 := by omega
    have e0 : IntKind.u64.wrap ((p : Int) + 1) = (P : Int) := by simp [IntKind.wrap, IntKind.signed, IntKind.bits]; omega
    clear hP
    go_wp2_with fail
    clear e0
    obtain ⟨wo, hwo⟩ : ∃ wo : World, wo = wr := ⟨_, rfl⟩
    go_loopw [4, 5] (fun fv dv w2 => ∃ (d : Nat) (b : Bool), 2 ≤ d ∧ d ≤ 21 ∧ fv = .bool b ∧ dv = .int .u64 (d : Int) ∧ Hid ((b = true ↔ ∀ e, 2 ≤ e → e < d → P % e ≠ 0) ∧ (d = 2 ∨ (d - 1) * (d - 1) ≤ P)) ∧ w2 = wr) (fun _ dv _ => 30 - (intOf dv).toNat)
    case atStart => exact ⟨2, true, by omega, by omega, rfl, rfl, Lib.hid ⟨⟨fun _ e h1 h2 => by omega, fun _ => rfl⟩, .inl rfl⟩, rfl⟩
    case round =>
      obtain ⟨d, b, hd2, hd, rfl, rfl, HD, rfl⟩ := hrel
      clear hwo
      have hdd : d * d ≤ 441 := Nat.mul_le_mul hd hd
      obtain ⟨s, hs⟩ : ∃ s, d * d = s := ⟨_, rfl⟩
      have hsi : ((d : Int) * (d : Int)) = (s : Int) := by rw [← hs]; push_cast; rfl
      rw [hs] at hdd
      have e1 : IntKind.u64.wrap (s : Int) = (s : Int) := by simp [IntKind.wrap, IntKind.signed, IntKind.bits]; omega
      have HS := Lib.hid hs
      clear hs
      by_cases hle : s ≤ P
      · obtain ⟨m, hm⟩ : ∃ m, P % d = m := ⟨_, rfl⟩
        have t1 : (P : Int).tmod (d : Int) = (m : Int) := by rw [Int.tmod_eq_emod_of_nonneg (by omega), ← hm]; push_cast; rfl
        have t2 : (P : Int) % (d : Int) = (m : Int) := by rw [← hm]; push_cast; rfl
        have t3 : (d : Int) ≠ 0 := by omega
        have t4 : IntKind.u64.wrap (m : Int) = (m : Int) := by
          have : m ≤ P := by rw [← hm]; exact Nat.mod_le _ _
          simp [IntKind.wrap, IntKind.signed, IntKind.bits]; omega
        have t5 : IntKind.u64.wrap ((d : Int) + 1) = ((d + 1 : Nat) : Int) := by simp [IntKind.wrap, IntKind.signed, IntKind.bits]; omega
        have hd20 : d ≤ 20 := by
          rcases Nat.lt_or_ge 20 d with h | h
          · obtain rfl : d = 21 := by omega
            have := HS.out; omega
          · exact h
        have HM := Lib.hid hm
        clear hm
        have hnext : (d + 1 = 2 ∨ (d + 1 - 1) * (d + 1 - 1) ≤ P) := .inr (by rw [Nat.add_sub_cancel, HS.out]; exact hle)
        by_cases hm0 : m = 0
        · have q0 : ((m : Int) == 0) = true := by simp [hm0]
          have HB : Hid ((false = true ↔ ∀ e, 2 ≤ e → e < d + 1 → P % e ≠ 0) ∧ (d + 1 = 2 ∨ (d + 1 - 1) * (d + 1 - 1) ≤ P)) := Lib.hid ⟨⟨fun h => by (cases h), fun h => absurd (HM.out.trans hm0) (h d hd2 (by omega))⟩, hnext⟩
          clear hm0 hnext
          go_wp2_with fail
          go_roundw
          case rel => exact ⟨d + 1, false, by omega, by omega, rfl, by go_num, HB, trivial⟩
          case measure => simp [intOf]; omega
        · have q0 : ((m : Int) == 0) = false := by simp [hm0]
          have hall : b = true → ∀ e, 2 ≤ e → e < d + 1 → P % e ≠ 0 := by
            intro h e h2 he
            rcases Nat.lt_or_ge e d with h3 | h3
            · exact HD.out.1.1 h e h2 h3
            · obtain rfl : e = d := by omega
              rw [HM.out]; exact hm0
          have HB : Hid ((b = true ↔ ∀ e, 2 ≤ e → e < d + 1 → P % e ≠ 0) ∧ (d + 1 = 2 ∨ (d + 1 - 1) * (d + 1 - 1) ≤ P)) := Lib.hid ⟨⟨hall, fun h => HD.out.1.2 fun e h2 he => h e h2 (by omega)⟩, hnext⟩
          clear hall
          clear hm0 hnext
          go_wp2_with fail
          go_roundw
          case rel => exact ⟨d + 1, b, by omega, by omega, rfl, by go_num, HB, trivial⟩
          case measure => simp [intOf]; omega
      · have hb : b = isP P := by
          have h1 := isP_at hP9 HD.out.2 (by rw [HS.out]; omega)
          have h2 := HD.out.1
          cases b with
          | true => exact (h1.2 (h2.1 rfl)).symm
          | false =>
            cases hq : isP P with
            | true => exact absurd (h2.2 (h1.1 hq)) (by simp)
            | false => rfl
        cases b with
        | true =>
          rw [← hb] at HR
          clear hb HD
          cases n with
          | zero =>
            have hrr : P = r := by have := HR.out; simpa [pnext] using this
            subst hrr
            go_wp2_with fail
            go_ret
            exact ⟨rfl, rfl⟩
          | succ n =>
            have h1 : (((n + 1 : Nat) : Int) == 0) = false := by simp; omega
            have h2 : IntKind.i64.wrap (((n + 1 : Nat) : Int) - 1) = (n : Int) := by rw [IntKind.wrap_i64]; omega
            have HR2 : Hid (pgo (399 - P) P n = some r) := Lib.hid (by have := HR.out; simpa [pnext] using this)
            have h3 : IntKind.i64.wrap ((n : Int) + 1 - 1) = (n : Int) := by rw [IntKind.wrap_i64]; omega
            go_wp2_with fail
            go_roundw
            case rel => exact ⟨n, P, by omega, hP9, by go_num, rfl, HR2, trivial⟩
            case measure => simp [intOf]; omega
        | false =>
          rw [← hb] at HR
          have HR2 : Hid (pgo (399 - P) P n = some r) := Lib.hid (by simpa using HR.out)
          clear hb HD HR
          go_wp2_with fail
          go_roundw
          case rel => exact ⟨n, P, by omega, hP9, rfl, rfl, HR2, trivial⟩
          case measure => simp [intOf]; omega
end

section
open Go.RowKit Go.ChangeShapes Go.WideShapes Go.ChangeAt

def nv (n : Nat) : Value := .int .u64 (n : Int)
/-- amid: the parts and the three digits stand -/
def LessAt (w0 : World) (ga go : Nat) (x : Nat) (a : List Nat) (w : World) : Prop :=
  (a.length = 12 ∧ ∀ v ∈ a, v < 18446744073709551616) ∧ Blk w ga 152 (a.map nv) ∧ Blk w go 153 [nv (one3 x 0), nv (one3 x 1), nv (one3 x 2)] ∧ Kp No w0 w
theorem LessAt.set {w0 w : World} {ga go x : Nat} {a : List Nat} (h : LessAt w0 ga go x a w) (hg : w0.heap.size ≤ ga) (hne : ga ≠ go) (n z : Nat) (hz : z < 18446744073709551616) : LessAt w0 ga go x (a.set n z) (w.setCell ⟨ga, n, none⟩ (nv z)) := by
  obtain ⟨⟨h1, h1'⟩, h2, h3, h4⟩ := h
  refine ⟨⟨by rw [List.length_set]; exact h1, fun v hv => ?_⟩, by rw [List.map_set]; exact h2.set n (nv z), ?_, h4.setCell (fun hlt => absurd hlt (by show ¬ ga < _; omega)) _⟩
  · rcases List.mem_or_eq_of_mem_set hv with hv | rfl
    · exact h1' v hv
    · exact hz
  · exact h3.kept (S := (· = ga)) ((Kp.refl (· = ga) w).setCell (p := ⟨ga, n, none⟩) (fun _ => rfl) _) (fun e => hne e.symm)
theorem LessAt.drew {w0 w : World} {ga go x : Nat} {a : List Nat} (h : LessAt w0 ga go x a w) : LessAt w0 ga go x a w.drew := ⟨h.1, h.2.1.drew, h.2.2.1.drew, h.2.2.2.drew⟩
theorem LessAt.one {w0 w : World} {ga go x : Nat} {a : List Nat} (h : LessAt w0 ga go x a w) {i : Nat} (hi : i < 3) : w.cell? ⟨go, i, none⟩ = some (.int .u64 ((one3 x i : Nat) : Int)) := by
  rcases (by omega : i = 0 ∨ i = 1 ∨ i = 2) with rfl | rfl | rfl <;> exact h.2.2.1.cell rfl
theorem LessAt.at {w0 w : World} {ga go x : Nat} {a : List Nat} (h : LessAt w0 ga go x a w) {i : Nat} (hi : i < 12) : w.cell? ⟨ga, i, none⟩ = some (.int .u64 ((a.getD i 0 : Nat) : Int)) := by
  refine h.2.1.cell ?_
  rw [List.getElem?_map, List.getD_eq_getElem?_getD, List.getElem?_eq_getElem (by rw [h.1.1]; exact hi)]; rfl
theorem LessAt.lt {w0 w : World} {ga go x : Nat} {a : List Nat} (h : LessAt w0 ga go x a w) (i : Nat) : a.getD i 0 < 18446744073709551616 := by
  rw [List.getD_eq_getElem?_getD]
  rcases Nat.lt_or_ge i a.length with hi | hi
  · rw [List.getElem?_eq_getElem hi]; exact h.1.2 _ (List.getElem_mem hi)
  · rw [List.getElem?_eq_none hi]; decide
theorem LessAt.fr {w0 w : World} {ga go x : Nat} {a : List Nat} (h : LessAt w0 ga go x a w) (i : Nat) : w.frozen? ⟨ga, i, none⟩ = false := h.2.1.fr i
theorem getD_set_ne {a : List Nat} {n m z : Nat} (h : n ≠ m) : (a.set n z).getD m 0 = a.getD m 0 := by rw [List.getD_eq_getElem?_getD, List.getD_eq_getElem?_getD, List.getElem?_set_ne h]
theorem wrap_add (a b : Nat) : IntKind.u64.wrap ((a : Int) + (b : Int)) = (((a + b) % 18446744073709551616 : Nat) : Int) := by simp [IntKind.wrap, IntKind.signed, IntKind.bits]
theorem wrap_mul (a b : Nat) : IntKind.u64.wrap ((a : Int) * (b : Int)) = (((a * b) % 18446744073709551616 : Nat) : Int) := by simp [IntKind.wrap, IntKind.signed, IntKind.bits]
theorem and16b (a : Nat) (h : a < 18446744073709551616) : bits .and .u64 (a : Int) 65535 = ((a % 65536 : Nat) : Int) := by
  have h1 := u64_and_nat a 65535 h (by omega)
  rw [show ((65535 : Nat) : Int) = 65535 from rfl] at h1
  rw [h1]
  have h2 := Nat.and_two_pow_sub_one_eq_mod a 16
  rw [show 2 ^ 16 - 1 = 65535 from rfl, show 2 ^ 16 = 65536 from rfl] at h2
  rw [h2]

set_option maxRecDepth 100000 in
set_option maxHeartbeats 4000000 in
theorem r_less (x p : Nat) (b : Bool) (hx : x < 18446744073709551616) (hr : lessR x p = some b) (w : World) : Calls Try.prog 96 #[.int .u64 (x : Int), .int .u64 (p : Int)] w fun e w' => e = .returned (.bool b) ∧ Kp No w w' := by
  obtain ⟨A, hA, hb⟩ : ∃ A, igo x 3 0 (List.replicate 12 0) = some A ∧ lessOf (carryGo 11 0 A) p = b := by
    unfold lessR at hr
    split at hr
    · cases hr
    · rename_i A hA; exact ⟨A, hA, by injection hr⟩
  have HA := Lib.hid hA
  have HB := Lib.hid hb
  clear hr hA hb
  obtain ⟨x0, hx0⟩ : ∃ z, x % 65536 = z := ⟨_, rfl⟩
  obtain ⟨x1, hx1⟩ : ∃ z, x / 65536 % 65536 = z := ⟨_, rfl⟩
  obtain ⟨x2, hx2⟩ : ∃ z, x / 4294967296 = z := ⟨_, rfl⟩
  obtain ⟨xq, hxq⟩ : ∃ z, x / 65536 = z := ⟨_, rfl⟩
  have e0 : bits .and .u64 (x : Int) 65535 = (x0 : Int) := by rw [and16b x hx, hx0]
  have e1 : (x : Int) / 65536 = (xq : Int) := by rw [← hxq]; omega
  have e2 : bits .and .u64 (xq : Int) 65535 = (x1 : Int) := by rw [and16b xq (by omega), ← hx1, hxq]
  have e3 : (x : Int) / 4294967296 = (x2 : Int) := by rw [← hx2]; omega
  have HX : Hid (one3 x 0 = x0 ∧ one3 x 1 = x1 ∧ one3 x 2 = x2) := Lib.hid ⟨hx0, hx1, hx2⟩
  clear hx0 hx1 hx2 hxq
  go_enter Try.func96, Try.ntmps96
  go_wp2_with fail
  clear e0 e1 e2 e3
  have HS : Hid (LessAt w w.heap.size (w.heap.size + 1) x (List.replicate 12 0) ((w.alloc (.cells (List.replicate 12 (nv 0)).toArray 152)).alloc (.cells [nv x0, nv x1, nv x2].toArray 153))) := Lib.hid (by
    refine ⟨⟨rfl, by decide⟩, ?_, ?_, ((Kp.refl _ _).alloc _).alloc _⟩
    · exact (Blk.new w (List.replicate 12 (nv 0)) _).kept (S := No) ((Kp.refl _ _).alloc _) (fun x => x)
    · rw [HX.out.1, HX.out.2.1, HX.out.2.2]
      have h := Blk.new (w.alloc (.cells (List.replicate 12 (nv 0)).toArray 152)) [nv x0, nv x1, nv x2] 153
      simpa using h)
  go_loopw [7] (fun iv wr => ∃ (i : Nat) (a : List Nat), i ≤ 3 ∧ iv = .int .i64 (i : Int) ∧ LessAt w w.heap.size (w.heap.size + 1) x a wr ∧ Hid (igo x (3 - i) i a = some A)) (fun iv _ => 3 - (intOf iv).toNat)
  case atStart => exact ⟨0, _, by omega, rfl, HS.out, HA⟩
  case round =>
    obtain ⟨i, a, hi, rfl, hl, ha⟩ := hrel
    have HL := Lib.hid hl
    clear hl HA HS HX
    by_cases hlt : i < 3
    · obtain ⟨A1, hA1, hA2⟩ := igo_step hlt ha.out
      have HA1 := Lib.hid hA1
      have HA2 := Lib.hid hA2
      clear hA1 hA2 ha
      have Bi : (i : Int) < 3 := by omega
      go_wp2_with fail
      obtain ⟨wo, hwo⟩ : ∃ wo : World, wo = wr := ⟨_, rfl⟩
      go_loopw [8] (fun jv wr => ∃ (j : Nat) (a : List Nat), j ≤ 3 ∧ jv = .int .i64 (j : Int) ∧ LessAt w w.heap.size (w.heap.size + 1) x a wr ∧ Hid (jgo x i (3 - j) j a = some A1)) (fun jv _ => 3 - (intOf jv).toNat)
      case atStart => exact ⟨0, _, by omega, rfl, HL.out, HA1⟩
      case round =>
        clear hwo HL HA1
        obtain ⟨j, a, hj, rfl, hl, ha⟩ := hrel
        have HL := Lib.hid hl
        clear hl
        by_cases hjlt : j < 3
        · obtain ⟨B1, hB1, hB2⟩ := jgo_step hjlt ha.out
          have HB1 := Lib.hid hB1
          have HB2 := Lib.hid hB2
          clear hB1 hB2 ha
          have Bj : (j : Int) < 3 := by omega
          go_wp2_with fail
          obtain ⟨wo, hwo⟩ : ∃ wo : World, wo = wr := ⟨_, rfl⟩
          go_loopw [9] (fun kv wr => ∃ (k : Nat) (a : List Nat), k ≤ 3 ∧ kv = .int .i64 (k : Int) ∧ LessAt w w.heap.size (w.heap.size + 1) x a wr ∧ Hid (kgo x i j (3 - k) k a = some B1)) (fun kv _ => 3 - (intOf kv).toNat)
          case atStart => exact ⟨0, _, by omega, rfl, HL.out, HB1⟩
          case round =>
            clear hwo HL HB1
            obtain ⟨k, a, hk, rfl, hl, ha⟩ := hrel
            have HL := Lib.hid hl
            clear hl
            by_cases hklt : k < 3
            · obtain ⟨C1, hC1, hC2⟩ := kgo_step hklt ha.out
              have Bk : (k : Int) < 3 := by omega
              have ci := HL.out.one hlt
              have cj := HL.out.one hjlt
              have ck := HL.out.one hklt
              obtain ⟨oi, hoi⟩ : ∃ z, one3 x i = z := ⟨_, rfl⟩
              obtain ⟨oj, hoj⟩ : ∃ z, one3 x j = z := ⟨_, rfl⟩
              obtain ⟨ok, hok⟩ : ∃ z, one3 x k = z := ⟨_, rfl⟩
              rw [hoi] at ci hC1
              rw [hoj] at cj hC1
              rw [hok] at ck hC1
              obtain ⟨m1, hm1⟩ : ∃ z, oi * oj % 18446744073709551616 = z := ⟨_, rfl⟩
              obtain ⟨y0, hy0⟩ : ∃ z, m1 * ok % 18446744073709551616 = z := ⟨_, rfl⟩
              rw [hm1, hy0] at hC1
              have e1 : IntKind.u64.wrap ((oi : Int) * (oj : Int)) = (m1 : Int) := by rw [wrap_mul, hm1]
              have e2 : IntKind.u64.wrap ((m1 : Int) * (ok : Int)) = (y0 : Int) := by rw [wrap_mul, hy0]
              have e3 : IntKind.i64.wrap ((i : Int) + (j : Int)) = (i : Int) + (j : Int) := by rw [IntKind.wrap_i64]; omega
              have e4 : IntKind.i64.wrap ((i : Int) + (j : Int) + (k : Int)) = ((i + j + k : Nat) : Int) := by rw [IntKind.wrap_i64]; omega
              have hy0l : y0 < 18446744073709551616 := by rw [← hy0]; exact Nat.mod_lt _ (by omega)
              have HC1 := Lib.hid hC1
              have HC2 := Lib.hid hC2
              clear hC1 hC2 ha hoi hoj hok hm1 hy0
              go_wp2_with fail
              refine Reg.wp_region_plan [⟨0, false, []⟩, ⟨1, false, []⟩, ⟨2, false, []⟩, ⟨3, false, []⟩, ⟨4, false, []⟩, ⟨5, false, []⟩, ⟨6, false, []⟩, ⟨7, false, []⟩, ⟨8, false, []⟩, ⟨9, false, []⟩, ⟨10, false, []⟩, ⟨11, false, []⟩] rfl (by kernel_rfl) ?_
              repeat (first | (refine Reg.look rfl rfl rfl (by go_simp; rfl) rfl ?_; go_simp) | (refine Reg.skip rfl rfl rfl ?_; go_simp))
              (refine Reg.done ?_; simp only [Exit.then])
              clear e1 e2 ci cj ck
              go_wp2_with fail
              obtain ⟨wo, hwo⟩ : ∃ wo : World, wo = wr := ⟨_, rfl⟩
              go_loopw [10, 11] (fun yv nv wr => ∃ (f y n : Nat) (a : List Nat), y < 18446744073709551616 ∧ n ≤ 12 ∧ yv = .int .u64 (y : Int) ∧ nv = .int .i64 (n : Int) ∧ LessAt w w.heap.size (w.heap.size + 1) x a wr ∧ Hid (digits f y n a = some C1)) (fun yv _ _ => (intOf yv).toNat)
              case atStart => exact ⟨5, y0, i + j + k, a, hy0l, by omega, rfl, by congr 1, HL.out.drew, HC1⟩
              case round =>
                clear hwo HL HC1 hy0l e3 e4
                obtain ⟨f, y, n, a, hyl, hn, rfl, rfl, hl, ha⟩ := hrel
                have HL := Lib.hid hl
                clear hl
                by_cases hy : 0 < y
                · obtain ⟨hn12, hd⟩ := digits_pos ha.out hy
                  have hyi : (0 : Int) < (y : Int) := by omega
                  have Bn : (n : Int) < 12 := by omega
                  have cn := HL.out.at hn12
                  have fr := HL.out.fr n
                  obtain ⟨v, hv⟩ : ∃ z, a.getD n 0 = z := ⟨_, rfl⟩
                  obtain ⟨lo, hlo⟩ : ∃ z, y % 65536 = z := ⟨_, rfl⟩
                  obtain ⟨yq, hyq⟩ : ∃ z, y / 65536 = z := ⟨_, rfl⟩
                  obtain ⟨z, hz⟩ : ∃ z, (v + lo) % 18446744073709551616 = z := ⟨_, rfl⟩
                  have e1 : bits .and .u64 (y : Int) 65535 = (lo : Int) := by rw [and16b y hyl, hlo]
                  have e2 : IntKind.u64.wrap ((v : Int) + (lo : Int)) = (z : Int) := by rw [wrap_add, hz]
                  have e3 : (y : Int) / 65536 = (yq : Int) := by rw [← hyq]; omega
                  have e4 : IntKind.i64.wrap ((n : Int) + 1) = (n : Int) + 1 := by rw [IntKind.wrap_i64]; omega
                  have hlt2 : yq < y := by omega
                  have hzl : z < 18446744073709551616 := by rw [← hz]; exact Nat.mod_lt _ (by omega)
                  rw [hv] at cn
                  rw [hv, hlo, hz, hyq] at hd
                  have HD := Lib.hid hd
                  clear hd ha hv hlo hyq hz
                  go_wp2_with fail
                  go_roundw
                  case rel => exact ⟨f - 1, yq, n + 1, a.set n z, by omega, by omega, rfl, by go_num, HL.out.set (Nat.le_refl _) (by omega) n z hzl, HD⟩
                  case measure => simp [intOf]; omega
                · obtain rfl : y = 0 := by omega
                  obtain rfl := digits_zero ha.out
                  go_wp2_with fail
                  go_roundw
                  case rel => exact ⟨k + 1, a, by omega, by go_num, HL.out, HC2⟩
                  case measure => simp [intOf]; omega
            · obtain rfl : k = 3 := by omega
              have hab : a = B1 := by have := ha.out; simpa [kgo] using this
              subst hab
              clear ha
              go_wp2_with fail
              go_roundw
              case rel => exact ⟨j + 1, a, by omega, by go_num, HL.out, HB2⟩
              case measure => simp [intOf]; omega
        · obtain rfl : j = 3 := by omega
          have hab : a = A1 := by have := ha.out; simpa [jgo] using this
          subst hab
          clear ha
          go_wp2_with fail
          go_roundw
          case rel => exact ⟨i + 1, a, by omega, by go_num, HL.out, HA2⟩
          case measure => simp [intOf]; omega
    · obtain rfl : i = 3 := by omega
      rw [show (((3 : Nat)) : Int) = 3 from rfl]
      have hab : a = A := by have := ha.out; simpa [igo] using this
      subst hab
      clear ha
      obtain ⟨b0, hb0⟩ : ∃ z, carryGo 11 0 a = z := ⟨_, rfl⟩
      rw [hb0] at HB
      have HC0 := Lib.hid hb0
      clear hb0
      go_wp2_with fail
      obtain ⟨wo, hwo⟩ : ∃ wo : World, wo = wr := ⟨_, rfl⟩
      go_loopw [12] (fun nv wr => ∃ (n : Nat) (a : List Nat), n ≤ 11 ∧ nv = .int .i64 (n : Int) ∧ LessAt w w.heap.size (w.heap.size + 1) x a wr ∧ Hid (carryGo (11 - n) n a = b0)) (fun nv _ => 11 - (intOf nv).toNat)
      case atStart => exact ⟨0, a, by omega, rfl, HL.out, HC0⟩
      case round =>
        clear hwo HL HC0
        obtain ⟨n, a, hn, rfl, hl, ha⟩ := hrel
        have HL := Lib.hid hl
        clear hl
        by_cases hlt2 : n < 11
        · have hc := ha.out
          rw [carry_step hlt2] at hc
          have c0 := HL.out.at (i := n) (by omega)
          have c1 := HL.out.at (i := n + 1) (by omega)
          have f0 := HL.out.fr n
          have f1 := HL.out.fr (n + 1)
          obtain ⟨v0, hv0⟩ : ∃ z, a.getD n 0 = z := ⟨_, rfl⟩
          obtain ⟨v1, hv1⟩ : ∃ z, a.getD (n + 1) 0 = z := ⟨_, rfl⟩
          obtain ⟨q0, hq0⟩ : ∃ z, v0 / 65536 = z := ⟨_, rfl⟩
          obtain ⟨lo, hlo⟩ : ∃ z, v0 % 65536 = z := ⟨_, rfl⟩
          obtain ⟨z, hz⟩ : ∃ z, (v1 + q0) % 18446744073709551616 = z := ⟨_, rfl⟩
          rw [hv0] at c0
          rw [hv1] at c1
          rw [hv0, hv1, hq0, hz, hlo] at hc
          obtain ⟨n1, hn1⟩ : ∃ z, n + 1 = z := ⟨_, rfl⟩
          rw [hn1] at c1 f1 hc
          have hne : n ≠ n1 := by omega
          have hne2 : n1 ≠ n := by omega
          have e1 : IntKind.i64.wrap ((n : Int) + 1) = (n1 : Int) := by rw [IntKind.wrap_i64]; omega
          have e2 : (v0 : Int) / 65536 = (q0 : Int) := by rw [← hq0]; omega
          have e3 : IntKind.u64.wrap ((v1 : Int) + (q0 : Int)) = (z : Int) := by rw [wrap_add, hz]
          have Bn : (n : Int) < 12 := by omega
          have Bn1 : (n1 : Int) < 12 := by omega
          have bn1 : n1 ≤ 11 := by omega
          have hzl : z < 18446744073709551616 := by rw [← hz]; exact Nat.mod_lt _ (by omega)
          have hv0l : v0 < 18446744073709551616 := by rw [← hv0]; exact HL.out.lt n
          have HC := Lib.hid hc
          have HV0 := Lib.hid hv0
          have HLO := Lib.hid hlo
          have HN1 := Lib.hid hn1
          clear hc ha hv0 hv1 hq0 hz hn1 hlo
          go_wp2_with fail
          refine Reg.wp_region_plan [⟨0, false, []⟩, ⟨1, false, []⟩, ⟨2, false, []⟩, ⟨3, false, []⟩, ⟨4, false, []⟩, ⟨5, false, []⟩, ⟨6, false, []⟩, ⟨7, false, []⟩, ⟨8, false, []⟩, ⟨9, false, []⟩, ⟨10, true, []⟩] rfl (by kernel_rfl) ?_
          repeat (first | (refine Reg.look rfl rfl rfl (by go_simp; rfl) rfl ?_; go_simp) | (refine Reg.skip rfl rfl rfl ?_; go_simp))
          refine Reg.act rfl ?_
          go_wp2
          refine ⟨Reg.anew_nil, ?_⟩
          (refine Reg.done ?_; simp only [Exit.then])
          have HL2 : Hid (LessAt w w.heap.size (w.heap.size + 1) x (a.set n1 z) (wr.setCell ⟨w.heap.size, n1, none⟩ (.int .u64 (z : Int))).drew) := Lib.hid ((HL.out.set (Nat.le_refl _) (by omega) n1 z hzl).drew)
          generalize (wr.setCell ⟨w.heap.size, n1, none⟩ (.int .u64 (z : Int))).drew = w5 at *
          have c5 := HL2.out.at (i := n) (by omega)
          rw [getD_set_ne hne2, HV0.out] at c5
          have f5 := HL2.out.fr n
          have e5 : bits .and .u64 (v0 : Int) 65535 = (lo : Int) := by rw [and16b v0 hv0l, HLO.out]
          clear c0 c1 f0 f1 HL e1 e2 e3
          go_wp2_with fail
          go_roundw
          case rel => exact ⟨n + 1, (a.set n1 z).set n lo, by omega, by go_num, HL2.out.set (Nat.le_refl _) (by omega) n lo (by have := HLO.out; omega), by rw [HN1.out]; exact HC⟩
          case measure => simp [intOf]; omega
        · obtain rfl : n = 11 := by omega
          rw [show (((11 : Nat)) : Int) = 11 from rfl]
          have hab : a = b0 := by have := ha.out; simpa [carryGo] using this
          subst hab
          clear ha
          obtain ⟨T, hT⟩ : ∃ z, topGo a 6 0 = z := ⟨_, rfl⟩
          have HT := Lib.hid hT
          have HLE : Hid (b = (decide (T < p) || (decide (T = p) && decide (restOf a = 0)))) := Lib.hid (by rw [← HB.out, ← hT]; rfl)
          clear hT HB
          go_wp2_with fail
          obtain ⟨wo, hwo⟩ : ∃ wo : World, wo = wr := ⟨_, rfl⟩
          go_loopw [13, 14] (fun tv iv w2 => ∃ (f t : Nat), f ≤ 6 ∧ tv = .int .u64 (t : Int) ∧ iv = .int .i64 ((f : Int) + 5) ∧ Hid (topGo a f t = T) ∧ w2 = wr) (fun _ iv _ => (intOf iv).toNat - 5)
          case atStart => exact ⟨6, 0, by omega, rfl, rfl, HT, rfl⟩
          case round =>
            obtain ⟨f, t, hf, rfl, rfl, ht, rfl⟩ := hrel
            clear hwo HT
            cases f with
            | succ f =>
              have c0 := HL.out.at (i := f + 6) (by omega)
              obtain ⟨v, hv⟩ : ∃ z, a.getD (f + 6) 0 = z := ⟨_, rfl⟩
              obtain ⟨t1, ht1⟩ : ∃ z, t * 65536 % 18446744073709551616 = z := ⟨_, rfl⟩
              obtain ⟨t2, ht2⟩ : ∃ z, (t1 + v) % 18446744073709551616 = z := ⟨_, rfl⟩
              have e1 : IntKind.u64.wrap ((t : Int) * 65536) = (t1 : Int) := by rw [← ht1]; exact wrap_mul t 65536
              have e2 : IntKind.u64.wrap ((t1 : Int) + (v : Int)) = (t2 : Int) := by rw [wrap_add, ht2]
              have HT2 : Hid (topGo a f t2 = T) := Lib.hid (by rw [← ht.out, topGo, hv, ht1, ht2])
              obtain ⟨q, hq⟩ : ∃ q, f + 6 = q := ⟨_, rfl⟩
              rw [hv, hq] at c0
              rw [show (((f + 1 : Nat) : Int) + 5) = (q : Int) by omega]
              have Bq : (q : Int) < 12 := by omega
              have Bq6 : (6 : Int) ≤ (q : Int) := by omega
              have bq6 : 6 ≤ q := by omega
              have bq12 : q < 12 := by omega
              have e3 : IntKind.i64.wrap ((q : Int) - 1) = (f : Int) + 5 := by rw [IntKind.wrap_i64]; omega
              have HQ := Lib.hid hq
              clear hv ht1 ht2 ht hq
              go_wp2_with fail
              go_roundw
              case rel => exact ⟨f, t2, by omega, rfl, rfl, HT2, trivial⟩
              case measure => have := HQ.out; simp [intOf]; omega
            | zero =>
              have htT : t = T := ht.out
              subst htT
              have c0 := HL.out.at (i := 0) (by omega)
              have c1 := HL.out.at (i := 1) (by omega)
              have c2 := HL.out.at (i := 2) (by omega)
              have c3 := HL.out.at (i := 3) (by omega)
              have c4 := HL.out.at (i := 4) (by omega)
              have c5 := HL.out.at (i := 5) (by omega)
              have hrest : restOf a = ad (ad (ad (ad (ad (a.getD 0 0) (a.getD 1 0)) (a.getD 2 0)) (a.getD 3 0)) (a.getD 4 0)) (a.getD 5 0) := rfl
              obtain ⟨v0, hv0⟩ : ∃ z, a.getD 0 0 = z := ⟨_, rfl⟩
              obtain ⟨v1, hv1⟩ : ∃ z, a.getD 1 0 = z := ⟨_, rfl⟩
              obtain ⟨v2, hv2⟩ : ∃ z, a.getD 2 0 = z := ⟨_, rfl⟩
              obtain ⟨v3, hv3⟩ : ∃ z, a.getD 3 0 = z := ⟨_, rfl⟩
              obtain ⟨v4, hv4⟩ : ∃ z, a.getD 4 0 = z := ⟨_, rfl⟩
              obtain ⟨v5, hv5⟩ : ∃ z, a.getD 5 0 = z := ⟨_, rfl⟩
              rw [hv0, hv1, hv2, hv3, hv4, hv5] at hrest
              rw [hv0] at c0
              rw [hv1] at c1
              rw [hv2] at c2
              rw [hv3] at c3
              rw [hv4] at c4
              rw [hv5] at c5
              obtain ⟨s1, hs1⟩ : ∃ z, ad v0 v1 = z := ⟨_, rfl⟩
              obtain ⟨s2, hs2⟩ : ∃ z, ad s1 v2 = z := ⟨_, rfl⟩
              obtain ⟨s3, hs3⟩ : ∃ z, ad s2 v3 = z := ⟨_, rfl⟩
              obtain ⟨s4, hs4⟩ : ∃ z, ad s3 v4 = z := ⟨_, rfl⟩
              obtain ⟨s5, hs5⟩ : ∃ z, ad s4 v5 = z := ⟨_, rfl⟩
              rw [hs1, hs2, hs3, hs4, hs5] at hrest
              rw [hrest] at HLE
              have e1 : IntKind.u64.wrap ((v0 : Int) + (v1 : Int)) = (s1 : Int) := by rw [wrap_add, ← hs1]; rfl
              have e2 : IntKind.u64.wrap ((s1 : Int) + (v2 : Int)) = (s2 : Int) := by rw [wrap_add, ← hs2]; rfl
              have e3 : IntKind.u64.wrap ((s2 : Int) + (v3 : Int)) = (s3 : Int) := by rw [wrap_add, ← hs3]; rfl
              have e4 : IntKind.u64.wrap ((s3 : Int) + (v4 : Int)) = (s4 : Int) := by rw [wrap_add, ← hs4]; rfl
              have e5 : IntKind.u64.wrap ((s4 : Int) + (v5 : Int)) = (s5 : Int) := by rw [wrap_add, ← hs5]; rfl
              clear hv0 hv1 hv2 hv3 hv4 hv5 hs1 hs2 hs3 hs4 hs5 hrest ht
              by_cases q1 : t < p
              · have hbb : b = true := by rw [HLE.out]; simp [q1]
                subst hbb
                clear HLE
                go_wp2_with fail
                go_ret
                exact ⟨rfl, HL.out.2.2.2⟩
              · by_cases q2 : t = p
                · have d2 : ((t : Int) == (p : Int)) = true := by simp [q2]
                  by_cases q3 : s5 = 0
                  · have hbb : b = true := by rw [HLE.out]; simp [q2, q3]
                    have d3 : ((s5 : Int) == 0) = true := by simp [q3]
                    subst hbb
                    clear HLE q2 q3
                    go_wp2_with fail
                    go_ret
                    exact ⟨rfl, HL.out.2.2.2⟩
                  · have hbb : b = false := by rw [HLE.out]; simp [q2, q3]
                    have d3 : ((s5 : Int) == 0) = false := by simp [q3]
                    subst hbb
                    clear HLE q2 q3
                    go_wp2_with fail
                    go_ret
                    exact ⟨rfl, HL.out.2.2.2⟩
                · have d2 : ((t : Int) == (p : Int)) = false := by simp; omega
                  have hbb : b = false := by rw [HLE.out]; simp [q1, q2]
                  subst hbb
                  clear HLE q2
                  go_wp2_with fail
                  go_ret
                  exact ⟨rfl, HL.out.2.2.2⟩
end

section
open Go.RowKit Go.ChangeShapes Go.WideShapes Go.ChangeAt

theorem cubeR_step {p c r F : Nat} (h : cubeR p (c + 1) r = some F) : ∃ b, lessR ((r + 2 ^ c % 18446744073709551616) % 18446744073709551616) p = some b ∧ cubeR p c (if b then (r + 2 ^ c % 18446744073709551616) % 18446744073709551616 else r) = some F := by
  rw [cubeR] at h
  split at h
  · rename_i hb; exact ⟨true, hb, h⟩
  · rename_i hb; exact ⟨false, hb, h⟩
  · cases h

set_option maxRecDepth 100000 in
set_option maxHeartbeats 1000000 in
theorem r_cube (p F : Nat) (hF : cubeR p 35 0 = some F) (w : World) : Calls Try.prog 84 #[.int .u64 (p : Int)] w fun e w' => e = .returned (.int .u32 ((F % 4294967296 : Nat) : Int)) ∧ Kp No w w' := by
  have HF0 : Hid (cubeR p 35 0 = some F) := Lib.hid hF
  clear hF
  go_enter Try.func84, Try.ntmps84
  go_wp2_with fail
  go_loopw [3, 4] (fun rv bv wr => ∃ (r b : Nat), b ≤ 35 ∧ rv = .int .u64 (r : Int) ∧ bv = .int .i64 ((b : Int) - 1) ∧ Hid (cubeR p b r = some F) ∧ Kp No w wr) (fun _ bv _ => ((intOf bv) + 1).toNat)
  case atStart => exact ⟨0, 35, by omega, rfl, rfl, HF0, Kp.refl _ _⟩
  case round =>
    obtain ⟨r, b, hb, rfl, rfl, HF, hkp⟩ := hrel
    have HK := Lib.hid hkp
    clear HF0 hkp
    cases b with
    | succ c =>
      rw [show (((c + 1 : Nat) : Int) - 1) = (c : Int) by omega]
      have h0 : (0 : Int) ≤ (c : Int) := by omega
      have e0 : IntKind.i64.wrap ((c : Int) - 1) = (c : Int) - 1 := by rw [IntKind.wrap_i64]; omega
      obtain ⟨bb, hl, hc⟩ := cubeR_step HF.out
      obtain ⟨s, hs⟩ : ∃ s, 2 ^ c % 18446744073709551616 = s := ⟨_, rfl⟩
      obtain ⟨x, hx⟩ : ∃ x, (r + s) % 18446744073709551616 = x := ⟨_, rfl⟩
      rw [hs, hx] at hl hc
      have e1 : IntKind.u64.wrap (2 ^ c) = (s : Int) := by rw [← hs]; simp [IntKind.wrap, IntKind.signed, IntKind.bits]
      have e2 : IntKind.u64.wrap ((r : Int) + (s : Int)) = (x : Int) := by rw [wrap_add, hx]
      have hxl : x < 18446744073709551616 := by rw [← hx]; exact Nat.mod_lt _ (by omega)
      have HL := Lib.hid hl
      have HC := Lib.hid hc
      clear hl hc hs hx HF
      go_wp2_with fail
      refine (r_less x p bb hxl HL.out _).mono ?_
      rintro e w2 ⟨rfl, hk2⟩
      have HK2 := Lib.hid (HK.out.trans' hk2)
      clear hk2 HK
      cases bb with
      | true =>
        have HC2 : Hid (cubeR p c x = some F) := Lib.hid (by simpa using HC.out)
        go_wp2_with fail
        go_roundw
        case rel => exact ⟨x, c, by omega, rfl, by go_num, HC2, HK2.out⟩
        case measure => simp [intOf]
      | false =>
        have HC2 : Hid (cubeR p c r = some F) := Lib.hid (by simpa using HC.out)
        go_wp2_with fail
        go_roundw
        case rel => exact ⟨r, c, by omega, rfl, by go_num, HC2, HK2.out⟩
        case measure => simp [intOf]
    | zero =>
      have hr : r = F := by have := HF.out; simpa [cubeR] using this
      subst hr
      have e1 : IntKind.u32.wrap (r : Int) = ((r % 4294967296 : Nat) : Int) := by simp [IntKind.wrap, IntKind.signed, IntKind.bits]
      go_wp2_with fail
      go_ret
      exact ⟨rfl, HK.out⟩
end

section
open Go.RowKit Go.ChangeShapes Go.WideShapes Go.ChangeAt

def vlenR : Value → Nat | .slice _ n _ => n | _ => 0
theorem len8_takeR (n j : Nat) (h : j < 8) : (len8 n).take (j + 1) = (len8 n).take j ++ [UInt8.ofNat (n * 8 / 2 ^ (8 * (7 - j)))] := by
  have : j = 0 ∨ j = 1 ∨ j = 2 ∨ j = 3 ∨ j = 4 ∨ j = 5 ∨ j = 6 ∨ j = 7 := by omega
  rcases this with rfl | rfl | rfl | rfl | rfl | rfl | rfl | rfl <;> rfl


set_option maxRecDepth 100000 in
set_option maxHeartbeats 2000000 in
theorem r_message (s : ByteArray) (w : World) (hs : s.size ≤ 1048576) : Calls Try.prog 85 #[.string s] w fun e w' =>
    ∃ A c, e = .returned (.slice A (padded s.data.toList).length c) ∧ OwnM w' w.heap.size 5 (.slice A (padded s.data.toList).length c) (padded s.data.toList) ∧ Kp No w w' := by
  obtain ⟨c1, w1, hrun, hown, hk⟩ := ownM_text (P := Try.prog) w 131 9 5 bytely s (by omega) w.heap.size (Nat.le_refl _)
  obtain ⟨M, hM⟩ : ∃ M, s.data.toList = M := ⟨_, rfl⟩
  have hMl : M.length = s.size := by rw [← hM, data_length]
  rw [hM] at hown ⊢
  rw [← hMl] at hrun
  have HO := Lib.hid hown
  have HK := Lib.hid hk
  have HML := Lib.hid hMl
  have hMle : M.length ≤ 1048576 := by omega
  clear hown hk hM hMl
  go_enter Try.func85, Try.ntmps85
  go_wp2_with (at_builtin; refine wpList_appendM_bytes rfl _ (.tmp 7) (.tmp 8) 131 9 rfl w.heap.size 5 bytely (.slice (some ⟨w.heap.size, 0, none⟩) M.length c1) M rfl (HO.out.keptNo ((Kp.refl _ _).alloc _)) ⟨w1.heap.size, 0, none⟩ 1 [128] (by simp) rfl ?d0 ?d1 ?d2 ?_)
  case d0 =>
    intro j y hy
    have hj : j = 0 := by have := (List.getElem?_eq_some_iff.1 hy).1; simp at this; exact this
    subst hj
    have hy : byteOf 128 = y := by simpa using hy
    subst hy
    exact (Blk.new w1 [byteOf 128] 5).cell rfl
  case d1 => simp; omega
  case d2 => have := HK.out.size; simp; omega
  intro v3 w3 hown hgr
  obtain ⟨A3, c3, rfl, _⟩ := hown.shape
  have hkr : Kp (fun k => (Value.slice (some ⟨w.heap.size, 0, none⟩) M.length c1).ownBlock = some k) w1 w3 := ((Kp.refl _ _).alloc _).grown hgr (fun g hg _ => hg)
  have HO3 := Lib.hid hown
  have HK3 := Lib.hid (HK.out.trans hkr (fun i hi hv => absurd (HO.out.lt i hv).1 (by omega)))
  clear hown hgr hkr HO HK hrun
  have hlx : (M ++ [(128 : UInt8)]).length = M.length + 1 := by simp
  rw [hlx]
  clear hlx
  go_wp2_with fail
  obtain ⟨wo, hwo⟩ : ∃ wo : World, wo = w3 := ⟨_, rfl⟩
  go_loopw [3] (fun wv wr => ∃ j : Nat, j ≤ padN M.length ∧ OwnM wr w.heap.size 5 wv (M ++ [128] ++ List.replicate j 0) ∧ Kp No w wr) (fun wv _ => M.length + 1 + padN M.length - vlenR wv)
  case atStart => exact ⟨0, Nat.zero_le _, by simpa using HO3.out, HK3.out⟩
  case round =>
    obtain ⟨j, hj, hown, hkp⟩ := hrel
    obtain ⟨A4, c4, rfl, hc4⟩ := hown.shape
    obtain ⟨M4, hM4⟩ : ∃ M4, M ++ [128] ++ List.replicate j 0 = M4 := ⟨_, rfl⟩
    have hl4 : M4.length = M.length + 1 + j := by rw [← hM4]; simp; omega
    rw [hM4] at hown hc4
    rw [hM4]
    have hpad := padN_mod M.length
    have HO := Lib.hid hown
    have HK := Lib.hid hkp
    have HM4 := Lib.hid hM4
    have HL4 := Lib.hid hl4
    have hdle : M4.length ≤ 2097152 := by omega
    clear HO3 HK3 hwo
    by_cases h56 : M4.length % 64 = 56
    · have hjp : j = padN M.length := by omega
      have hd : (((M4.length : Int) % 64) != 56) = false := by simp; omega
      clear hown hkp hM4 hpad hl4
      subst hjp
      have e8 : IntKind.u64.wrap ((s.size : Int) * 8) = ((M.length * 8 : Nat) : Int) := by have := HML.out; simp [IntKind.wrap, IntKind.signed, IntKind.bits]; omega
      have e9 : IntKind.u64.wrap (s.size : Int) = (s.size : Int) := by simp [IntKind.wrap, IntKind.signed, IntKind.bits]; omega
      have HS6 : Hid (OwnM wr w.heap.size 5 (.slice A4 M4.length c4) (M4 ++ (len8 M.length).take 0)) := Lib.hid (by simpa using HO.out)
      go_wp2_with fail
      obtain ⟨wo, hwo⟩ : ∃ wo : World, wo = wr := ⟨_, rfl⟩
      go_loopw [3, 5] (fun wv iv wr => ∃ j : Nat, j ≤ 8 ∧ iv = .int .i64 (8 * (7 - (j : Int))) ∧ OwnM wr w.heap.size 5 wv (M4 ++ (len8 M.length).take j) ∧ Kp No w wr) (fun _ iv _ => ((intOf iv) + 8).toNat)
      case atStart => exact ⟨0, by omega, rfl, HS6.out, HK.out⟩
      case round =>
        clear HS6 HO HK hwo
        obtain ⟨j, hj8, rfl, hown, hkp⟩ := hrel
        obtain ⟨A6, c6, rfl, hc6⟩ := hown.shape
        by_cases hj : j < 8
        · have i2 : (0 : Int) ≤ 8 * (7 - (j : Int)) := by omega
          have i3 : IntKind.i64.wrap (8 * (7 - (j : Int)) - 8) = 8 * (7 - ((j + 1 : Nat) : Int)) := by rw [IntKind.wrap_i64]; omega
          obtain ⟨M6, hM6⟩ : ∃ M6, M4 ++ (len8 M.length).take j = M6 := ⟨_, rfl⟩
          rw [hM6] at hown hc6
          rw [hM6]
          have hl6 : M6.length = M4.length + j := by rw [← hM6, List.length_append, List.length_take]; simp [len8]; omega
          have hdle6 : M6.length ≤ 4194304 := by omega
          have HO6 := Lib.hid hown
          have HK6 := Lib.hid hkp
          have HM6 := Lib.hid hM6
          obtain ⟨X, hX⟩ : ∃ X, M.length * 8 / 2 ^ (8 * (7 - j)) = X := ⟨_, rfl⟩
          have HX := Lib.hid hX
          clear hown hkp hM6 hl6 hX
          have hbv : Value.int IntKind.u8 ((M.length : Int) * 8 / 2 ^ (8 * (7 - j)) % 256) = byteOf (UInt8.ofNat X) := by
            rw [byte_nat, ← HX.out]
            push_cast; rfl
          have HBV := Lib.hid hbv
          clear hbv
          go_wp2_with (at_builtin; rw [HBV.out]; refine wpList_appendM_bytes rfl _ (.tmp 25) (.tmp 30) 131 9 rfl w.heap.size 5 bytely (.slice A6 M6.length c6) M6 rfl (HO6.out.keptNo ((Kp.refl _ _).alloc _)) ⟨wr.heap.size, 0, none⟩ 1 [UInt8.ofNat X] (by simp) rfl ?d0 ?d1 ?d2 ?_)
          case d0 =>
            intro j y hy
            have hj : j = 0 := by have := (List.getElem?_eq_some_iff.1 hy).1; simp at this; exact this
            subst hj
            have hy : byteOf (UInt8.ofNat X) = y := by simpa using hy
            subst hy
            exact (Blk.new wr [byteOf (UInt8.ofNat X)] 5).cell rfl
          case d1 => simp; omega
          case d2 => have := HK6.out.size; simp; omega
          intro v7 w7 hown hgr
          obtain ⟨A7, c7, rfl, _⟩ := hown.shape
          have hkr : Kp (fun k => (Value.slice A6 M6.length c6).ownBlock = some k) wr w7 := ((Kp.refl _ _).alloc _).grown hgr (fun g hg _ => hg)
          have HS7 := Lib.hid hown
          have HK7 := Lib.hid (HK6.out.trans hkr (fun i hi hv => absurd (HO6.out.lt i hv).1 (by omega)))
          clear hown hgr hkr
          go_wp2_with fail
          go_roundw
          case rel =>
            refine ⟨j + 1, by omega, rfl, ?_, HK7.out⟩
            have e : M4 ++ (len8 M.length).take (j + 1) = M6 ++ [UInt8.ofNat X] := by rw [len8_takeR _ _ hj, HX.out, ← List.append_assoc, HM6.out]
            rw [e]
            exact HS7.out
          case measure => simp [intOf]; omega
        · obtain rfl : j = 8 := by omega
          have hpd : M4 ++ (len8 M.length).take 8 = padded M := by rw [← HM4.out]; rfl
          rw [hpd] at hown
          rw [hpd]
          have HO6 := Lib.hid hown
          have HK6 := Lib.hid hkp
          clear hown hkp hpd
          go_wp2_with fail
          go_ret
          exact ⟨A6, c6, rfl, HO6.out, HK6.out⟩
    · have hjp : j < padN M.length := by omega
      have hd : (((M4.length : Int) % 64) != 56) = true := by simp; omega
      clear hown hkp hM4 hpad hl4
      go_wp2_with (at_builtin; refine wpList_appendM_bytes rfl _ (.tmp 14) (.tmp 15) 131 9 rfl w.heap.size 5 bytely (.slice A4 M4.length c4) M4 rfl (HO.out.keptNo ((Kp.refl _ _).alloc _)) ⟨wr.heap.size, 0, none⟩ 1 [0] (by simp) rfl ?d0 ?d1 ?d2 ?_)
      case d0 =>
        intro j y hy
        have hj : j = 0 := by have := (List.getElem?_eq_some_iff.1 hy).1; simp at this; exact this
        subst hj
        have hy : byteOf 0 = y := by simpa using hy
        subst hy
        exact (Blk.new wr [byteOf 0] 5).cell rfl
      case d1 => simp; omega
      case d2 => have := HK.out.size; simp; omega
      intro v5 w5 hown hgr
      obtain ⟨A5, c5, rfl, _⟩ := hown.shape
      have hkr : Kp (fun k => (Value.slice A4 M4.length c4).ownBlock = some k) wr w5 := ((Kp.refl _ _).alloc _).grown hgr (fun g hg _ => hg)
      have HS5 := Lib.hid hown
      have HK5 := Lib.hid (HK.out.trans hkr (fun i hi hv => absurd (HO.out.lt i hv).1 (by omega)))
      clear hown hgr hkr
      go_wp2_with fail
      go_roundw
      case rel =>
        refine ⟨j + 1, by omega, ?_, HK5.out⟩
        have h := HS5.out
        rw [← HM4.out] at h
        have e : M ++ [128] ++ List.replicate (j + 1) 0 = M ++ [128] ++ List.replicate j 0 ++ [0] := by rw [List.replicate_succ', ← List.append_assoc]
        rw [e]
        rw [← HM4.out]
        exact h
      case measure => have := HL4.out; simp [vlenR]; omega
end
end Go.Proofs.Ytamfgmlhopjppaa
