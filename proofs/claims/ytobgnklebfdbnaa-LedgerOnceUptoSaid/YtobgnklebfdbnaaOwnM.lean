/-
  Bytes that a call makes, also out of a text (whose block bears a mark behind its end), at an offset of a block of its own: appended to, cut in front.
-/
import Derived.Test.YtobgnklebfdbnaaBytes
namespace Go.Proofs.Ytobgnklebfdbnaa
open Go.RowKit Go.ChangeShapes Go.WideShapes Go.ChangeAt

/-- nothing of the block is frozen (a mark behind its end is let be) -/
def FrOk (cur : Array Value) (fr : Nat × Nat) : Prop := fr = (0, 0) ∨ cur.size ≤ fr.1
theorem FrOk.size {cur cur' : Array Value} {fr : Nat × Nat} (h : FrOk cur fr) (hs : cur'.size = cur.size) : FrOk cur' fr := by
  rcases h with h | h
  · exact .inl h
  · exact .inr (by omega)
theorem FrOk.off {w : World} {g o : Nat} {cur : Array Value} {t : TypeId} {fr : Nat × Nat} (h : FrOk cur fr) (hg : w.heap[g]? = some (.cells cur t fr)) (ho : o < cur.size) : w.frozen? ⟨g, o, none⟩ = false := by
  obtain ⟨lo, hi⟩ := fr
  rcases h with h | h
  · injection h with h1 h2
    subst h1 h2
    simp [World.frozen?, hg]
  · have h : cur.size ≤ lo := h
    simp [World.frozen?, hg]; omega
theorem run_storeCells_atM {P : Program} (g o : Nat) (t : TypeId) (fr : Nat × Nat) : ∀ (vs : List Value) (i : Nat) (cur : Array Value) (w : World), w.heap[g]? = some (.cells cur t fr) → FrOk cur fr → o + i + vs.length ≤ cur.size → (∀ v ∈ vs, v.oneCell' = true) →
    (storeCells ⟨g, o, none⟩ vs i).run P w = .ok () (w.setRow g (cur.toList.take (o + i) ++ vs ++ cur.toList.drop (o + i + vs.length)).toArray)
  | [], i, cur, w, hg, _, _, _ => by
    simp only [storeCells, List.append_nil, List.length_nil, Nat.add_zero, List.take_append_drop, Array.toArray_toList]
    rw [setRow_self w g cur t fr hg]
    rfl
  | v :: rest, i, cur, w, hg, hf, hl, h1 => by
    have hi : o + i < cur.size := by simp at hl; omega
    have hadd : (⟨g, o, none⟩ : Addr).add i = ⟨g, o + i, none⟩ := by unfold Addr.add; split <;> simp_all
    have hcell : w.cell? ⟨g, o + i, none⟩ = some cur[o + i] := by simp [World.cell?, hg, hi]
    have hfro : w.frozen? ⟨g, o + i, none⟩ = false := hf.off hg hi
    have hst : (store ((⟨g, o, none⟩ : Addr).add i) v).run P w = .ok () (w.setRow g (cur.setIfInBounds (o + i) v)) := by
      rw [hadd, run_store P w _ v _ (h1 v (by simp)), hcell]
      simp [hfro, setCell_eq_setRow w g (o + i) cur t fr v hg]
    have ih := run_storeCells_atM (P := P) g o t fr rest (i + 1) (cur.setIfInBounds (o + i) v) (w.setRow g (cur.setIfInBounds (o + i) v)) (setRow_heap w g cur _ t _ hg) (hf.size (by simp)) (by simp at hl ⊢; omega) (fun x hx => h1 x (by simp [hx]))
    simp only [storeCells, Sem.run_bind, hst, Result.andThen_ok, ih, setRow_setRow]
    congr 3
    have e := list_seg_step cur.toList (o + i) v rest (by simp at hl ⊢; omega)
    simpa [Array.toList_setIfInBounds, Nat.add_assoc] using e

/-- The call's own bytes, wherever they begin in their block. -/
def OwnM (w : World) (base : Nat) (e : TypeId) (v : Value) (l : List UInt8) : Prop :=
  (l = [] ∧ ∃ A, v = .slice A 0 0 ∧ ∀ a : Addr, A = some a → base ≤ a.block ∧ ∃ cur fr, w.heap[a.block]? = some (.cells cur e fr)) ∨
  ∃ g o cap cur fr, v = .slice (some ⟨g, o, none⟩) l.length cap ∧ base ≤ g ∧ w.heap[g]? = some (.cells cur e fr) ∧ FrOk cur fr ∧ l.length ≤ cap ∧ o + cap = cur.size ∧ cap ≤ maxLen ∧ (cur.toList.drop o).take l.length = l.map byteOf

section
variable {P : Program}
theorem room_text_atM (w : World) (t u ty e : TypeId) (hb : Bytely P t u e) (g o sLen sCap : Nat) (cur : Array Value) (fr : Nat × Nat) (hg : w.heap[g]? = some (.cells cur e fr)) (hfr : FrOk cur fr) (s : ByteArray) (hroom : sLen + s.size ≤ sCap) (hfit : o + sLen + s.size ≤ cur.size) :
    (Builtin.append_ #[t, u] ty #[.slice (some ⟨g, o, none⟩) sLen sCap, .string s]).run P w =
      .ok (.slice (some ⟨g, o, none⟩) (sLen + s.size) sCap) (w.setRow g (cur.toList.take (o + sLen) ++ Lib.strCells s ++ cur.toList.drop (o + sLen + s.size)).toArray) := by
  obtain ⟨ht, hu, _, i, hi, hz, hs1, _⟩ := hb
  have hf := Lib.run_firstCells_string (P := P) w 1 s
  have hst := run_storeCells_atM (P := P) g (o + sLen) e fr (Lib.strCells s) 0 cur w hg hfr (by simpa [Lib.strCells_length] using hfit) (Lib.strCells_oneCell s)
  simp only [Nat.add_zero, Lib.strCells_length] at hst
  simp [Builtin.append_, run_underlying ht, run_underlying hu, sizeOf, typeInfo, hi, hs1, Builtin.lenOf, hroom, hf, Addr.add_lit, hst]

/-- What a new block holds. -/
theorem OwnM.made (w : World) (base : Nat) (e : TypeId) (l : List UInt8) (cells : Array Value) (cap : Nat) (hl : l.length ≤ cap) (hc : cap ≤ maxLen) (hcs : cells.size = cap) (ht : cells.toList.take l.length = l.map byteOf) (hbase : base ≤ w.heap.size) :
    OwnM (w.drew.alloc (.cells cells e)) base e (.slice (some ⟨w.heap.size, 0, none⟩) l.length cap) l :=
  .inr ⟨w.heap.size, 0, cap, cells, (0, 0), rfl, hbase, heap_alloc_new w.drew _, .inl rfl, hl, by omega, hc, by simpa using ht⟩
theorem grownBy_newM (w : World) (o : Obj) (row : Option Nat) : w.grownBy (w.drew.alloc o) row := ⟨rfl, rfl, rfl, by simp, fun k hk _ => heap_alloc_old w.drew _ hk⟩
theorem map_byteOfM (s : ByteArray) : s.data.toList.map byteOf = Lib.strCells s := rfl

theorem OwnM.append_text (w : World) (t u ty e : TypeId) (hb : Bytely P t u e) {base : Nat} {v : Value} {l : List UInt8} (h : OwnM w base e v l) (s : ByteArray) (hlen : l.length + s.size ≤ 140737488355328) (hbase : base ≤ w.heap.size) :
    ∃ v' w', (Builtin.append_ #[t, u] ty #[v, .string s]).run P w = .ok v' w' ∧ OwnM w' base e v' (l ++ s.data.toList) ∧ w.grownBy w' v.ownBlock := by
  have hb' := hb
  obtain ⟨ht, hu, _, i, hi, hz, hs1, hby⟩ := hb'
  have hcap : ∀ need old, need ≤ 140737488355328 → grownCap w need old e ≤ maxLen := fun need old hn => grownCap_le_maxLen w need old e (by simp [maxLen]; omega)
  have hz1 : (Value.int IntKind.u8 0).cells.size = 1 := rfl
  rcases h with ⟨rfl, A, rfl, hA⟩ | ⟨g, o, cap, cur, fr, rfl, hbg, hg, hfr, hlc, hoc, hcm, htk⟩
  · simp only [List.length_nil, Nat.zero_add] at hlen
    simp only [List.nil_append]
    by_cases hm : s.size = 0
    · have hd : s.data.toList = [] := List.eq_nil_of_length_eq_zero hm
      have hf := Lib.run_firstCells_string (P := P) w 1 s
      rw [hm] at hf
      have hsc : Lib.strCells s = [] := by rw [← map_byteOfM, hd]; rfl
      rw [hsc] at hf
      rw [hd]
      refine ⟨.slice A 0 0, w, ?_, .inl ⟨rfl, A, rfl, hA⟩, ⟨rfl, rfl, rfl, Nat.le_refl _, fun _ _ _ => rfl⟩⟩
      cases A with
      | none => simp [Builtin.append_, run_underlying ht, run_underlying hu, sizeOf, typeInfo, hi, hs1, Builtin.lenOf, hm, hf]
      | some a => simp [Builtin.append_, run_underlying ht, run_underlying hu, sizeOf, typeInfo, hi, hs1, Builtin.lenOf, hm, hf, storeCells, Sem.run_pure]
    · have hge := grownCap_ge w s.size 0 e
      have hcells : ∀ c, c = ((Lib.strCells s).toArray ++ Builtin.zeroCells (Value.int .u8 0).cells (grownCap w s.size 0 e - s.size)) → OwnM (w.drew.alloc (.cells c e)) base e (.slice (some ⟨w.heap.size, 0, none⟩) s.size (grownCap w s.size 0 e)) s.data.toList := by
        rintro c rfl
        refine OwnM.made w base e s.data.toList _ _ hge (hcap _ _ hlen) ?_ ?_ hbase
        · simp only [Array.size_append, List.size_toArray, size_zeroCells, hz1, Lib.strCells_length]; omega
        · rw [map_byteOfM]
          simp only [Array.toList_append]
          exact List.take_left' (by rw [Lib.strCells_length]; rfl)
      cases A with
      | none =>
        have hr := run_append_nil_string (P := P) w t u ty e i (.int .u8 0) ht hu hi hz s (by omega) (by omega) (by rw [hby]; omega)
        exact ⟨_, _, hr, hcells _ (by congr 1; apply Array.ext'; simp [Lib.strCells]), grownBy_newM _ _ _⟩
      | some a =>
        have hr := Lib.run_append_grow_string (P := P) w t u ty e i (.int .u8 0) ht hu hi hz a 0 0 [] (by simp) (by simp) s (by omega) (by omega) (by rw [hby]; exact growslice_fits (by omega) (by omega))
        simp only [Nat.zero_add, Array.empty_append] at hr
        exact ⟨_, _, hr, hcells _ (by simp), grownBy_newM _ _ _⟩
  · have hlen2 : (l ++ s.data.toList).length = l.length + s.size := by rw [List.length_append, data_length]
    by_cases hroom : l.length + s.size ≤ cap
    · have hr := room_text_atM (P := P) w t u ty e hb g o l.length cap cur fr hg hfr s hroom (by omega)
      refine ⟨_, _, hr, .inr ⟨g, o, cap, _, fr, by rw [hlen2], hbg, setRow_heap w g cur _ e _ hg, hfr.size ?_, by rw [hlen2]; exact hroom, ?_, hcm, ?_⟩, ⟨rfl, rfl, rfl, by simp, fun k _ hk => setRow_other w g k _ (fun e => hk (by simp [Value.ownBlock, e]))⟩⟩
      · simp only [List.size_toArray, List.length_append, List.length_take, List.length_drop, Array.length_toList, Lib.strCells_length]; omega
      · simp only [List.size_toArray, List.length_append, List.length_take, List.length_drop, Array.length_toList, Lib.strCells_length]; omega
      · rw [hlen2, List.map_append, map_byteOfM, ← htk]
        have hcl : cur.toList.length = o + cap := by rw [Array.length_toList]; omega
        show ((cur.toList.take (o + l.length) ++ Lib.strCells s ++ cur.toList.drop (o + l.length + s.size)).drop o).take (l.length + s.size) = _
        rw [List.append_assoc, List.drop_append_of_le_length (by rw [List.length_take]; omega), ← List.append_assoc, List.drop_take, Nat.add_sub_cancel_left]
        exact List.take_left' (by rw [List.length_append, List.length_take, List.length_drop, Lib.strCells_length]; omega)
    · have holds : ∀ j u, (l.map byteOf)[j]? = some u → w.cell? ((⟨g, o, none⟩ : Addr).add j) = some u := by
        intro j x hx
        have hj : j < l.length := by have := (List.getElem?_eq_some_iff.1 hx).1; simpa using this
        rw [← htk, List.getElem?_take_of_lt hj, List.getElem?_drop] at hx
        rw [Addr.add_lit]
        simp [World.cell?, hg]
        simpa using hx
      have hr := Lib.run_append_grow_string (P := P) w t u ty e i (.int .u8 0) ht hu hi hz ⟨g, o, none⟩ l.length cap (l.map byteOf) (by rw [hs1]; simp) holds s (by omega) (by omega) (by rw [hby]; exact growslice_fits (by omega) (by omega))
      have hge := grownCap_ge w (l.length + s.size) cap e
      refine ⟨_, _, hr, ?_, grownBy_newM _ _ _⟩
      rw [← hlen2]
      refine OwnM.made w base e _ _ _ (by rw [hlen2]; exact hge) (by rw [hlen2]; exact hcap _ _ hlen) ?_ ?_ hbase
      · rw [hlen2]
        simp only [Array.size_append, List.size_toArray, List.length_map, size_zeroCells, hz1, Lib.strCells_length]; omega
      · simp only [Array.toList_append, List.map_append, map_byteOfM]
        exact List.take_left' (by rw [List.length_append, List.length_map, Lib.strCells_length, hlen2])

theorem room_bytes_atM (w : World) (t u ty e : TypeId) (hb : Bytely P t u e) (g o sLen sCap : Nat) (cur : Array Value) (fr : Nat × Nat) (hg : w.heap[g]? = some (.cells cur e fr)) (hfr : FrOk cur fr) (a : Addr) (c : Nat) (m : List UInt8) (hnews : ∀ j x, (m.map byteOf)[j]? = some x → w.cell? (a.add j) = some x) (hroom : sLen + m.length ≤ sCap) (hfit : o + sLen + m.length ≤ cur.size) :
    (Builtin.append_ #[t, t] ty #[.slice (some ⟨g, o, none⟩) sLen sCap, .slice (some a) m.length c]).run P w =
      .ok (.slice (some ⟨g, o, none⟩) (sLen + m.length) sCap) (w.setRow g (cur.toList.take (o + sLen) ++ m.map byteOf ++ cur.toList.drop (o + sLen + m.length)).toArray) := by
  obtain ⟨ht, _, _, i, hi, hz, hs1, _⟩ := hb
  have hf := run_firstCells_some (P := P) w 1 m.length a m.length c (m.map byteOf) (by simp) hnews
  have hst := run_storeCells_atM (P := P) g (o + sLen) e fr (m.map byteOf) 0 cur w hg hfr (by simpa using hfit) (by intro x hx; obtain ⟨b, _, rfl⟩ := List.mem_map.1 hx; rfl)
  simp only [Nat.add_zero, List.length_map] at hst
  simp [Builtin.append_, run_underlying ht, sizeOf, typeInfo, hi, hs1, Builtin.lenOf, hroom, hf, Addr.add_lit, hst]

theorem OwnM.append_bytes (w : World) (t u ty e : TypeId) (hb : Bytely P t u e) {base : Nat} {v : Value} {l : List UInt8} (h : OwnM w base e v l) (a : Addr) (c : Nat) (m : List UInt8) (hm0 : 0 < m.length) (hnews : ∀ j x, (m.map byteOf)[j]? = some x → w.cell? (a.add j) = some x) (hlen : l.length + m.length ≤ 140737488355328) (hbase : base ≤ w.heap.size) :
    ∃ v' w', (Builtin.append_ #[t, t] ty #[v, .slice (some a) m.length c]).run P w = .ok v' w' ∧ OwnM w' base e v' (l ++ m) ∧ w.grownBy w' v.ownBlock := by
  have hb' := hb
  obtain ⟨ht, _, _, i, hi, hz, hs1, hby⟩ := hb'
  have hcap : ∀ need old, need ≤ 140737488355328 → grownCap w need old e ≤ maxLen := fun need old hn => grownCap_le_maxLen w need old e (by simp [maxLen]; omega)
  have hz1 : (Value.int IntKind.u8 0).cells.size = 1 := rfl
  have hml : (m.map byteOf).length = m.length * i.size := by rw [hs1]; simp
  rcases h with ⟨rfl, A, rfl, hA⟩ | ⟨g, o, cap, cur, fr, rfl, hbg, hg, hfr, hlc, hoc, hcm, htk⟩
  · simp only [List.length_nil, Nat.zero_add] at hlen
    simp only [List.nil_append]
    have hge := grownCap_ge w m.length 0 e
    have hcells : ∀ cs, cs = ((m.map byteOf).toArray ++ Builtin.zeroCells (Value.int .u8 0).cells (grownCap w m.length 0 e - m.length)) → OwnM (w.drew.alloc (.cells cs e)) base e (.slice (some ⟨w.heap.size, 0, none⟩) m.length (grownCap w m.length 0 e)) m := by
      rintro cs rfl
      refine OwnM.made w base e m _ _ hge (hcap _ _ hlen) ?_ ?_ hbase
      · simp only [Array.size_append, List.size_toArray, size_zeroCells, hz1, List.length_map]; omega
      · simp only [Array.toList_append]
        exact List.take_left' (by rw [List.length_map])
    cases A with
    | none =>
      have hr := run_append_nil (P := P) w t ty e i (.int .u8 0) ht hi hz a m.length c (m.map byteOf) hml hnews hm0 (by omega) (by rw [hby]; omega)
      exact ⟨_, _, hr, hcells _ rfl, grownBy_newM _ _ _⟩
    | some a0 =>
      have hr := run_append_grow (P := P) w t ty e i (.int .u8 0) ht hi hz a0 0 0 [] (by simp) (by simp) a m.length c (m.map byteOf) hml hnews (by omega) (by omega) (by rw [hby]; exact growslice_fits (by omega) (by omega))
      simp only [Nat.zero_add, Array.empty_append] at hr
      exact ⟨_, _, hr, hcells _ (by simp), grownBy_newM _ _ _⟩
  · have hlen2 : (l ++ m).length = l.length + m.length := List.length_append
    by_cases hroom : l.length + m.length ≤ cap
    · have hr := room_bytes_atM (P := P) w t u ty e hb g o l.length cap cur fr hg hfr a c m hnews hroom (by omega)
      refine ⟨_, _, hr, .inr ⟨g, o, cap, _, fr, by rw [hlen2], hbg, setRow_heap w g cur _ e _ hg, hfr.size ?_, by rw [hlen2]; exact hroom, ?_, hcm, ?_⟩, ⟨rfl, rfl, rfl, by simp, fun k _ hk => setRow_other w g k _ (fun e => hk (by simp [Value.ownBlock, e]))⟩⟩
      · simp only [List.size_toArray, List.length_append, List.length_take, List.length_drop, Array.length_toList, List.length_map]; omega
      · simp only [List.size_toArray, List.length_append, List.length_take, List.length_drop, Array.length_toList, List.length_map]; omega
      · rw [hlen2, List.map_append, ← htk]
        have hcl : cur.toList.length = o + cap := by rw [Array.length_toList]; omega
        show ((cur.toList.take (o + l.length) ++ m.map byteOf ++ cur.toList.drop (o + l.length + m.length)).drop o).take (l.length + m.length) = _
        rw [List.append_assoc, List.drop_append_of_le_length (by rw [List.length_take]; omega), ← List.append_assoc, List.drop_take, Nat.add_sub_cancel_left]
        exact List.take_left' (by rw [List.length_append, List.length_take, List.length_drop, List.length_map]; omega)
    · have holds : ∀ j x, (l.map byteOf)[j]? = some x → w.cell? ((⟨g, o, none⟩ : Addr).add j) = some x := by
        intro j x hx
        have hj : j < l.length := by have := (List.getElem?_eq_some_iff.1 hx).1; simpa using this
        rw [← htk, List.getElem?_take_of_lt hj, List.getElem?_drop] at hx
        rw [Addr.add_lit]
        simp [World.cell?, hg]
        simpa using hx
      have hr := run_append_grow (P := P) w t ty e i (.int .u8 0) ht hi hz ⟨g, o, none⟩ l.length cap (l.map byteOf) (by rw [hs1]; simp) holds a m.length c (m.map byteOf) hml hnews (by omega) (by omega) (by rw [hby]; exact growslice_fits (by omega) (by omega))
      have hge := grownCap_ge w (l.length + m.length) cap e
      refine ⟨_, _, hr, ?_, grownBy_newM _ _ _⟩
      rw [← hlen2]
      refine OwnM.made w base e _ _ _ (by rw [hlen2]; exact hge) (by rw [hlen2]; exact hcap _ _ hlen) ?_ ?_ hbase
      · rw [hlen2]
        simp only [Array.size_append, List.size_toArray, List.length_map, size_zeroCells, hz1]; omega
      · simp only [Array.toList_append, List.map_append]
        exact List.take_left' (by rw [List.length_append, List.length_map, List.length_map, hlen2])
end

namespace OwnM
variable {w w' : World} {base : Nat} {e : TypeId} {v : Value} {l : List UInt8}
theorem nil (w : World) (base : Nat) (e : TypeId) : OwnM w base e (.slice none 0 0) [] := .inl ⟨rfl, none, rfl, fun _ h => by cases h⟩
theorem shape (h : OwnM w base e v l) : ∃ A c, v = .slice A l.length c ∧ l.length ≤ c := by
  rcases h with ⟨rfl, A, rfl, _⟩ | ⟨g, o, cap, cur, fr, rfl, _, _, _, h, _⟩
  · exact ⟨A, 0, rfl, Nat.le_refl _⟩
  · exact ⟨_, _, rfl, h⟩
theorem lt (h : OwnM w base e v l) : ∀ k, v.ownBlock = some k → base ≤ k ∧ k < w.heap.size := by
  intro k hk
  rcases h with ⟨_, A, rfl, hA⟩ | ⟨g, o, cap, cur, fr, rfl, hb, hg, _⟩
  · cases A with
    | none => cases hk
    | some a => have : a.block = k := by simpa [Value.ownBlock] using hk
                subst this; obtain ⟨h1, cur, fr, h2⟩ := hA a rfl; exact ⟨h1, (Array.getElem?_eq_some_iff.1 h2).1⟩
  · have : g = k := by simpa [Value.ownBlock] using hk
    subst this
    exact ⟨hb, (Array.getElem?_eq_some_iff.1 hg).1⟩
theorem block (h : OwnM w base e v l) {g : Nat} (hg : v.ownBlock = some g) : ∃ cs fr, w.heap[g]? = some (.cells cs e fr) := by
  rcases h with ⟨_, A, rfl, hA⟩ | ⟨g', o, cap, cur, fr, rfl, _, hh, _⟩
  · cases A with
    | none => cases hg
    | some a => have : a.block = g := by simpa [Value.ownBlock] using hg
                subst this; exact (hA a rfl).2
  · have : g' = g := by simpa [Value.ownBlock] using hg
    subst this; exact ⟨cur, fr, hh⟩
/-- it lies in no block of another type -/
theorem ne_blk (h : OwnM w base e v l) {g : Nat} {e' : TypeId} {cs : Array Value} {fr' : Nat × Nat} (hb : w.heap[g]? = some (.cells cs e' fr')) (hne : e ≠ e') : v.ownBlock ≠ some g := by
  intro hg
  obtain ⟨cs', fr2, h2⟩ := h.block hg
  rw [hb] at h2
  injection h2 with h2
  injection h2 with _ h2
  exact hne h2.symm
theorem kept {T : Nat → Prop} (h : OwnM w base e v l) (hk : Kp T w w') (hv : ∀ k, v.ownBlock = some k → ¬ T k) : OwnM w' base e v l := by
  have hlt := h.lt
  rcases h with ⟨hl, A, rfl, hA⟩ | ⟨g, o, cap, cur, fr, rfl, hb, hg, r⟩
  · refine .inl ⟨hl, A, rfl, fun a ha => ?_⟩
    obtain ⟨h1, cur, fr, h2⟩ := hA a ha
    subst ha
    exact ⟨h1, cur, fr, (hk.block a.block (hlt a.block rfl).2 (hv a.block rfl)).trans h2⟩
  · exact .inr ⟨g, o, cap, cur, fr, rfl, hb, (hk.block g (hlt g rfl).2 (hv g rfl)).trans hg, r⟩
theorem keptNo (h : OwnM w base e v l) (hk : Kp No w w') : OwnM w' base e v l := h.kept hk fun _ _ x => x
/-- a byte of it -/
theorem cell {A : Option Addr} {n c : Nat} (h : OwnM w base e (.slice A n c) l) {i : Nat} (hi : i < l.length) : ∃ g o, A = some ⟨g, o, none⟩ ∧ base ≤ g ∧ g < w.heap.size ∧ w.cell? ⟨g, o + i, none⟩ = some (byteOf (l.getD i 0)) := by
  have hlt := h.lt
  rcases h with ⟨rfl, _⟩ | ⟨g, o, cap, cur, fr, he, hb, hg, _, _, _, _, htk⟩
  · cases hi
  · injection he with h1 h2 h3
    subst h1
    refine ⟨g, o, rfl, hb, (hlt g rfl).2, ?_⟩
    have hx : (l.map byteOf)[i]? = some (byteOf (l.getD i 0)) := by rw [List.getElem?_map, List.getD_eq_getElem?_getD, List.getElem?_eq_getElem hi]; rfl
    rw [← htk, List.getElem?_take_of_lt hi, List.getElem?_drop] at hx
    simp [World.cell?, hg]
    simpa using hx
theorem read {A : Option Addr} {m c : Nat} (h : OwnM w base e (.slice A m c) l) {n c2 : Nat} (hn : n ≤ l.length) (h1 : n ≤ c2) (h2 : c2 ≤ maxLen) : Rp.byte.slice.R w (fun k => (Value.slice A m c).ownBlock = some k) [.slice A (l.take n).length c2] (l.take n) := by
  have hl : (l.take n).length = n := by rw [List.length_take]; omega
  refine ⟨A, c2, rfl, by omega, h2, fun h0 => ?_⟩
  obtain ⟨g, o, rfl, hb, hg, _⟩ := h.cell (i := 0) (by omega)
  refine ⟨_, rfl, rfl, fun i a hi => ⟨[byteOf a], fun j u hu => ?_, rfl⟩⟩
  have hj : j = 0 := by
    have := (List.getElem?_eq_some_iff.1 hu).1
    simp at this; exact this
  subst hj
  have hi2 : i < (l.take n).length := (List.getElem?_eq_some_iff.1 hi).1
  obtain ⟨g', o', he, _, _, hc⟩ := h.cell (i := i) (by omega)
  injection he with he
  injection he with he1 he2
  subst he1 he2
  have ha : l.getD i 0 = a := by
    rw [List.getElem?_take_of_lt (by omega)] at hi
    rw [List.getD_eq_getElem?_getD, hi]; rfl
  rw [ha] at hc
  have hu : byteOf a = u := by simpa using hu
  subst hu
  have hp : ((⟨g, o, none⟩ : Addr).add (i * Rp.byte.size + 0)) = ⟨g, o + i, none⟩ := by
    rw [Addr.add_lit]; show (⟨g, o + (i * 1 + 0), none⟩ : Addr) = _; rw [Nat.mul_one, Nat.add_zero]
  first
    | exact hp ▸ hc
    | (simp only [Addr.add_lit] at *; simpa [Rp.byte] using hc)
/-- cut in front -/
theorem cut {g o n c : Nat} (h : OwnM w base e (.slice (some ⟨g, o, none⟩) n c) l) {k : Nat} (hk : k ≤ l.length) (hkc : k < c) : OwnM w base e (.slice (some ⟨g, o + k, none⟩) (l.drop k).length (c - k)) (l.drop k) := by
  rcases h with ⟨rfl, A, he, _⟩ | ⟨g', o', cap, cur, fr, he, hb, hg, hfr, h1, h2, h3, htk⟩
  · injection he with _ _ he; omega
  · injection he with e1 e2 e3
    injection e1 with e1
    injection e1 with e1 e4
    subst e1 e4 e3
    refine .inr ⟨g, o + k, c - k, cur, fr, rfl, hb, hg, hfr, by rw [List.length_drop]; omega, by omega, by omega, ?_⟩
    rw [List.length_drop, List.map_drop, ← htk, ← List.drop_drop, List.drop_take]
/-- all of it cut off, no room left -/
theorem cutAll {g o n : Nat} (h : OwnM w base e (.slice (some ⟨g, o, none⟩) n n) l) : OwnM w base e (.slice (some ⟨g, o, none⟩) 0 0) [] := by
  obtain ⟨cur, fr, hc⟩ := h.block rfl
  exact .inl ⟨rfl, _, rfl, fun a ha => by injection ha with ha; subst ha; exact ⟨(h.lt g rfl).1, cur, fr, hc⟩⟩
theorem mono (h : OwnM w base e v l) {base' : Nat} (hb : base' ≤ base) : OwnM w base' e v l := by
  rcases h with ⟨h1, A, h2, h3⟩ | ⟨g, o, cap, cur, fr, h1, h2, r⟩
  · exact .inl ⟨h1, A, h2, fun a ha => ⟨Nat.le_trans hb (h3 a ha).1, (h3 a ha).2⟩⟩
  · exact .inr ⟨g, o, cap, cur, fr, h1, Nat.le_trans hb h2, r⟩
theorem ofOwn (h : Own Rp.byte w No base e v l) : OwnM w base e v l := by
  obtain ⟨h1, _⟩ := Own.toRaw Rp.byte_by h
  obtain ⟨h2, _⟩ := Own.raw_vals h1
  rw [List.length_map] at h2
  obtain ⟨h3, h4⟩ := h2
  rcases h4 with ⟨rfl, h5⟩ | ⟨g, cap, cur, rfl, hb, hg, hn, hm, hc, ht⟩
  · exact .inl ⟨List.eq_nil_of_length_eq_zero h5, none, rfl, fun _ h => by cases h⟩
  · exact .inr ⟨g, 0, cap, cur, (0, 0), rfl, hb, hg, .inl rfl, hn, by omega, hm, by simpa using ht⟩
/-- all of it read -/
theorem readAll {A : Option Addr} {c : Nat} (h : OwnM w base e (.slice A l.length c) l) : Rp.byte.slice.R w (fun k => (Value.slice A l.length c).ownBlock = some k) [.slice A l.length c] l := by
  have hc : l.length ≤ c ∧ c ≤ maxLen := by
    rcases h with ⟨rfl, A', he, _⟩ | ⟨g, o, cap, cur, fr, he, _, _, _, h1, _, h2, _⟩
    · injection he with _ _ he; subst he; simp
    · injection he with _ _ he; subst he; exact ⟨h1, h2⟩
  have h1 := h.read (n := l.length) (c2 := c) (Nat.le_refl _) hc.1 hc.2
  rw [List.take_length] at h1
  exact h1
end OwnM
/-- a text's bytes -/
theorem ownM_text {P : Program} (w : World) (t u e : TypeId) (hb : Bytely P t u e) (s : ByteArray) (hs : s.size ≤ 140737488355328) (base : Nat) (hbase : base ≤ w.heap.size) :
    ∃ c w', (convert u t (.string s)).run P w = .ok (.slice (some ⟨w.heap.size, 0, none⟩) s.size c) w' ∧ OwnM w' base e (.slice (some ⟨w.heap.size, 0, none⟩) s.data.toList.length c) s.data.toList ∧ Kp No w w' := by
  obtain ⟨ht, hu, he, _⟩ := hb
  have hr := run_bytes_of_string (P := P) w u t e s hu ht he
  have hge := grownCap_ge w s.size 0 e
  have hle := grownCap_le_maxLen w s.size 0 e (by simp [maxLen]; omega)
  have hsz : (bytesRow s (grownCap w s.size 0 e)).size = grownCap w s.size 0 e := by
    unfold bytesRow
    rw [Array.size_append, Array.size_map, Array.size_replicate]
    show s.size + _ = _
    omega
  refine ⟨_, _, hr, .inr ⟨w.heap.size, 0, _, _, _, by rw [data_length], hbase, heap_alloc_new w.drew _, .inr (Nat.le_refl _), by rw [data_length]; exact hge, by omega, hle, ?_⟩, ((Kp.refl _ _).drew).alloc _⟩
  rw [List.drop_zero, data_length]
  unfold bytesRow
  rw [Array.toList_append, Array.toList_map]
  exact List.take_left' (by rw [List.length_map, data_length])
theorem wpList_appendM_text {P : Program} {ops : Array Oper} {rest : List Oper} {o : Oper} {a : Act} {Q : Exit → Act → World → Prop} (hgd : o.guard = none) (w : World) (sl x : Operand) (t u : TypeId)
    (ho : o.op = .call { callee := .builtin .append, args := #[sl, x], argTypes := #[t, u] }) (base : Nat) (e : TypeId) (hb : Bytely P t u e) (v : Value) (l : List UInt8) (hs : a.eval sl = v) (hown : OwnM w base e v l) (s : ByteArray) (hx : a.eval x = .string s)
    (hlen : l.length + s.size ≤ 140737488355328) (hbase : base ≤ w.heap.size)
    (h : ∀ v' w', OwnM w' base e v' (l ++ s.data.toList) → w.grownBy w' v.ownBlock → wpList P ops Q rest (a.put o.dst v') w') : wpList P ops Q (o :: rest) a w := by
  refine wpList_plain hgd fun K hK => ?_
  obtain ⟨v', w', hr, h2, h3⟩ := OwnM.append_text (P := P) w t u o.type e hb hown s hlen hbase
  unfold Oper.wp execOp
  simp only [ho, resolve, invoke, builtin, Sem.run_bind, Sem.run_pure, Result.andThen_ok, List.map_toArray, List.map_cons, List.map_nil, hs, hx, hr]
  exact hK _ _ (h v' w' h2 h3)
theorem wpList_appendM_bytes {P : Program} {ops : Array Oper} {rest : List Oper} {o : Oper} {a : Act} {Q : Exit → Act → World → Prop} (hgd : o.guard = none) (w : World) (sl x : Operand) (t u : TypeId)
    (ho : o.op = .call { callee := .builtin .append, args := #[sl, x], argTypes := #[t, t] }) (base : Nat) (e : TypeId) (hb : Bytely P t u e) (v : Value) (l : List UInt8) (hs : a.eval sl = v) (hown : OwnM w base e v l)
    (ad : Addr) (c : Nat) (m : List UInt8) (hm0 : 0 < m.length) (hx : a.eval x = .slice (some ad) m.length c) (hnews : ∀ j x, (m.map byteOf)[j]? = some x → w.cell? (ad.add j) = some x)
    (hlen : l.length + m.length ≤ 140737488355328) (hbase : base ≤ w.heap.size)
    (h : ∀ v' w', OwnM w' base e v' (l ++ m) → w.grownBy w' v.ownBlock → wpList P ops Q rest (a.put o.dst v') w') : wpList P ops Q (o :: rest) a w := by
  refine wpList_plain hgd fun K hK => ?_
  obtain ⟨v', w', hr, h2, h3⟩ := OwnM.append_bytes (P := P) w t u o.type e hb hown ad c m hm0 hnews hlen hbase
  unfold Oper.wp execOp
  simp only [ho, resolve, invoke, builtin, Sem.run_bind, Sem.run_pure, Result.andThen_ok, List.map_toArray, List.map_cons, List.map_nil, hs, hx, hr]
  exact hK _ _ (h v' w' h2 h3)
end Go.Proofs.Ytobgnklebfdbnaa
