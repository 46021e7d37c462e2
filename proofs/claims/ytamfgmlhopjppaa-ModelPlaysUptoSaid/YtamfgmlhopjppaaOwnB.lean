/-
  Bytes that a call makes, at an offset of a block of its own: appended to, cut in front.
-/
import Derived.Test.YtamfgmlhopjppaaGA2
namespace Go.Proofs.Ytamfgmlhopjppaa
open Go.RowKit Go.ChangeShapes Go.WideShapes Go.ChangeAt

/-- The call's own bytes, wherever they begin in their block. -/
def OwnB (w : World) (base : Nat) (e : TypeId) (v : Value) (l : List UInt8) : Prop :=
  (l = [] ∧ ∃ A, v = .slice A 0 0 ∧ ∀ a : Addr, A = some a → base ≤ a.block ∧ ∃ cur, w.heap[a.block]? = some (.cells cur e (0, 0))) ∨
  ∃ g o cap cur, v = .slice (some ⟨g, o, none⟩) l.length cap ∧ base ≤ g ∧ w.heap[g]? = some (.cells cur e (0, 0)) ∧ l.length ≤ cap ∧ o + cap = cur.size ∧ cap ≤ maxLen ∧ (cur.toList.drop o).take l.length = l.map byteOf

section
variable {P : Program}
theorem room_text_at (w : World) (t u ty e : TypeId) (hb : Bytely P t u e) (g o sLen sCap : Nat) (cur : Array Value) (hg : w.heap[g]? = some (.cells cur e (0, 0))) (s : ByteArray) (hroom : sLen + s.size ≤ sCap) (hfit : o + sLen + s.size ≤ cur.size) :
    (Builtin.append_ #[t, u] ty #[.slice (some ⟨g, o, none⟩) sLen sCap, .string s]).run P w =
      .ok (.slice (some ⟨g, o, none⟩) (sLen + s.size) sCap) (w.setRow g (cur.toList.take (o + sLen) ++ Lib.strCells s ++ cur.toList.drop (o + sLen + s.size)).toArray) := by
  obtain ⟨ht, hu, _, i, hi, hz, hs1, _⟩ := hb
  have hf := Lib.run_firstCells_string (P := P) w 1 s
  have hst := run_storeCells_at P g (o + sLen) e (Lib.strCells s) 0 cur w hg (by simpa [Lib.strCells_length] using hfit) (Lib.strCells_oneCell s)
  simp only [Nat.add_zero, Lib.strCells_length] at hst
  simp [Builtin.append_, run_underlying ht, run_underlying hu, sizeOf, typeInfo, hi, hs1, Builtin.lenOf, hroom, hf, Addr.add_lit, hst]

/-- What a new block holds. -/
theorem OwnB.made (w : World) (base : Nat) (e : TypeId) (l : List UInt8) (cells : Array Value) (cap : Nat) (hl : l.length ≤ cap) (hc : cap ≤ maxLen) (hcs : cells.size = cap) (ht : cells.toList.take l.length = l.map byteOf) (hbase : base ≤ w.heap.size) :
    OwnB (w.drew.alloc (.cells cells e)) base e (.slice (some ⟨w.heap.size, 0, none⟩) l.length cap) l :=
  .inr ⟨w.heap.size, 0, cap, cells, rfl, hbase, heap_alloc_new w.drew _, hl, by omega, hc, by simpa using ht⟩
theorem grownBy_new (w : World) (o : Obj) (row : Option Nat) : w.grownBy (w.drew.alloc o) row := ⟨rfl, rfl, rfl, by simp, fun k hk _ => heap_alloc_old w.drew _ hk⟩
theorem map_byteOf (s : ByteArray) : s.data.toList.map byteOf = Lib.strCells s := rfl

theorem OwnB.append_text (w : World) (t u ty e : TypeId) (hb : Bytely P t u e) {base : Nat} {v : Value} {l : List UInt8} (h : OwnB w base e v l) (s : ByteArray) (hlen : l.length + s.size ≤ 140737488355328) (hbase : base ≤ w.heap.size) :
    ∃ v' w', (Builtin.append_ #[t, u] ty #[v, .string s]).run P w = .ok v' w' ∧ OwnB w' base e v' (l ++ s.data.toList) ∧ w.grownBy w' v.ownBlock := by
  have hb' := hb
  obtain ⟨ht, hu, _, i, hi, hz, hs1, hby⟩ := hb'
  have hcap : ∀ need old, need ≤ 140737488355328 → grownCap w need old e ≤ maxLen := fun need old hn => grownCap_le_maxLen w need old e (by simp [maxLen]; omega)
  have hz1 : (Value.int IntKind.u8 0).cells.size = 1 := rfl
  rcases h with ⟨rfl, A, rfl, hA⟩ | ⟨g, o, cap, cur, rfl, hbg, hg, hlc, hoc, hcm, htk⟩
  · simp only [List.length_nil, Nat.zero_add] at hlen
    simp only [List.nil_append]
    by_cases hm : s.size = 0
    · have hd : s.data.toList = [] := List.eq_nil_of_length_eq_zero hm
      have hf := Lib.run_firstCells_string (P := P) w 1 s
      rw [hm] at hf
      have hsc : Lib.strCells s = [] := by rw [← map_byteOf, hd]; rfl
      rw [hsc] at hf
      rw [hd]
      refine ⟨.slice A 0 0, w, ?_, .inl ⟨rfl, A, rfl, hA⟩, ⟨rfl, rfl, rfl, Nat.le_refl _, fun _ _ _ => rfl⟩⟩
      cases A with
      | none => simp [Builtin.append_, run_underlying ht, run_underlying hu, sizeOf, typeInfo, hi, hs1, Builtin.lenOf, hm, hf]
      | some a => simp [Builtin.append_, run_underlying ht, run_underlying hu, sizeOf, typeInfo, hi, hs1, Builtin.lenOf, hm, hf, storeCells, Sem.run_pure]
    · have hge := grownCap_ge w s.size 0 e
      have hcells : ∀ c, c = ((Lib.strCells s).toArray ++ Builtin.zeroCells (Value.int .u8 0).cells (grownCap w s.size 0 e - s.size)) → OwnB (w.drew.alloc (.cells c e)) base e (.slice (some ⟨w.heap.size, 0, none⟩) s.size (grownCap w s.size 0 e)) s.data.toList := by
        rintro c rfl
        refine OwnB.made w base e s.data.toList _ _ hge (hcap _ _ hlen) ?_ ?_ hbase
        · simp only [Array.size_append, List.size_toArray, size_zeroCells, hz1, Lib.strCells_length]; omega
        · rw [map_byteOf]
          simp only [Array.toList_append]
          exact List.take_left' (by rw [Lib.strCells_length]; rfl)
      cases A with
      | none =>
        have hr := run_append_nil_string (P := P) w t u ty e i (.int .u8 0) ht hu hi hz s (by omega) (by omega) (by rw [hby]; omega)
        exact ⟨_, _, hr, hcells _ (by congr 1; apply Array.ext'; simp [Lib.strCells]), grownBy_new _ _ _⟩
      | some a =>
        have hr := Lib.run_append_grow_string (P := P) w t u ty e i (.int .u8 0) ht hu hi hz a 0 0 [] (by simp) (by simp) s (by omega) (by omega) (by rw [hby]; exact growslice_fits (by omega) (by omega))
        simp only [Nat.zero_add, Array.empty_append] at hr
        exact ⟨_, _, hr, hcells _ (by simp), grownBy_new _ _ _⟩
  · have hlen2 : (l ++ s.data.toList).length = l.length + s.size := by rw [List.length_append, data_length]
    by_cases hroom : l.length + s.size ≤ cap
    · have hr := room_text_at (P := P) w t u ty e hb g o l.length cap cur hg s hroom (by omega)
      refine ⟨_, _, hr, .inr ⟨g, o, cap, _, by rw [hlen2], hbg, setRow_heap w g cur _ e _ hg, by rw [hlen2]; exact hroom, ?_, hcm, ?_⟩, ⟨rfl, rfl, rfl, by simp, fun k _ hk => setRow_other w g k _ (fun e => hk (by simp [Value.ownBlock, e]))⟩⟩
      · simp only [List.size_toArray, List.length_append, List.length_take, List.length_drop, Array.length_toList, Lib.strCells_length]; omega
      · rw [hlen2, List.map_append, map_byteOf, ← htk]
        have hcl : cur.toList.length = o + cap := by rw [Array.length_toList]; omega
        show ((cur.toList.take (o + l.length) ++ Lib.strCells s ++ cur.toList.drop (o + l.length + s.size)).drop o).take (l.length + s.size) = _
        rw [List.append_assoc, List.drop_append_of_le_length (by rw [List.length_take]; omega), ← List.append_assoc, List.drop_take, Nat.add_sub_cancel_left]
        exact List.take_left' (by rw [List.length_append, List.length_take, List.length_drop, Lib.strCells_length]; omega)
    · have holds : ∀ j u, (l.map byteOf)[j]? = some u → w.cell? ((⟨g, o, none⟩ : Addr).add j) = some u := by
        intro j x hx
        have hj : j < l.length := by have := (List.getElem?_eq_some_iff.1 hx).1; simpa using this
        rw [← htk, List.getElem?_take_of_lt hj, List.getElem?_drop] at hx
        rw [Addr.add_lit]
        simp [World.cell?, hg]
        simpa using hx
      have hr := Lib.run_append_grow_string (P := P) w t u ty e i (.int .u8 0) ht hu hi hz ⟨g, o, none⟩ l.length cap (l.map byteOf) (by rw [hs1]; simp) holds s (by omega) (by omega) (by rw [hby]; exact growslice_fits (by omega) (by omega))
      have hge := grownCap_ge w (l.length + s.size) cap e
      refine ⟨_, _, hr, ?_, grownBy_new _ _ _⟩
      rw [← hlen2]
      refine OwnB.made w base e _ _ _ (by rw [hlen2]; exact hge) (by rw [hlen2]; exact hcap _ _ hlen) ?_ ?_ hbase
      · rw [hlen2]
        simp only [Array.size_append, List.size_toArray, List.length_map, size_zeroCells, hz1, Lib.strCells_length]; omega
      · simp only [Array.toList_append, List.map_append, map_byteOf]
        exact List.take_left' (by rw [List.length_append, List.length_map, Lib.strCells_length, hlen2])

theorem room_bytes_at (w : World) (t u ty e : TypeId) (hb : Bytely P t u e) (g o sLen sCap : Nat) (cur : Array Value) (hg : w.heap[g]? = some (.cells cur e (0, 0))) (a : Addr) (c : Nat) (m : List UInt8) (hnews : ∀ j x, (m.map byteOf)[j]? = some x → w.cell? (a.add j) = some x) (hroom : sLen + m.length ≤ sCap) (hfit : o + sLen + m.length ≤ cur.size) :
    (Builtin.append_ #[t, t] ty #[.slice (some ⟨g, o, none⟩) sLen sCap, .slice (some a) m.length c]).run P w =
      .ok (.slice (some ⟨g, o, none⟩) (sLen + m.length) sCap) (w.setRow g (cur.toList.take (o + sLen) ++ m.map byteOf ++ cur.toList.drop (o + sLen + m.length)).toArray) := by
  obtain ⟨ht, _, _, i, hi, hz, hs1, _⟩ := hb
  have hf := run_firstCells_some (P := P) w 1 m.length a m.length c (m.map byteOf) (by simp) hnews
  have hst := run_storeCells_at P g (o + sLen) e (m.map byteOf) 0 cur w hg (by simpa using hfit) (by intro x hx; obtain ⟨b, _, rfl⟩ := List.mem_map.1 hx; rfl)
  simp only [Nat.add_zero, List.length_map] at hst
  simp [Builtin.append_, run_underlying ht, sizeOf, typeInfo, hi, hs1, Builtin.lenOf, hroom, hf, Addr.add_lit, hst]

theorem OwnB.append_bytes (w : World) (t u ty e : TypeId) (hb : Bytely P t u e) {base : Nat} {v : Value} {l : List UInt8} (h : OwnB w base e v l) (a : Addr) (c : Nat) (m : List UInt8) (hm0 : 0 < m.length) (hnews : ∀ j x, (m.map byteOf)[j]? = some x → w.cell? (a.add j) = some x) (hlen : l.length + m.length ≤ 140737488355328) (hbase : base ≤ w.heap.size) :
    ∃ v' w', (Builtin.append_ #[t, t] ty #[v, .slice (some a) m.length c]).run P w = .ok v' w' ∧ OwnB w' base e v' (l ++ m) ∧ w.grownBy w' v.ownBlock := by
  have hb' := hb
  obtain ⟨ht, _, _, i, hi, hz, hs1, hby⟩ := hb'
  have hcap : ∀ need old, need ≤ 140737488355328 → grownCap w need old e ≤ maxLen := fun need old hn => grownCap_le_maxLen w need old e (by simp [maxLen]; omega)
  have hz1 : (Value.int IntKind.u8 0).cells.size = 1 := rfl
  have hml : (m.map byteOf).length = m.length * i.size := by rw [hs1]; simp
  rcases h with ⟨rfl, A, rfl, hA⟩ | ⟨g, o, cap, cur, rfl, hbg, hg, hlc, hoc, hcm, htk⟩
  · simp only [List.length_nil, Nat.zero_add] at hlen
    simp only [List.nil_append]
    have hge := grownCap_ge w m.length 0 e
    have hcells : ∀ cs, cs = ((m.map byteOf).toArray ++ Builtin.zeroCells (Value.int .u8 0).cells (grownCap w m.length 0 e - m.length)) → OwnB (w.drew.alloc (.cells cs e)) base e (.slice (some ⟨w.heap.size, 0, none⟩) m.length (grownCap w m.length 0 e)) m := by
      rintro cs rfl
      refine OwnB.made w base e m _ _ hge (hcap _ _ hlen) ?_ ?_ hbase
      · simp only [Array.size_append, List.size_toArray, size_zeroCells, hz1, List.length_map]; omega
      · simp only [Array.toList_append]
        exact List.take_left' (by rw [List.length_map])
    cases A with
    | none =>
      have hr := run_append_nil (P := P) w t ty e i (.int .u8 0) ht hi hz a m.length c (m.map byteOf) hml hnews hm0 (by omega) (by rw [hby]; omega)
      exact ⟨_, _, hr, hcells _ rfl, grownBy_new _ _ _⟩
    | some a0 =>
      have hr := run_append_grow (P := P) w t ty e i (.int .u8 0) ht hi hz a0 0 0 [] (by simp) (by simp) a m.length c (m.map byteOf) hml hnews (by omega) (by omega) (by rw [hby]; exact growslice_fits (by omega) (by omega))
      simp only [Nat.zero_add, Array.empty_append] at hr
      exact ⟨_, _, hr, hcells _ (by simp), grownBy_new _ _ _⟩
  · have hlen2 : (l ++ m).length = l.length + m.length := List.length_append
    by_cases hroom : l.length + m.length ≤ cap
    · have hr := room_bytes_at (P := P) w t u ty e hb g o l.length cap cur hg a c m hnews hroom (by omega)
      refine ⟨_, _, hr, .inr ⟨g, o, cap, _, by rw [hlen2], hbg, setRow_heap w g cur _ e _ hg, by rw [hlen2]; exact hroom, ?_, hcm, ?_⟩, ⟨rfl, rfl, rfl, by simp, fun k _ hk => setRow_other w g k _ (fun e => hk (by simp [Value.ownBlock, e]))⟩⟩
      · simp only [List.size_toArray, List.length_append, List.length_take, List.length_drop, Array.length_toList, List.length_map]; omega
      · rw [hlen2, List.map_append, ← htk]
        have hcl : cur.toList.length = o + cap := by rw [Array.length_toList]; omega
        show ((cur.toList.take (o + l.length) ++ m.map byteOf ++ cur.toList.drop (o + l.length + m.length)).drop o).take (l.length + m.length) = _
        rw [List.append_assoc, List.drop_append_of_le_length (by rw [List.length_take]; omega), ← List.append_assoc, List.drop_take, Nat.add_sub_cancel_left]
        exact List.take_left' (by rw [List.length_append, List.length_take, List.length_drop, List.length_map]; omega)
    · have holds : ∀ j x, (l.map byteOf)[j]? = some x → w.cell? ((⟨g, o, none⟩ : Addr).add j) = some x := by
        intro j x hx
        have hj : j < l.length := by have := (List.getElem?_eq_some_iff.1 hx).1; simpa using this
        rw [← htk, List.getElem?_take_of_lt hj, List.getElem?_drop] at hx
        rw [Addr.add_lit]
        simp [World.cell?, hg]
        simpa using hx
      have hr := run_append_grow (P := P) w t ty e i (.int .u8 0) ht hi hz ⟨g, o, none⟩ l.length cap (l.map byteOf) (by rw [hs1]; simp) holds a m.length c (m.map byteOf) hml hnews (by omega) (by omega) (by rw [hby]; exact growslice_fits (by omega) (by omega))
      have hge := grownCap_ge w (l.length + m.length) cap e
      refine ⟨_, _, hr, ?_, grownBy_new _ _ _⟩
      rw [← hlen2]
      refine OwnB.made w base e _ _ _ (by rw [hlen2]; exact hge) (by rw [hlen2]; exact hcap _ _ hlen) ?_ ?_ hbase
      · rw [hlen2]
        simp only [Array.size_append, List.size_toArray, List.length_map, size_zeroCells, hz1]; omega
      · simp only [Array.toList_append, List.map_append]
        exact List.take_left' (by rw [List.length_append, List.length_map, List.length_map, hlen2])
end

namespace OwnB
variable {w w' : World} {base : Nat} {e : TypeId} {v : Value} {l : List UInt8}
theorem nil (w : World) (base : Nat) (e : TypeId) : OwnB w base e (.slice none 0 0) [] := .inl ⟨rfl, none, rfl, fun _ h => by cases h⟩
theorem shape (h : OwnB w base e v l) : ∃ A c, v = .slice A l.length c ∧ l.length ≤ c := by
  rcases h with ⟨rfl, A, rfl, _⟩ | ⟨g, o, cap, cur, rfl, _, _, h, _⟩
  · exact ⟨A, 0, rfl, Nat.le_refl _⟩
  · exact ⟨_, _, rfl, h⟩
theorem lt (h : OwnB w base e v l) : ∀ k, v.ownBlock = some k → base ≤ k ∧ k < w.heap.size := by
  intro k hk
  rcases h with ⟨_, A, rfl, hA⟩ | ⟨g, o, cap, cur, rfl, hb, hg, _⟩
  · cases A with
    | none => cases hk
    | some a => have : a.block = k := by simpa [Value.ownBlock] using hk
                subst this; obtain ⟨h1, cur, h2⟩ := hA a rfl; exact ⟨h1, (Array.getElem?_eq_some_iff.1 h2).1⟩
  · have : g = k := by simpa [Value.ownBlock] using hk
    subst this
    exact ⟨hb, (Array.getElem?_eq_some_iff.1 hg).1⟩
theorem block (h : OwnB w base e v l) {g : Nat} (hg : v.ownBlock = some g) : ∃ cs, w.heap[g]? = some (.cells cs e (0, 0)) := by
  rcases h with ⟨_, A, rfl, hA⟩ | ⟨g', o, cap, cur, rfl, _, hh, _⟩
  · cases A with
    | none => cases hg
    | some a => have : a.block = g := by simpa [Value.ownBlock] using hg
                subst this; exact (hA a rfl).2
  · have : g' = g := by simpa [Value.ownBlock] using hg
    subst this; exact ⟨cur, hh⟩
/-- it lies in no block of another type -/
theorem ne_blk (h : OwnB w base e v l) {g : Nat} {e' : TypeId} {cs : Array Value} (hb : w.heap[g]? = some (.cells cs e' (0, 0))) (hne : e ≠ e') : v.ownBlock ≠ some g := by
  intro hg
  obtain ⟨cs', h2⟩ := h.block hg
  rw [hb] at h2
  injection h2 with h2
  injection h2 with _ h2
  exact hne h2.symm
theorem kept {T : Nat → Prop} (h : OwnB w base e v l) (hk : Kp T w w') (hv : ∀ k, v.ownBlock = some k → ¬ T k) : OwnB w' base e v l := by
  have hlt := h.lt
  rcases h with ⟨hl, A, rfl, hA⟩ | ⟨g, o, cap, cur, rfl, hb, hg, r⟩
  · refine .inl ⟨hl, A, rfl, fun a ha => ?_⟩
    obtain ⟨h1, cur, h2⟩ := hA a ha
    subst ha
    exact ⟨h1, cur, (hk.block a.block (hlt a.block rfl).2 (hv a.block rfl)).trans h2⟩
  · exact .inr ⟨g, o, cap, cur, rfl, hb, (hk.block g (hlt g rfl).2 (hv g rfl)).trans hg, r⟩
theorem keptNo (h : OwnB w base e v l) (hk : Kp No w w') : OwnB w' base e v l := h.kept hk fun _ _ x => x
/-- a byte of it -/
theorem cell {A : Option Addr} {n c : Nat} (h : OwnB w base e (.slice A n c) l) {i : Nat} (hi : i < l.length) : ∃ g o, A = some ⟨g, o, none⟩ ∧ base ≤ g ∧ g < w.heap.size ∧ w.cell? ⟨g, o + i, none⟩ = some (byteOf (l.getD i 0)) := by
  have hlt := h.lt
  rcases h with ⟨rfl, _⟩ | ⟨g, o, cap, cur, he, hb, hg, _, _, _, htk⟩
  · cases hi
  · injection he with h1 h2 h3
    subst h1
    refine ⟨g, o, rfl, hb, (hlt g rfl).2, ?_⟩
    have hx : (l.map byteOf)[i]? = some (byteOf (l.getD i 0)) := by rw [List.getElem?_map, List.getD_eq_getElem?_getD, List.getElem?_eq_getElem hi]; rfl
    rw [← htk, List.getElem?_take_of_lt hi, List.getElem?_drop] at hx
    simp [World.cell?, hg]
    simpa using hx
theorem read {A : Option Addr} {m c : Nat} (h : OwnB w base e (.slice A m c) l) {n c2 : Nat} (hn : n ≤ l.length) (h1 : n ≤ c2) (h2 : c2 ≤ maxLen) : Rp.byte.slice.R w (fun k => (Value.slice A m c).ownBlock = some k) [.slice A (l.take n).length c2] (l.take n) := by
  have hl : (l.take n).length = n := by rw [List.length_take]; omega
  refine ⟨A, c2, rfl, by omega, h2, fun h0 => ?_⟩
  obtain ⟨g, o, rfl, hb, hg, _⟩ := h.cell (i := 0) (by omega)
  refine ⟨_, rfl, rfl, fun i a hi => ⟨[byteOf a], fun j u hu => ?_, rfl⟩⟩
  have hj : j = 0 := by
    have := (List.getElem?_eq_some_iff.1 hu).1
    simp at this; exact this
  subst hj
  have hi2 : i < (l.take n).length := (List.getElem?_eq_some_iff.1 hi).1
  obtain ⟨g', o', he, _, _, hc⟩ := h.cell (i := i) (by omega)
  injection he with he
  injection he with he1 he2
  subst he1 he2
  have ha : l.getD i 0 = a := by
    rw [List.getElem?_take_of_lt (by omega)] at hi
    rw [List.getD_eq_getElem?_getD, hi]; rfl
  rw [ha] at hc
  have hu : byteOf a = u := by simpa using hu
  subst hu
  have hp : ((⟨g, o, none⟩ : Addr).add (i * Rp.byte.size + 0)) = ⟨g, o + i, none⟩ := by
    rw [Addr.add_lit]; show (⟨g, o + (i * 1 + 0), none⟩ : Addr) = _; rw [Nat.mul_one, Nat.add_zero]
  first
    | exact hp ▸ hc
    | (simp only [Addr.add_lit] at *; simpa [Rp.byte] using hc)
/-- cut in front -/
theorem cut {g o n c : Nat} (h : OwnB w base e (.slice (some ⟨g, o, none⟩) n c) l) {k : Nat} (hk : k ≤ l.length) (hkc : k < c) : OwnB w base e (.slice (some ⟨g, o + k, none⟩) (l.drop k).length (c - k)) (l.drop k) := by
  rcases h with ⟨rfl, A, he, _⟩ | ⟨g', o', cap, cur, he, hb, hg, h1, h2, h3, htk⟩
  · injection he with _ _ he; omega
  · injection he with e1 e2 e3
    injection e1 with e1
    injection e1 with e1 e4
    subst e1 e4 e3
    refine .inr ⟨g, o + k, c - k, cur, rfl, hb, hg, by rw [List.length_drop]; omega, by omega, by omega, ?_⟩
    rw [List.length_drop, List.map_drop, ← htk, ← List.drop_drop, List.drop_take]
/-- all of it cut off, no room left -/
theorem cutAll {g o n : Nat} (h : OwnB w base e (.slice (some ⟨g, o, none⟩) n n) l) : OwnB w base e (.slice (some ⟨g, o, none⟩) 0 0) [] := by
  obtain ⟨cur, hc⟩ := h.block rfl
  exact .inl ⟨rfl, _, rfl, fun a ha => by injection ha with ha; subst ha; exact ⟨(h.lt g rfl).1, cur, hc⟩⟩
end OwnB
theorem wpList_appendB_text {P : Program} {ops : Array Oper} {rest : List Oper} {o : Oper} {a : Act} {Q : Exit → Act → World → Prop} (hgd : o.guard = none) (w : World) (sl x : Operand) (t u : TypeId)
    (ho : o.op = .call { callee := .builtin .append, args := #[sl, x], argTypes := #[t, u] }) (base : Nat) (e : TypeId) (hb : Bytely P t u e) (v : Value) (l : List UInt8) (hs : a.eval sl = v) (hown : OwnB w base e v l) (s : ByteArray) (hx : a.eval x = .string s)
    (hlen : l.length + s.size ≤ 140737488355328) (hbase : base ≤ w.heap.size)
    (h : ∀ v' w', OwnB w' base e v' (l ++ s.data.toList) → w.grownBy w' v.ownBlock → wpList P ops Q rest (a.put o.dst v') w') : wpList P ops Q (o :: rest) a w := by
  refine wpList_plain hgd fun K hK => ?_
  obtain ⟨v', w', hr, h2, h3⟩ := OwnB.append_text (P := P) w t u o.type e hb hown s hlen hbase
  unfold Oper.wp execOp
  simp only [ho, resolve, invoke, builtin, Sem.run_bind, Sem.run_pure, Result.andThen_ok, List.map_toArray, List.map_cons, List.map_nil, hs, hx, hr]
  exact hK _ _ (h v' w' h2 h3)
theorem wpList_appendB_bytes {P : Program} {ops : Array Oper} {rest : List Oper} {o : Oper} {a : Act} {Q : Exit → Act → World → Prop} (hgd : o.guard = none) (w : World) (sl x : Operand) (t u : TypeId)
    (ho : o.op = .call { callee := .builtin .append, args := #[sl, x], argTypes := #[t, t] }) (base : Nat) (e : TypeId) (hb : Bytely P t u e) (v : Value) (l : List UInt8) (hs : a.eval sl = v) (hown : OwnB w base e v l)
    (ad : Addr) (c : Nat) (m : List UInt8) (hm0 : 0 < m.length) (hx : a.eval x = .slice (some ad) m.length c) (hnews : ∀ j x, (m.map byteOf)[j]? = some x → w.cell? (ad.add j) = some x)
    (hlen : l.length + m.length ≤ 140737488355328) (hbase : base ≤ w.heap.size)
    (h : ∀ v' w', OwnB w' base e v' (l ++ m) → w.grownBy w' v.ownBlock → wpList P ops Q rest (a.put o.dst v') w') : wpList P ops Q (o :: rest) a w := by
  refine wpList_plain hgd fun K hK => ?_
  obtain ⟨v', w', hr, h2, h3⟩ := OwnB.append_bytes (P := P) w t u o.type e hb hown ad c m hm0 hnews hlen hbase
  unfold Oper.wp execOp
  simp only [ho, resolve, invoke, builtin, Sem.run_bind, Sem.run_pure, Result.andThen_ok, List.map_toArray, List.map_cons, List.map_nil, hs, hx, hr]
  exact hK _ _ (h v' w' h2 h3)
end Go.Proofs.Ytamfgmlhopjppaa
