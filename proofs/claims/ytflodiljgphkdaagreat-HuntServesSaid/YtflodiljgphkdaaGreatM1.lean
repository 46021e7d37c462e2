/-
  Put together: Bytes, OwnB, By, Map, W32.
-/
import Derived.Test.YtflodiljgphkdaaGreatGen
import Derived.Lib.AppendStr
import Derived.Laws.IdiomStrings
import Derived.Laws.BytesArg
import Derived.Test.YtflodiljgphkdaaGreatReg
import Derived.Test.YtflodiljgphkdaaGreatBase
import Derived.Maps.Own
import Derived.Laws.BitsAllLaws
namespace Go.Proofs.YtflodiljgphkdaaGreat
section
open Go.RowKit Go.ChangeShapes Go.WideShapes Go.ChangeAt

def byteOf (b : UInt8) : Value := .int .u8 b.toNat
def Rp.byte : Rp UInt8 where
  size := 1
  R _ _ cs b := cs = [byteOf b]
  μ _ := 1
  pos := Nat.one_pos
  len h := by rw [h]; rfl
  keep _ _ h := h
  bnd h := h
theorem Rp.byte_by : Rp.By Rp.byte byteOf (fun _ => True) := ⟨rfl, fun _ _ _ _ => ⟨fun h => ⟨h, trivial⟩, fun h => h.1⟩, fun _ => rfl⟩
theorem Rp.byte_one {w : World} : ∀ cs a S', Rp.byte.R w S' cs a → ∀ u ∈ cs, u.oneCell' = true := by
  rintro cs a S' h u hu
  rw [show cs = [byteOf a] from h] at hu
  simp only [List.mem_cons, List.not_mem_nil, or_false] at hu
  subst hu; rfl

/-- Bytes as numbers, and back. -/
theorem Own.ofNums {w : World} {S S' : Nat → Prop} {base : Nat} {e : TypeId} {v : Value} {l : List UInt8} (h : Own (Rp.int .u8) w S base e v (l.map fun b => (b.toNat : Int))) : Own Rp.byte w S' base e v l := by
  have h1 := (Own.toRaw (Rp.int_by .u8) h).1
  rw [List.map_map] at h1
  exact Own.ofRaw Rp.byte_by h1 (fun _ _ => trivial) S'

/-- What a type of bytes is. -/
def Bytely (P : Program) (t u e : TypeId) : Prop := P.underlying t = some (.slice e) ∧ P.underlying u = some .string ∧ P.underlying e = some (.int .u8) ∧ ∃ i, P.info? e = some i ∧ i.zero = some (.int .u8 0) ∧ i.size = 1 ∧ i.bytes = 1
theorem Bytely.of {P : Program} {t u e : TypeId} (h1 : P.underlying t = some (.slice e)) (h2 : P.underlying u = some .string) (h3 : P.underlying e = some (.int .u8)) (h4 : (P.info? e).map (fun i => (i.zero, i.size, i.bytes)) = some (some (.int .u8 0), 1, 1)) : Bytely P t u e := by
  obtain ⟨i, a, b, c, d⟩ := info_parts h4
  exact ⟨h1, h2, h3, i, a, b, c, d⟩
theorem Bytely.elem {P : Program} {t u e : TypeId} (h : Bytely P t u e) : Elem P t e 1 1 := by
  obtain ⟨h1, _, _, i, a, b, c, d⟩ := h
  exact ⟨h1, i, _, a, b, c, d, rfl, by decide⟩

/-- A text behind bytes. -/
theorem wpList_append_text {P : Program} {ops : Array Oper} {rest : List Oper} {o : Oper} {a : Act} {Q : Exit → Act → World → Prop} (hgd : o.guard = none) (w : World) (sl x : Operand) (t u : TypeId)
    (ho : o.op = .call { callee := .builtin .append, args := #[sl, x], argTypes := #[t, u] })
    (base : Nat) (e : TypeId) (hb : Bytely P t u e) (S : Nat → Prop) (v : Value) (l : List UInt8) (hs : a.eval sl = v) (hown : Own Rp.byte w S base e v l) (s : ByteArray) (hx : a.eval x = .string s)
    (hlen : l.length + s.size ≤ 140737488355328) (hbase : base ≤ w.heap.size)
    (h : ∀ v' w', Own Rp.byte w' S base e v' (l ++ s.data.toList) → w.grownBy w' v.ownBlock → wpList P ops Q rest (a.put o.dst v') w') : wpList P ops Q (o :: rest) a w := by
  obtain ⟨ht, hu, he, i, hi, hz, hsize, hby⟩ := hb
  obtain ⟨h1, _⟩ := Own.toRaw Rp.byte_by hown
  obtain ⟨h2, h3⟩ := Own.raw_vals h1
  rw [List.length_map] at h2
  refine Lib.wpList_append_own_string w hgd sl x t u ho base e i ht hu hi hz hsize hby v l.length _ hs h2 s hx (by simp [maxLen]; omega) hlen hbase fun v' w' h4 h5 _ => h v' w' ?_ h5
  refine Own.ofRaw (S := S) Rp.byte_by (Own.of_raw ?_ ?_) (fun _ _ => trivial) S
  · have e1 : (l ++ s.data.toList).map byteOf = l.map byteOf ++ Lib.strCells s := by rw [List.map_append]; rfl
    rw [e1, List.length_append, List.length_map, Lib.strCells_length]
    exact h4
  · intro u hu
    obtain ⟨b, _, rfl⟩ := List.mem_map.1 hu
    rfl

/-- What text bytes are. -/
theorem run_text {P : Program} (w : World) (src u e : TypeId) (hb : Bytely P src u e) {S : Nat → Prop} {base : Nat} {A : Option Addr} {c : Nat} {l : List UInt8} (h : Own Rp.byte w S base e (.slice A l.length c) l) :
    (convert src u (.slice A l.length c)).run P w = .ok (.string (bs l)) w := by
  obtain ⟨ht, hu, he, _⟩ := hb
  cases A with
  | none =>
    have hl : l = [] := by
      cases l with
      | nil => rfl
      | cons x r =>
        obtain ⟨g, hg, _⟩ := Own.cellBy Rp.byte_by h (i := 0) (a := x) rfl
        cases hg
    subst hl
    exact run_convert_bytes_nil w src e ht he 0 c u hu
  | some ad =>
    refine run_convert_bytes_back w src u e ad c l ht he hu fun j hj => ?_
    obtain ⟨g, hg, _, _, hc, _⟩ := Own.cellBy Rp.byte_by h (i := j) (a := l[j]) (List.getElem?_eq_getElem hj)
    injection hg with hg
    subst hg
    have e0 : (⟨g, 0, none⟩ : Addr).add j = ⟨g, j, none⟩ := by simp only [Addr.add]; split <;> simp_all
    rw [e0]; exact hc
end

section
open Go.RowKit Go.ChangeShapes Go.WideShapes Go.ChangeAt

/-- The call's own bytes, wherever they begin in their block. -/
def OwnB (w : World) (base : Nat) (e : TypeId) (v : Value) (l : List UInt8) : Prop :=
  (l = [] ∧ ∃ A, v = .slice A 0 0 ∧ ∀ a : Addr, A = some a → base ≤ a.block ∧ ∃ cur, w.heap[a.block]? = some (.cells cur e (0, 0))) ∨
  ∃ g o cap cur, v = .slice (some ⟨g, o, none⟩) l.length cap ∧ base ≤ g ∧ w.heap[g]? = some (.cells cur e (0, 0)) ∧ l.length ≤ cap ∧ o + cap = cur.size ∧ cap ≤ maxLen ∧ (cur.toList.drop o).take l.length = l.map byteOf

section
variable {P : Program}
theorem room_text_at (w : World) (t u ty e : TypeId) (hb : Bytely P t u e) (g o sLen sCap : Nat) (cur : Array Value) (hg : w.heap[g]? = some (.cells cur e (0, 0))) (s : ByteArray) (hroom : sLen + s.size ≤ sCap) (hfit : o + sLen + s.size ≤ cur.size) :
    (Builtin.append_ #[t, u] ty #[.slice (some ⟨g, o, none⟩) sLen sCap, .string s]).run P w =
      .ok (.slice (some ⟨g, o, none⟩) (sLen + s.size) sCap) (w.setRow g (cur.toList.take (o + sLen) ++ Lib.strCells s ++ cur.toList.drop (o + sLen + s.size)).toArray) := by
  obtain ⟨ht, hu, _, i, hi, hz, hs1, _⟩ := hb
  have hf := Lib.run_firstCells_string (P := P) w 1 s
  have hst := run_storeCells_at P g (o + sLen) e (Lib.strCells s) 0 cur w hg (by simpa [Lib.strCells_length] using hfit) (Lib.strCells_oneCell s)
  simp only [Nat.add_zero, Lib.strCells_length] at hst
  simp [Builtin.append_, run_underlying ht, run_underlying hu, sizeOf, typeInfo, hi, hs1, Builtin.lenOf, hroom, hf, Addr.add_lit, hst]

/-- What a new block holds. -/
theorem OwnB.made (w : World) (base : Nat) (e : TypeId) (l : List UInt8) (cells : Array Value) (cap : Nat) (hl : l.length ≤ cap) (hc : cap ≤ maxLen) (hcs : cells.size = cap) (ht : cells.toList.take l.length = l.map byteOf) (hbase : base ≤ w.heap.size) :
    OwnB (w.drew.alloc (.cells cells e)) base e (.slice (some ⟨w.heap.size, 0, none⟩) l.length cap) l :=
  .inr ⟨w.heap.size, 0, cap, cells, rfl, hbase, heap_alloc_new w.drew _, hl, by omega, hc, by simpa using ht⟩
theorem grownBy_new (w : World) (o : Obj) (row : Option Nat) : w.grownBy (w.drew.alloc o) row := ⟨rfl, rfl, rfl, by simp, fun k hk _ => heap_alloc_old w.drew _ hk⟩
theorem map_byteOf (s : ByteArray) : s.data.toList.map byteOf = Lib.strCells s := rfl

theorem OwnB.append_text (w : World) (t u ty e : TypeId) (hb : Bytely P t u e) {base : Nat} {v : Value} {l : List UInt8} (h : OwnB w base e v l) (s : ByteArray) (hlen : l.length + s.size ≤ 140737488355328) (hbase : base ≤ w.heap.size) :
    ∃ v' w', (Builtin.append_ #[t, u] ty #[v, .string s]).run P w = .ok v' w' ∧ OwnB w' base e v' (l ++ s.data.toList) ∧ w.grownBy w' v.ownBlock := by
  have hb' := hb
  obtain ⟨ht, hu, _, i, hi, hz, hs1, hby⟩ := hb'
  have hcap : ∀ need old, need ≤ 140737488355328 → grownCap w need old e ≤ maxLen := fun need old hn => grownCap_le_maxLen w need old e (by simp [maxLen]; omega)
  have hz1 : (Value.int IntKind.u8 0).cells.size = 1 := rfl
  rcases h with ⟨rfl, A, rfl, hA⟩ | ⟨g, o, cap, cur, rfl, hbg, hg, hlc, hoc, hcm, htk⟩
  · simp only [List.length_nil, Nat.zero_add] at hlen
    simp only [List.nil_append]
    by_cases hm : s.size = 0
    · have hd : s.data.toList = [] := List.eq_nil_of_length_eq_zero hm
      have hf := Lib.run_firstCells_string (P := P) w 1 s
      rw [hm] at hf
      have hsc : Lib.strCells s = [] := by rw [← map_byteOf, hd]; rfl
      rw [hsc] at hf
      rw [hd]
      refine ⟨.slice A 0 0, w, ?_, .inl ⟨rfl, A, rfl, hA⟩, ⟨rfl, rfl, rfl, Nat.le_refl _, fun _ _ _ => rfl⟩⟩
      cases A with
      | none => simp [Builtin.append_, run_underlying ht, run_underlying hu, sizeOf, typeInfo, hi, hs1, Builtin.lenOf, hm, hf]
      | some a => simp [Builtin.append_, run_underlying ht, run_underlying hu, sizeOf, typeInfo, hi, hs1, Builtin.lenOf, hm, hf, storeCells, Sem.run_pure]
    · have hge := grownCap_ge w s.size 0 e
      have hcells : ∀ c, c = ((Lib.strCells s).toArray ++ Builtin.zeroCells (Value.int .u8 0).cells (grownCap w s.size 0 e - s.size)) → OwnB (w.drew.alloc (.cells c e)) base e (.slice (some ⟨w.heap.size, 0, none⟩) s.size (grownCap w s.size 0 e)) s.data.toList := by
        rintro c rfl
        refine OwnB.made w base e s.data.toList _ _ hge (hcap _ _ hlen) ?_ ?_ hbase
        · simp only [Array.size_append, List.size_toArray, size_zeroCells, hz1, Lib.strCells_length]; omega
        · rw [map_byteOf]
          simp only [Array.toList_append]
          exact List.take_left' (by rw [Lib.strCells_length]; rfl)
      cases A with
      | none =>
        have hr := run_append_nil_string (P := P) w t u ty e i (.int .u8 0) ht hu hi hz s (by omega) (by omega) (by rw [hby]; omega)
        exact ⟨_, _, hr, hcells _ (by congr 1; apply Array.ext'; simp [Lib.strCells]), grownBy_new _ _ _⟩
      | some a =>
        have hr := Lib.run_append_grow_string (P := P) w t u ty e i (.int .u8 0) ht hu hi hz a 0 0 [] (by simp) (by simp) s (by omega) (by omega) (by rw [hby]; exact growslice_fits (by omega) (by omega))
        simp only [Nat.zero_add, Array.empty_append] at hr
        exact ⟨_, _, hr, hcells _ (by simp), grownBy_new _ _ _⟩
  · have hlen2 : (l ++ s.data.toList).length = l.length + s.size := by rw [List.length_append, data_length]
    by_cases hroom : l.length + s.size ≤ cap
    · have hr := room_text_at (P := P) w t u ty e hb g o l.length cap cur hg s hroom (by omega)
      refine ⟨_, _, hr, .inr ⟨g, o, cap, _, by rw [hlen2], hbg, setRow_heap w g cur _ e _ hg, by rw [hlen2]; exact hroom, ?_, hcm, ?_⟩, ⟨rfl, rfl, rfl, by simp, fun k _ hk => setRow_other w g k _ (fun e => hk (by simp [Value.ownBlock, e]))⟩⟩
      · simp only [List.size_toArray, List.length_append, List.length_take, List.length_drop, Array.length_toList, Lib.strCells_length]; omega
      · rw [hlen2, List.map_append, map_byteOf, ← htk]
        have hcl : cur.toList.length = o + cap := by rw [Array.length_toList]; omega
        show ((cur.toList.take (o + l.length) ++ Lib.strCells s ++ cur.toList.drop (o + l.length + s.size)).drop o).take (l.length + s.size) = _
        rw [List.append_assoc, List.drop_append_of_le_length (by rw [List.length_take]; omega), ← List.append_assoc, List.drop_take, Nat.add_sub_cancel_left]
        exact List.take_left' (by rw [List.length_append, List.length_take, List.length_drop, Lib.strCells_length]; omega)
    · have holds : ∀ j u, (l.map byteOf)[j]? = some u → w.cell? ((⟨g, o, none⟩ : Addr).add j) = some u := by
        intro j x hx
        have hj : j < l.length := by have := (List.getElem?_eq_some_iff.1 hx).1; simpa using this
        rw [← htk, List.getElem?_take_of_lt hj, List.getElem?_drop] at hx
        rw [Addr.add_lit]
        simp [World.cell?, hg]
        simpa using hx
      have hr := Lib.run_append_grow_string (P := P) w t u ty e i (.int .u8 0) ht hu hi hz ⟨g, o, none⟩ l.length cap (l.map byteOf) (by rw [hs1]; simp) holds s (by omega) (by omega) (by rw [hby]; exact growslice_fits (by omega) (by omega))
      have hge := grownCap_ge w (l.length + s.size) cap e
      refine ⟨_, _, hr, ?_, grownBy_new _ _ _⟩
      rw [← hlen2]
      refine OwnB.made w base e _ _ _ (by rw [hlen2]; exact hge) (by rw [hlen2]; exact hcap _ _ hlen) ?_ ?_ hbase
      · rw [hlen2]
        simp only [Array.size_append, List.size_toArray, List.length_map, size_zeroCells, hz1, Lib.strCells_length]; omega
      · simp only [Array.toList_append, List.map_append, map_byteOf]
        exact List.take_left' (by rw [List.length_append, List.length_map, Lib.strCells_length, hlen2])

theorem room_bytes_at (w : World) (t u ty e : TypeId) (hb : Bytely P t u e) (g o sLen sCap : Nat) (cur : Array Value) (hg : w.heap[g]? = some (.cells cur e (0, 0))) (a : Addr) (c : Nat) (m : List UInt8) (hnews : ∀ j x, (m.map byteOf)[j]? = some x → w.cell? (a.add j) = some x) (hroom : sLen + m.length ≤ sCap) (hfit : o + sLen + m.length ≤ cur.size) :
    (Builtin.append_ #[t, t] ty #[.slice (some ⟨g, o, none⟩) sLen sCap, .slice (some a) m.length c]).run P w =
      .ok (.slice (some ⟨g, o, none⟩) (sLen + m.length) sCap) (w.setRow g (cur.toList.take (o + sLen) ++ m.map byteOf ++ cur.toList.drop (o + sLen + m.length)).toArray) := by
  obtain ⟨ht, _, _, i, hi, hz, hs1, _⟩ := hb
  have hf := run_firstCells_some (P := P) w 1 m.length a m.length c (m.map byteOf) (by simp) hnews
  have hst := run_storeCells_at P g (o + sLen) e (m.map byteOf) 0 cur w hg (by simpa using hfit) (by intro x hx; obtain ⟨b, _, rfl⟩ := List.mem_map.1 hx; rfl)
  simp only [Nat.add_zero, List.length_map] at hst
  simp [Builtin.append_, run_underlying ht, sizeOf, typeInfo, hi, hs1, Builtin.lenOf, hroom, hf, Addr.add_lit, hst]

theorem OwnB.append_bytes (w : World) (t u ty e : TypeId) (hb : Bytely P t u e) {base : Nat} {v : Value} {l : List UInt8} (h : OwnB w base e v l) (a : Addr) (c : Nat) (m : List UInt8) (hm0 : 0 < m.length) (hnews : ∀ j x, (m.map byteOf)[j]? = some x → w.cell? (a.add j) = some x) (hlen : l.length + m.length ≤ 140737488355328) (hbase : base ≤ w.heap.size) :
    ∃ v' w', (Builtin.append_ #[t, t] ty #[v, .slice (some a) m.length c]).run P w = .ok v' w' ∧ OwnB w' base e v' (l ++ m) ∧ w.grownBy w' v.ownBlock := by
  have hb' := hb
  obtain ⟨ht, _, _, i, hi, hz, hs1, hby⟩ := hb'
  have hcap : ∀ need old, need ≤ 140737488355328 → grownCap w need old e ≤ maxLen := fun need old hn => grownCap_le_maxLen w need old e (by simp [maxLen]; omega)
  have hz1 : (Value.int IntKind.u8 0).cells.size = 1 := rfl
  have hml : (m.map byteOf).length = m.length * i.size := by rw [hs1]; simp
  rcases h with ⟨rfl, A, rfl, hA⟩ | ⟨g, o, cap, cur, rfl, hbg, hg, hlc, hoc, hcm, htk⟩
  · simp only [List.length_nil, Nat.zero_add] at hlen
    simp only [List.nil_append]
    have hge := grownCap_ge w m.length 0 e
    have hcells : ∀ cs, cs = ((m.map byteOf).toArray ++ Builtin.zeroCells (Value.int .u8 0).cells (grownCap w m.length 0 e - m.length)) → OwnB (w.drew.alloc (.cells cs e)) base e (.slice (some ⟨w.heap.size, 0, none⟩) m.length (grownCap w m.length 0 e)) m := by
      rintro cs rfl
      refine OwnB.made w base e m _ _ hge (hcap _ _ hlen) ?_ ?_ hbase
      · simp only [Array.size_append, List.size_toArray, size_zeroCells, hz1, List.length_map]; omega
      · simp only [Array.toList_append]
        exact List.take_left' (by rw [List.length_map])
    cases A with
    | none =>
      have hr := run_append_nil (P := P) w t ty e i (.int .u8 0) ht hi hz a m.length c (m.map byteOf) hml hnews hm0 (by omega) (by rw [hby]; omega)
      exact ⟨_, _, hr, hcells _ rfl, grownBy_new _ _ _⟩
    | some a0 =>
      have hr := run_append_grow (P := P) w t ty e i (.int .u8 0) ht hi hz a0 0 0 [] (by simp) (by simp) a m.length c (m.map byteOf) hml hnews (by omega) (by omega) (by rw [hby]; exact growslice_fits (by omega) (by omega))
      simp only [Nat.zero_add, Array.empty_append] at hr
      exact ⟨_, _, hr, hcells _ (by simp), grownBy_new _ _ _⟩
  · have hlen2 : (l ++ m).length = l.length + m.length := List.length_append
    by_cases hroom : l.length + m.length ≤ cap
    · have hr := room_bytes_at (P := P) w t u ty e hb g o l.length cap cur hg a c m hnews hroom (by omega)
      refine ⟨_, _, hr, .inr ⟨g, o, cap, _, by rw [hlen2], hbg, setRow_heap w g cur _ e _ hg, by rw [hlen2]; exact hroom, ?_, hcm, ?_⟩, ⟨rfl, rfl, rfl, by simp, fun k _ hk => setRow_other w g k _ (fun e => hk (by simp [Value.ownBlock, e]))⟩⟩
      · simp only [List.size_toArray, List.length_append, List.length_take, List.length_drop, Array.length_toList, List.length_map]; omega
      · rw [hlen2, List.map_append, ← htk]
        have hcl : cur.toList.length = o + cap := by rw [Array.length_toList]; omega
        show ((cur.toList.take (o + l.length) ++ m.map byteOf ++ cur.toList.drop (o + l.length + m.length)).drop o).take (l.length + m.length) = _
        rw [List.append_assoc, List.drop_append_of_le_length (by rw [List.length_take]; omega), ← List.append_assoc, List.drop_take, Nat.add_sub_cancel_left]
        exact List.take_left' (by rw [List.length_append, List.length_take, List.length_drop, List.length_map]; omega)
    · have holds : ∀ j x, (l.map byteOf)[j]? = some x → w.cell? ((⟨g, o, none⟩ : Addr).add j) = some x := by
        intro j x hx
        have hj : j < l.length := by have := (List.getElem?_eq_some_iff.1 hx).1; simpa using this
        rw [← htk, List.getElem?_take_of_lt hj, List.getElem?_drop] at hx
        rw [Addr.add_lit]
        simp [World.cell?, hg]
        simpa using hx
      have hr := run_append_grow (P := P) w t ty e i (.int .u8 0) ht hi hz ⟨g, o, none⟩ l.length cap (l.map byteOf) (by rw [hs1]; simp) holds a m.length c (m.map byteOf) hml hnews (by omega) (by omega) (by rw [hby]; exact growslice_fits (by omega) (by omega))
      have hge := grownCap_ge w (l.length + m.length) cap e
      refine ⟨_, _, hr, ?_, grownBy_new _ _ _⟩
      rw [← hlen2]
      refine OwnB.made w base e _ _ _ (by rw [hlen2]; exact hge) (by rw [hlen2]; exact hcap _ _ hlen) ?_ ?_ hbase
      · rw [hlen2]
        simp only [Array.size_append, List.size_toArray, List.length_map, size_zeroCells, hz1]; omega
      · simp only [Array.toList_append, List.map_append]
        exact List.take_left' (by rw [List.length_append, List.length_map, List.length_map, hlen2])
end

namespace OwnB
variable {w w' : World} {base : Nat} {e : TypeId} {v : Value} {l : List UInt8}
theorem nil (w : World) (base : Nat) (e : TypeId) : OwnB w base e (.slice none 0 0) [] := .inl ⟨rfl, none, rfl, fun _ h => by cases h⟩
theorem shape (h : OwnB w base e v l) : ∃ A c, v = .slice A l.length c ∧ l.length ≤ c := by
  rcases h with ⟨rfl, A, rfl, _⟩ | ⟨g, o, cap, cur, rfl, _, _, h, _⟩
  · exact ⟨A, 0, rfl, Nat.le_refl _⟩
  · exact ⟨_, _, rfl, h⟩
theorem lt (h : OwnB w base e v l) : ∀ k, v.ownBlock = some k → base ≤ k ∧ k < w.heap.size := by
  intro k hk
  rcases h with ⟨_, A, rfl, hA⟩ | ⟨g, o, cap, cur, rfl, hb, hg, _⟩
  · cases A with
    | none => cases hk
    | some a => have : a.block = k := by simpa [Value.ownBlock] using hk
                subst this; obtain ⟨h1, cur, h2⟩ := hA a rfl; exact ⟨h1, (Array.getElem?_eq_some_iff.1 h2).1⟩
  · have : g = k := by simpa [Value.ownBlock] using hk
    subst this
    exact ⟨hb, (Array.getElem?_eq_some_iff.1 hg).1⟩
theorem block (h : OwnB w base e v l) {g : Nat} (hg : v.ownBlock = some g) : ∃ cs, w.heap[g]? = some (.cells cs e (0, 0)) := by
  rcases h with ⟨_, A, rfl, hA⟩ | ⟨g', o, cap, cur, rfl, _, hh, _⟩
  · cases A with
    | none => cases hg
    | some a => have : a.block = g := by simpa [Value.ownBlock] using hg
                subst this; exact (hA a rfl).2
  · have : g' = g := by simpa [Value.ownBlock] using hg
    subst this; exact ⟨cur, hh⟩
/-- it lies in no block of another type -/
theorem ne_blk (h : OwnB w base e v l) {g : Nat} {e' : TypeId} {cs : Array Value} (hb : w.heap[g]? = some (.cells cs e' (0, 0))) (hne : e ≠ e') : v.ownBlock ≠ some g := by
  intro hg
  obtain ⟨cs', h2⟩ := h.block hg
  rw [hb] at h2
  injection h2 with h2
  injection h2 with _ h2
  exact hne h2.symm
theorem kept {T : Nat → Prop} (h : OwnB w base e v l) (hk : Kp T w w') (hv : ∀ k, v.ownBlock = some k → ¬ T k) : OwnB w' base e v l := by
  have hlt := h.lt
  rcases h with ⟨hl, A, rfl, hA⟩ | ⟨g, o, cap, cur, rfl, hb, hg, r⟩
  · refine .inl ⟨hl, A, rfl, fun a ha => ?_⟩
    obtain ⟨h1, cur, h2⟩ := hA a ha
    subst ha
    exact ⟨h1, cur, (hk.block a.block (hlt a.block rfl).2 (hv a.block rfl)).trans h2⟩
  · exact .inr ⟨g, o, cap, cur, rfl, hb, (hk.block g (hlt g rfl).2 (hv g rfl)).trans hg, r⟩
theorem keptNo (h : OwnB w base e v l) (hk : Kp No w w') : OwnB w' base e v l := h.kept hk fun _ _ x => x
/-- a byte of it -/
theorem cell {A : Option Addr} {n c : Nat} (h : OwnB w base e (.slice A n c) l) {i : Nat} (hi : i < l.length) : ∃ g o, A = some ⟨g, o, none⟩ ∧ base ≤ g ∧ g < w.heap.size ∧ w.cell? ⟨g, o + i, none⟩ = some (byteOf (l.getD i 0)) := by
  have hlt := h.lt
  rcases h with ⟨rfl, _⟩ | ⟨g, o, cap, cur, he, hb, hg, _, _, _, htk⟩
  · cases hi
  · injection he with h1 h2 h3
    subst h1
    refine ⟨g, o, rfl, hb, (hlt g rfl).2, ?_⟩
    have hx : (l.map byteOf)[i]? = some (byteOf (l.getD i 0)) := by rw [List.getElem?_map, List.getD_eq_getElem?_getD, List.getElem?_eq_getElem hi]; rfl
    rw [← htk, List.getElem?_take_of_lt hi, List.getElem?_drop] at hx
    simp [World.cell?, hg]
    simpa using hx
theorem read {A : Option Addr} {m c : Nat} (h : OwnB w base e (.slice A m c) l) {n c2 : Nat} (hn : n ≤ l.length) (h1 : n ≤ c2) (h2 : c2 ≤ maxLen) : Rp.byte.slice.R w (fun k => (Value.slice A m c).ownBlock = some k) [.slice A (l.take n).length c2] (l.take n) := by
  have hl : (l.take n).length = n := by rw [List.length_take]; omega
  refine ⟨A, c2, rfl, by omega, h2, fun h0 => ?_⟩
  obtain ⟨g, o, rfl, hb, hg, _⟩ := h.cell (i := 0) (by omega)
  refine ⟨_, rfl, rfl, fun i a hi => ⟨[byteOf a], fun j u hu => ?_, rfl⟩⟩
  have hj : j = 0 := by
    have := (List.getElem?_eq_some_iff.1 hu).1
    simp at this; exact this
  subst hj
  have hi2 : i < (l.take n).length := (List.getElem?_eq_some_iff.1 hi).1
  obtain ⟨g', o', he, _, _, hc⟩ := h.cell (i := i) (by omega)
  injection he with he
  injection he with he1 he2
  subst he1 he2
  have ha : l.getD i 0 = a := by
    rw [List.getElem?_take_of_lt (by omega)] at hi
    rw [List.getD_eq_getElem?_getD, hi]; rfl
  rw [ha] at hc
  have hu : byteOf a = u := by simpa using hu
  subst hu
  have hp : ((⟨g, o, none⟩ : Addr).add (i * Rp.byte.size + 0)) = ⟨g, o + i, none⟩ := by
    rw [Addr.add_lit]; show (⟨g, o + (i * 1 + 0), none⟩ : Addr) = _; rw [Nat.mul_one, Nat.add_zero]
  first
    | exact hp ▸ hc
    | (simp only [Addr.add_lit] at *; simpa [Rp.byte] using hc)
/-- cut in front -/
theorem cut {g o n c : Nat} (h : OwnB w base e (.slice (some ⟨g, o, none⟩) n c) l) {k : Nat} (hk : k ≤ l.length) (hkc : k < c) : OwnB w base e (.slice (some ⟨g, o + k, none⟩) (l.drop k).length (c - k)) (l.drop k) := by
  rcases h with ⟨rfl, A, he, _⟩ | ⟨g', o', cap, cur, he, hb, hg, h1, h2, h3, htk⟩
  · injection he with _ _ he; omega
  · injection he with e1 e2 e3
    injection e1 with e1
    injection e1 with e1 e4
    subst e1 e4 e3
    refine .inr ⟨g, o + k, c - k, cur, rfl, hb, hg, by rw [List.length_drop]; omega, by omega, by omega, ?_⟩
    rw [List.length_drop, List.map_drop, ← htk, ← List.drop_drop, List.drop_take]
/-- all of it cut off, no room left -/
theorem cutAll {g o n : Nat} (h : OwnB w base e (.slice (some ⟨g, o, none⟩) n n) l) : OwnB w base e (.slice (some ⟨g, o, none⟩) 0 0) [] := by
  obtain ⟨cur, hc⟩ := h.block rfl
  exact .inl ⟨rfl, _, rfl, fun a ha => by injection ha with ha; subst ha; exact ⟨(h.lt g rfl).1, cur, hc⟩⟩
end OwnB
theorem wpList_appendB_text {P : Program} {ops : Array Oper} {rest : List Oper} {o : Oper} {a : Act} {Q : Exit → Act → World → Prop} (hgd : o.guard = none) (w : World) (sl x : Operand) (t u : TypeId)
    (ho : o.op = .call { callee := .builtin .append, args := #[sl, x], argTypes := #[t, u] }) (base : Nat) (e : TypeId) (hb : Bytely P t u e) (v : Value) (l : List UInt8) (hs : a.eval sl = v) (hown : OwnB w base e v l) (s : ByteArray) (hx : a.eval x = .string s)
    (hlen : l.length + s.size ≤ 140737488355328) (hbase : base ≤ w.heap.size)
    (h : ∀ v' w', OwnB w' base e v' (l ++ s.data.toList) → w.grownBy w' v.ownBlock → wpList P ops Q rest (a.put o.dst v') w') : wpList P ops Q (o :: rest) a w := by
  refine wpList_plain hgd fun K hK => ?_
  obtain ⟨v', w', hr, h2, h3⟩ := OwnB.append_text (P := P) w t u o.type e hb hown s hlen hbase
  unfold Oper.wp execOp
  simp only [ho, resolve, invoke, builtin, Sem.run_bind, Sem.run_pure, Result.andThen_ok, List.map_toArray, List.map_cons, List.map_nil, hs, hx, hr]
  exact hK _ _ (h v' w' h2 h3)
theorem wpList_appendB_bytes {P : Program} {ops : Array Oper} {rest : List Oper} {o : Oper} {a : Act} {Q : Exit → Act → World → Prop} (hgd : o.guard = none) (w : World) (sl x : Operand) (t u : TypeId)
    (ho : o.op = .call { callee := .builtin .append, args := #[sl, x], argTypes := #[t, t] }) (base : Nat) (e : TypeId) (hb : Bytely P t u e) (v : Value) (l : List UInt8) (hs : a.eval sl = v) (hown : OwnB w base e v l)
    (ad : Addr) (c : Nat) (m : List UInt8) (hm0 : 0 < m.length) (hx : a.eval x = .slice (some ad) m.length c) (hnews : ∀ j x, (m.map byteOf)[j]? = some x → w.cell? (ad.add j) = some x)
    (hlen : l.length + m.length ≤ 140737488355328) (hbase : base ≤ w.heap.size)
    (h : ∀ v' w', OwnB w' base e v' (l ++ m) → w.grownBy w' v.ownBlock → wpList P ops Q rest (a.put o.dst v') w') : wpList P ops Q (o :: rest) a w := by
  refine wpList_plain hgd fun K hK => ?_
  obtain ⟨v', w', hr, h2, h3⟩ := OwnB.append_bytes (P := P) w t u o.type e hb hown ad c m hm0 hnews hlen hbase
  unfold Oper.wp execOp
  simp only [ho, resolve, invoke, builtin, Sem.run_bind, Sem.run_pure, Result.andThen_ok, List.map_toArray, List.map_cons, List.map_nil, hs, hx, hr]
  exact hK _ _ (h v' w' h2 h3)
end

section
open Go.RowKit Go.ChangeShapes Go.WideShapes Go.ChangeAt

theorem bytely : Bytely Tryz.prog 88 9 5 := Bytely.of Tryz.underlying88 Tryz.underlying9 Tryz.underlying5 (by kernel_rfl)

theorem Rp.By.one_all {α : Type} {E : Rp α} {enc : α → Value} {PP : α → Prop} (hb : Rp.By E enc PP) {w : World} : ∀ cs a S', E.R w S' cs a → ∀ u ∈ cs, u.oneCell' = true := by
  intro cs a S' h u hu
  rw [((hb.R _ _ _ _).1 h).1] at hu
  simp only [List.mem_cons, List.not_mem_nil, or_false] at hu
  subst hu; exact hb.one a

/-- append(l, x, y, ..): the new ones in a block of their own. -/
theorem wpList_append_lit {α : Type} {E : Rp α} {enc : α → Value} {PP : α → Prop} (hbE : Rp.By E enc PP) {P : Program} {ops : Array Oper} {rest : List Oper} {o : Oper} {a : Act} {Q : Exit → Act → World → Prop} (hgd : o.guard = none) (w : World) (sl x : Operand) (t : TypeId)
    (ho : o.op = .call { callee := .builtin .append, args := #[sl, x], argTypes := #[t, t] })
    (base : Nat) (e : TypeId) (bytes : Nat) (el : Elem P t e 1 bytes) (v : Value) (l : List α) (hs : a.eval sl = v) (S : Nat → Prop) (hown : Own E w S base e v l)
    (g : Nat) (m : List α) (hx : a.eval x = .slice (some ⟨g, 0, none⟩) m.length m.length) (cs : Array Value) (e' : TypeId) (fr : Nat × Nat) (hg : w.heap[g]? = some (.cells cs e' fr)) (hcs : cs.toList = m.map enc) (hp : ∀ a ∈ m, PP a)
    (hcap : l.length + m.length ≤ maxLen) (hbytes : (l.length + m.length) * bytes ≤ 140737488355328) (hbase : base ≤ w.heap.size) (hvg : v.ownBlock ≠ some g)
    (h : ∀ A c w', Own E w' No base e (.slice A (l ++ m).length c) (l ++ m) → Kp (fun k => v.ownBlock = some k) w w' → wpList P ops Q rest (a.put o.dst (.slice A (l ++ m).length c)) w') : wpList P ops Q (o :: rest) a w := by
  refine wpList_append_rp (E := E) hgd w sl x t ho base e bytes (by rw [hbE.size]; exact el) (· = g) v l hs (Own.by_any hbE hown _) (some ⟨g, 0, none⟩) m.length (· = g) m hx
    (Rp.of_block1 hbE.size enc hg rfl hcs (Nat.le_refl _) (by omega) (fun a ha => (hbE.R _ _ _ _).2 ⟨rfl, hp a ha⟩)) hbE.one_all hcap hbytes hbase (fun _ h => h) (fun k hk he => hvg (by rw [hk, he])) ?_
  intro v' w' hown' hgr _
  obtain ⟨A', c', rfl⟩ := hown'.shape
  exact h A' c' w' (Own.by_any hbE hown' _) ((Kp.refl _ w).grown hgr (fun g hg _ => hg))

theorem byte_nat (n : Nat) : byteOf (UInt8.ofNat n) = .int .u8 ((n % 256 : Nat) : Int) := by
  unfold byteOf
  rw [UInt8.toNat_ofNat']
/-- A number that is a byte. -/
theorem byte_of {x : Int} (h0 : 0 ≤ x) (h1 : x < 256) : Value.int .u8 x = byteOf (UInt8.ofNat x.toNat) := by
  unfold byteOf
  rw [UInt8.toNat_ofNat', Nat.mod_eq_of_lt (by omega)]
  congr 1; omega
end

section
open Go.RowKit Go.ChangeShapes Go.WideShapes Go.ChangeAt

/-- the first entry of a key: its place and its value -/
def findIx {κ : Type} [DecidableEq κ] (k : κ) : List (κ × Value) → Option (Nat × Value)
  | [] => none
  | (k', v) :: l => if k = k' then some (0, v) else (findIx k l).map fun x => (x.1 + 1, x.2)
/-- what a map has at a key -/
def mget {κ ν : Type} [DecidableEq κ] (k : κ) : List (κ × ν) → Option ν
  | [] => none
  | (k', v) :: l => if k = k' then some v else mget k l
/-- a store: in its place, or behind all others -/
def mput {κ ν : Type} [DecidableEq κ] (k : κ) (v : ν) : List (κ × ν) → List (κ × ν)
  | [] => [(k, v)]
  | (k', v') :: l => if k = k' then (k, v) :: l else (k', v') :: mput k v l
/-- a delete -/
def mdel {κ ν : Type} [DecidableEq κ] (k : κ) : List (κ × ν) → List (κ × ν)
  | [] => []
  | (k', v') :: l => if k = k' then l else (k', v') :: mdel k l

section
variable {κ ν : Type} [DecidableEq κ]
theorem mget_put_same (k : κ) (v : ν) : ∀ l : List (κ × ν), mget k (mput k v l) = some v
  | [] => by simp [mput, mget]
  | (k', v') :: l => by
    unfold mput
    split
    · simp [mget]
    · rename_i h; rw [mget, if_neg h]; exact mget_put_same k v l
theorem mget_put_other {k k2 : κ} (v : ν) (h : k2 ≠ k) : ∀ l : List (κ × ν), mget k2 (mput k v l) = mget k2 l
  | [] => by simp [mput, mget, h]
  | (k', v') :: l => by
    unfold mput
    split
    · rename_i e; subst e; simp [mget, h]
    · simp only [mget]; rw [mget_put_other v h l]
theorem mget_put (k k2 : κ) (v : ν) (l : List (κ × ν)) : mget k2 (mput k v l) = if k2 = k then some v else mget k2 l := by
  split
  · rename_i h; subst h; exact mget_put_same _ _ _
  · rename_i h; exact mget_put_other v h l
theorem mem_keys_mput (k k2 : κ) (v : ν) : ∀ l : List (κ × ν), k2 ∈ (mput k v l).map (·.1) ↔ k2 = k ∨ k2 ∈ l.map (·.1)
  | [] => by simp [mput]
  | (k', v') :: l => by
    unfold mput
    split
    · rename_i e; subst e; simp
    · simp only [List.map_cons, List.mem_cons, mem_keys_mput k k2 v l]
      constructor
      · rintro (h | h | h) <;> simp [h]
      · rintro (h | h | h) <;> simp [h]
theorem nodup_mput (k : κ) (v : ν) : ∀ l : List (κ × ν), (l.map (·.1)).Nodup → ((mput k v l).map (·.1)).Nodup
  | [], _ => by simp [mput]
  | (k', v') :: l, h => by
    simp only [List.map_cons, List.nodup_cons] at h
    unfold mput
    split
    · rename_i e; subst e; simpa using h
    · rename_i e
      simp only [List.map_cons, List.nodup_cons]
      refine ⟨fun hm => ?_, nodup_mput k v l h.2⟩
      rcases (mem_keys_mput k k' v l).1 hm with h1 | h1
      · exact e h1.symm
      · exact h.1 h1
theorem mget_none_iff (k : κ) : ∀ l : List (κ × ν), mget k l = none ↔ k ∉ l.map (·.1)
  | [] => by simp [mget]
  | (k', v') :: l => by
    simp only [mget, List.map_cons, List.mem_cons, not_or]
    split
    · rename_i e; simp [e]
    · rename_i e; rw [mget_none_iff k l]; simp [e]
theorem mem_keys_mdel {k k2 : κ} : ∀ {l : List (κ × ν)}, k2 ∈ (mdel k l).map (·.1) → k2 ∈ l.map (·.1)
  | (k', v') :: l, h => by
    unfold mdel at h
    split at h
    · exact List.mem_cons_of_mem _ h
    · simp only [List.map_cons, List.mem_cons] at h ⊢
      rcases h with h | h
      · exact .inl h
      · exact .inr (mem_keys_mdel h)
theorem nodup_mdel (k : κ) : ∀ l : List (κ × ν), (l.map (·.1)).Nodup → ((mdel k l).map (·.1)).Nodup
  | [], _ => by simp [mdel]
  | (k', v') :: l, h => by
    simp only [List.map_cons, List.nodup_cons] at h
    unfold mdel
    split
    · exact h.2
    · simp only [List.map_cons, List.nodup_cons]
      exact ⟨fun hm => h.1 (mem_keys_mdel hm), nodup_mdel k l h.2⟩
theorem mget_del (k k2 : κ) : ∀ l : List (κ × ν), (l.map (·.1)).Nodup → mget k2 (mdel k l) = if k2 = k then none else mget k2 l
  | [], _ => by simp [mdel, mget]
  | (k', v') :: l, h => by
    simp only [List.map_cons, List.nodup_cons] at h
    unfold mdel
    split
    · rename_i e
      subst e
      split
      · rename_i e2; subst e2; exact (mget_none_iff _ _).2 h.1
      · rename_i e2; rw [mget, if_neg e2]
    · rename_i e
      simp only [mget]
      rw [mget_del k k2 l h.2]
      by_cases e2 : k2 = k
      · subst e2; rw [if_neg e, if_pos rfl, if_pos rfl]
      · rw [if_neg e2, if_neg e2]
end

theorem bytes_beq (a b : ByteArray) : (a == b) = decide (a = b) := by
  by_cases h : a = b
  · subst h; simp only [decide_true]
    show (a.data == a.data) = true
    simp
  · simp only [h, decide_false]
    show (a.data == b.data) = false
    rw [beq_eq_false_iff_ne]
    intro e
    apply h
    cases a; cases b; simp_all

/-- Keys of a type, as Lean's values: how they are found. -/
structure KeyOk (P : Program) (T : TypeId) {κ : Type} [DecidableEq κ] (enc : κ → Value) : Prop where
  inj : ∀ a b, enc a = enc b → a = b
  check : ∀ b k w, (Instr.checkKey b 10000 T (enc k)).run P w = .ok () w
  find : ∀ (k : κ) (l : List (κ × Value)) (es : List MapEntry) w, es.map (fun e => (e.key, e.val)) = l.map (fun p => (enc p.1, p.2)) → (Instr.findKey T (enc k) es).run P w = .ok (findIx k l) w
  stays : ∀ k w, (Instr.keyThatStays (enc k) (enc k)).run P w = .ok (enc k) w

/-- Block b is a map of just these entries. -/
def MapOf {κ : Type} (w : World) (b : Nat) (enc : κ → Value) (l : List (κ × Value)) : Prop :=
  ∃ es clock, w.heap[b]? = some (.map es clock) ∧ es.toList.map (fun e => (e.key, e.val)) = l.map (fun p => (enc p.1, p.2)) ∧ (l.map (·.1)).Nodup ∧
    (∀ e ∈ es, e.born < clock) ∧ (es.toList.map (·.born)).Nodup

theorem findNow_eq {κ : Type} [DecidableEq κ] (kind : TypeDesc) (enc : κ → Value) (hsame : ∀ a b, Instr.sameNow kind (enc a) (enc b) = some (decide (a = b))) (k : κ) : ∀ (l : List (κ × Value)) (es : List MapEntry) (i : Nat),
    es.map (fun e => (e.key, e.val)) = l.map (fun p => (enc p.1, p.2)) → Instr.findNow kind (enc k) es i = some ((findIx k l).map fun x => (x.1 + i, x.2))
  | [], [], i, _ => rfl
  | [], _ :: _, _, h => by cases h
  | _ :: _, [], _, h => by cases h
  | (k', v) :: l, e :: es, i, h => by
    simp only [List.map_cons, List.cons.injEq, Prod.mk.injEq] at h
    obtain ⟨⟨h1, h2⟩, h3⟩ := h
    unfold Instr.findNow
    rw [h1, hsame]
    by_cases hk : k = k'
    · simp [hk, findIx, h2]
    · simp only [hk, decide_false]
      rw [findNow_eq kind enc hsame k l es (i + 1) h3]
      simp only [findIx, if_neg hk, Option.map_map, Option.some.injEq]
      congr 1
      funext x
      simp only [Function.comp, Prod.mk.injEq, and_true]
      omega

theorem KeyOk.string {P : Program} {T : TypeId} (hT : P.underlying T = some .string) : KeyOk P T (κ := ByteArray) Value.string where
  inj a b h := by injection h
  check b k w := by
    unfold Instr.checkKey
    simp [run_underlying hT]
  find k l es w h := by
    unfold Instr.findKey
    simp only [Sem.run_bind, run_underlying hT, Result.andThen_ok]
    rw [findNow_eq .string Value.string (fun a b => by simp [Instr.sameNow, bytes_beq]) k l es 0 h]
    simp
  stays k w := by
    unfold Instr.keyThatStays
    simp [Instr.sameBits, bytes_beq]

theorem KeyOk.int {P : Program} {T : TypeId} {q : IntKind} (hT : P.underlying T = some (.int q)) : KeyOk P T (κ := Int) (Value.int q) where
  inj a b h := by injection h
  check b k w := by
    unfold Instr.checkKey
    simp [run_underlying hT]
  find k l es w h := by
    unfold Instr.findKey
    simp only [Sem.run_bind, run_underlying hT, Result.andThen_ok]
    rw [findNow_eq (.int q) (Value.int q) (fun a b => by simp [Instr.sameNow]; rfl) k l es 0 h]
    simp
  stays k w := by
    unfold Instr.keyThatStays
    simp [Instr.sameBits]

set_option linter.unusedSectionVars false
section
variable {P : Program} {T K E : TypeId} {κ : Type} [DecidableEq κ] {enc : κ → Value} {w w' : World} {b : Nat} {l : List (κ × Value)}

theorem findIx_get (k : κ) : ∀ l : List (κ × Value), (findIx k l).map (·.2) = mget k l
  | [] => rfl
  | (k', v) :: l => by
    unfold findIx mget
    split
    · rfl
    · rw [← findIx_get k l, Option.map_map]; rfl

theorem MapOf.lt (h : MapOf w b enc l) : b < w.heap.size := by
  obtain ⟨es, clock, hb, _⟩ := h
  exact (Array.getElem?_eq_some_iff.1 hb).1
theorem MapOf.kept {S : Nat → Prop} (h : MapOf w b enc l) (hk : Kp S w w') (hs : ¬ S b) : MapOf w' b enc l := by
  have hlt := h.lt
  obtain ⟨es, clock, hb, h2⟩ := h
  exact ⟨es, clock, (hk.block b hlt hs).trans hb, h2⟩
theorem MapOf.made (w : World) : MapOf (w.alloc (.map #[] 0)) w.heap.size enc [] :=
  ⟨#[], 0, by show (w.heap.push _)[w.heap.size]? = _; simp, by simp, by simp, by simp, by simp⟩

/-- m[k] -/
theorem MapOf.look (hK : KeyOk P K enc) (ht : P.underlying T = some (.map K E)) (h : MapOf w b enc l) (k : κ) {z : Value} (hz : (zeroValue E).run P w = .ok z w) :
    (Instr.lookup T (.map (some b)) (enc k) false).run P w = .ok ((mget k l).getD z) w := by
  obtain ⟨es, clock, hb, h1, _⟩ := h
  unfold Instr.lookup
  simp only [Sem.run_bind, run_underlying ht, Result.andThen_ok]
  have hg : (getObj b).run P w = .ok (.map es clock) w := by show (Sem.getObj b Sem.pure).run P w = _; simp [Sem.run, hb]
  have hf := hK.find k l es.toList w h1
  rw [← findIx_get]
  cases hx : findIx k l with
  | none => rw [hx] at hf; simp [hg, hK.check, hf, hz]
  | some x => rw [hx] at hf; simp [hg, hK.check, hf]
/-- v, ok := m[k] -/
theorem MapOf.look_ok (hK : KeyOk P K enc) (ht : P.underlying T = some (.map K E)) (h : MapOf w b enc l) (k : κ) {z : Value} (hz : (zeroValue E).run P w = .ok z w) :
    (Instr.lookup T (.map (some b)) (enc k) true).run P w = .ok (.tuple #[(mget k l).getD z, .bool (mget k l).isSome]) w := by
  obtain ⟨es, clock, hb, h1, _⟩ := h
  unfold Instr.lookup
  simp only [Sem.run_bind, run_underlying ht, Result.andThen_ok]
  have hg : (getObj b).run P w = .ok (.map es clock) w := by show (Sem.getObj b Sem.pure).run P w = _; simp [Sem.run, hb]
  have hf := hK.find k l es.toList w h1
  rw [← findIx_get]
  cases hx : findIx k l with
  | none => rw [hx] at hf; simp [hg, hK.check, hf, hz]
  | some x => rw [hx] at hf; simp [hg, hK.check, hf]
theorem map_eraseIdx {α β : Type} (f : α → β) : ∀ (l : List α) (i : Nat), (l.eraseIdx i).map f = (l.map f).eraseIdx i
  | [], _ => rfl
  | _ :: _, 0 => rfl
  | x :: l, i + 1 => by simp [map_eraseIdx f l i]
theorem mput_of_some {k : κ} {v : Value} : ∀ {l : List (κ × Value)} {i : Nat} {v0 : Value}, findIx k l = some (i, v0) → mput k v l = l.modify i (fun _ => (k, v)) ∧ (l[i]?).map (·.1) = some k
  | [], _, _, h => by cases h
  | (k', v') :: l, i, v0, h => by
    unfold findIx at h
    unfold mput
    split at h
    · rename_i e
      subst e
      simp only [Option.some.injEq, Prod.mk.injEq] at h
      obtain ⟨rfl, _⟩ := h
      simp
    · rename_i e
      rw [if_neg e]
      cases hf : findIx k l with
      | none => rw [hf] at h; cases h
      | some x =>
        rw [hf] at h
        simp only [Option.map_some, Option.some.injEq, Prod.mk.injEq] at h
        obtain ⟨rfl, _⟩ := h
        obtain ⟨h1, h2⟩ := mput_of_some (v := v) (i := x.1) (v0 := x.2) hf
        rw [h1]
        simp [h2]
theorem mput_of_none {k : κ} {v : Value} : ∀ {l : List (κ × Value)}, findIx k l = none → mput k v l = l ++ [(k, v)]
  | [], _ => rfl
  | (k', v') :: l, h => by
    unfold findIx at h
    unfold mput
    split at h
    · cases h
    · rename_i e
      rw [if_neg e]
      cases hf : findIx k l with
      | none => rw [mput_of_none hf]; rfl
      | some x => rw [hf] at h; cases h
theorem mdel_of_some {k : κ} : ∀ {l : List (κ × Value)} {i : Nat} {v0 : Value}, findIx k l = some (i, v0) → mdel k l = l.eraseIdx i
  | [], _, _, h => by cases h
  | (k', v') :: l, i, v0, h => by
    unfold findIx at h
    unfold mdel
    split at h
    · rename_i e
      subst e
      simp only [Option.some.injEq, Prod.mk.injEq] at h
      obtain ⟨rfl, _⟩ := h
      simp
    · rename_i e
      rw [if_neg e]
      cases hf : findIx k l with
      | none => rw [hf] at h; cases h
      | some x =>
        rw [hf] at h
        simp only [Option.map_some, Option.some.injEq, Prod.mk.injEq] at h
        obtain ⟨rfl, _⟩ := h
        rw [mdel_of_some (i := x.1) (v0 := x.2) hf]
        rfl
theorem mdel_of_none {k : κ} : ∀ {l : List (κ × Value)}, findIx k l = none → mdel k l = l
  | [], _ => rfl
  | (k', v') :: l, h => by
    unfold findIx at h
    unfold mdel
    split at h
    · cases h
    · rename_i e
      rw [if_neg e]
      cases hf : findIx k l with
      | none => rw [mdel_of_none hf]
      | some x => rw [hf] at h; cases h

/-- a map's block written anew -/
def setMap (w : World) (b : Nat) (o : Obj) : World := { w with heap := w.heap.setIfInBounds b o }
theorem setMap_at {o : Obj} (hb : b < w.heap.size) : (setMap w b o).heap[b]? = some o := by
  show (w.heap.setIfInBounds b o)[b]? = _
  simp [hb]
theorem setMap_kp (w : World) (b : Nat) (o : Obj) : Kp (· = b) w (setMap w b o) :=
  ⟨rfl, rfl, by show w.heap.size ≤ (w.heap.setIfInBounds b o).size; simp, fun k _ hn => by
    show (w.heap.setIfInBounds b o)[k]? = _
    rw [Array.getElem?_setIfInBounds_ne (fun e => hn e.symm)]⟩
theorem run_setObj {es : Array MapEntry} {clock : Nat} {o : Obj} (hb : w.heap[b]? = some (.map es clock)) : (setObj b o).run P w = .ok () (setMap w b o) := by
  show (Sem.setObj b o (Sem.pure ())).run P w = _
  simp [Sem.run, hb, setMap]

/-- m[k] = v -/
theorem MapOf.update (hK : KeyOk P K enc) (ht : P.underlying T = some (.map K E)) (h : MapOf w b enc l) (k : κ) (v : Value) :
    ∃ w', (Instr.mapUpdate T (.map (some b)) (enc k) v).run P w = .ok () w' ∧ MapOf w' b enc (mput k v l) ∧ Kp (· = b) w w' := by
  have hlt := h.lt
  obtain ⟨es, clock, hb, h1, h2, h3, h4⟩ := h
  have hg : (getObj b).run P w = .ok (.map es clock) w := by show (Sem.getObj b Sem.pure).run P w = _; simp [Sem.run, hb]
  have hf := hK.find k l es.toList w h1
  cases hx : findIx k l with
  | none =>
    rw [hx] at hf
    refine ⟨setMap w b (.map (es.push { key := enc k, val := v, born := clock }) (clock + 1)), ?_, ⟨_, _, setMap_at hlt, ?_, nodup_mput k v l h2, ?_, ?_⟩, setMap_kp _ _ _⟩
    · unfold Instr.mapUpdate
      simp [run_underlying ht, hg, hK.check, hf, run_setObj hb]
    · rw [mput_of_none hx]
      simp [h1]
    · intro e he
      rcases Array.mem_push.1 he with he | rfl
      · have := h3 e he; omega
      · simp
    · rw [Array.toList_push, List.map_append, List.nodup_append]
      refine ⟨h4, by simp, ?_⟩
      intro a ha c hc
      simp only [List.map_cons, List.map_nil, List.mem_cons, List.not_mem_nil, or_false] at hc
      obtain ⟨e, he, rfl⟩ := List.mem_map.1 ha
      have := h3 e (by simpa using he)
      omega
  | some x =>
    obtain ⟨i, v0⟩ := x
    rw [hx] at hf
    obtain ⟨h5, h6⟩ := mput_of_some (v := v) hx
    have hkey : (es[i]?).map (·.key) = some (enc k) := by
      have := congrArg (fun (l : List (Value × Value)) => (l[i]?).map (·.1)) h1
      simp only [List.getElem?_map, Option.map_map, Array.getElem?_toList] at this
      cases hi : l[i]? with
      | none => rw [hi] at h6; cases h6
      | some p =>
        rw [hi] at h6 this
        simp only [Option.map_some, Option.some.injEq] at h6
        rw [← h6]
        cases he : es[i]? with
        | none => rw [he] at this; cases this
        | some e => rw [he] at this; simpa using this
    refine ⟨setMap w b (.map (es.modify i fun e => { e with key := enc k, val := v }) clock), ?_, ⟨_, _, setMap_at hlt, ?_, nodup_mput k v l h2, ?_, ?_⟩, setMap_kp _ _ _⟩
    · unfold Instr.mapUpdate
      simp [run_underlying ht, hg, hK.check, hf, run_setObj hb, hkey, hK.stays]
    · rw [h5]
      apply List.ext_getElem?
      intro j
      have hj := congrArg (fun (l : List (Value × Value)) => l[j]?) h1
      simp only [List.getElem?_map, Array.getElem?_toList] at hj
      simp only [List.getElem?_map, Array.getElem?_toList, Array.getElem?_modify, List.getElem?_modify]
      by_cases hij : i = j
      · subst hij
        cases he : es[i]? <;> cases hl : l[i]? <;> simp_all
      · simp only [hij, ↓reduceIte]
        cases he : es[j]? <;> cases hl : l[j]? <;> simp_all
    · intro e he
      obtain ⟨j, hj⟩ := Array.mem_iff_getElem?.1 he
      rw [Array.getElem?_modify] at hj
      by_cases hij : i = j
      · subst hij
        simp only [if_true] at hj
        cases he0 : es[i]? with
        | none => rw [he0] at hj; cases hj
        | some e0 =>
          rw [he0] at hj
          simp only [Option.map_some, Option.some.injEq] at hj
          subst hj
          exact h3 e0 (Array.mem_of_getElem? he0)
      · simp only [hij, if_false] at hj
        exact h3 e (Array.mem_of_getElem? hj)
    · have : (es.modify i fun e => { e with key := enc k, val := v }).toList.map (·.born) = es.toList.map (·.born) := by
        apply List.ext_getElem?
        intro j
        simp only [List.getElem?_map, Array.getElem?_toList, Array.getElem?_modify]
        by_cases hij : i = j
        · subst hij; cases es[i]? <;> simp
        · simp [hij]
      rw [this]; exact h4

/-- delete(m, k) -/
theorem MapOf.delete (hK : KeyOk P K enc) (ht : P.underlying T = some (.map K E)) (h : MapOf w b enc l) (k : κ) (tk ty : TypeId) :
    ∃ w', (Builtin.delete_ #[T, tk] ty #[.map (some b), enc k]).run P w = .ok (.tuple #[]) w' ∧ MapOf w' b enc (mdel k l) ∧ Kp (· = b) w w' := by
  have hlt := h.lt
  obtain ⟨es, clock, hb, h1, h2, h3, h4⟩ := h
  have hg : (getObj b).run P w = .ok (.map es clock) w := by show (Sem.getObj b Sem.pure).run P w = _; simp [Sem.run, hb]
  have hf := hK.find k l es.toList w h1
  cases hx : findIx k l with
  | none =>
    rw [hx] at hf
    refine ⟨setMap w b (.map es clock), ?_, ⟨es, clock, setMap_at hlt, ?_, nodup_mdel k l h2, h3, h4⟩, setMap_kp _ _ _⟩
    · unfold Builtin.delete_
      simp [run_underlying ht, hg, hK.check, hf, run_setObj hb]
    · rw [mdel_of_none hx]; exact h1
  | some x =>
    obtain ⟨i, v0⟩ := x
    rw [hx] at hf
    have hlen : es.size = l.length := by have := congrArg List.length h1; simpa using this
    have hil : i < es.size := by
      obtain ⟨_, h6⟩ := mput_of_some (v := v0) hx
      rw [hlen]
      rcases Nat.lt_or_ge i l.length with h | h
      · exact h
      · rw [List.getElem?_eq_none h] at h6; cases h6
    have htl : (es.eraseIdxIfInBounds i).toList = es.toList.eraseIdx i := by
      simp [Array.eraseIdxIfInBounds, hil]
    refine ⟨setMap w b (.map (es.eraseIdxIfInBounds i) clock), ?_, ⟨_, _, setMap_at hlt, ?_, nodup_mdel k l h2, ?_, ?_⟩, setMap_kp _ _ _⟩
    · unfold Builtin.delete_
      simp [run_underlying ht, hg, hK.check, hf, run_setObj hb]
    · rw [mdel_of_some hx, htl, map_eraseIdx, map_eraseIdx, h1]
    · intro e he
      have : e ∈ es.toList.eraseIdx i := by rw [← htl]; exact Array.mem_toList_iff.2 he
      exact h3 e (Array.mem_toList_iff.1 (List.mem_of_mem_eraseIdx this))
    · rw [htl, map_eraseIdx]
      exact h4.sublist (List.eraseIdx_sublist _ _)

/-- len(m) -/
theorem MapOf.len (h : MapOf w b enc l) : ∃ es clock, w.heap[b]? = some (.map es clock) ∧ es.size = l.length := by
  obtain ⟨es, clock, hb, h1, _⟩ := h
  exact ⟨es, clock, hb, by have := congrArg List.length h1; simpa using this⟩
end
end

section
open Go.RowKit Go.ChangeShapes Go.WideShapes Go.ChangeAt

abbrev W := BitVec 32
/-- A word's number. -/
def un (x : W) : Int := (x.toNat : Int)
/-- A word's value. -/
def uv (x : W) : Value := .int .u32 (un x)
theorem un_nat (x : W) : un x = (x.toNat : Int) := rfl
theorem un_lt (x : W) : x.toNat < 4294967296 := x.isLt
theorem un_lo (x : W) : 0 ≤ un x := by unfold un; omega
theorem un_hi (x : W) : un x < 4294967296 := by have := un_lt x; unfold un; omega
theorem un_wrap (x : W) : IntKind.u32.wrap (un x) = un x := by
  have := un_lo x; have := un_hi x
  simp [IntKind.wrap, IntKind.signed, IntKind.bits]; omega
theorem un_add (x y : W) : IntKind.u32.wrap (un x + un y) = un (x + y) := by
  have h1 := un_lt x; have h2 := un_lt y
  rw [un_nat (x + y), BitVec.toNat_add]
  simp [IntKind.wrap, IntKind.signed, IntKind.bits, un]
theorem un_xor (x y : W) : bits .xor .u32 (un x) (un y) = un (x ^^^ y) := by
  rw [un_nat, un_nat, un_nat, BitVec.toNat_xor]; exact u32_xor_nat _ _ (un_lt x) (un_lt y)
theorem un_and (x y : W) : bits .and .u32 (un x) (un y) = un (x &&& y) := by
  rw [un_nat, un_nat, un_nat, BitVec.toNat_and]; exact u32_and_nat _ _ (un_lt x) (un_lt y)
theorem un_or (x y : W) : bits .or .u32 (un x) (un y) = un (x ||| y) := by
  rw [un_nat, un_nat, un_nat, BitVec.toNat_or]; exact u32_or_nat _ _ (un_lt x) (un_lt y)
theorem un_shr (x : W) (k : Nat) : un x / (2 ^ k : Nat) = un (x >>> k) := by
  rw [un_nat, un_nat, BitVec.toNat_ushiftRight, Nat.shiftRight_eq_div_pow]; exact (Int.natCast_ediv _ _).symm
theorem un_shl (x : W) (k : Nat) : IntKind.u32.wrap (un x * (2 ^ k : Nat)) = un (x <<< k) := by
  rw [un_nat (x <<< k), BitVec.toNat_shiftLeft, Nat.shiftLeft_eq]
  simp [IntKind.wrap, IntKind.signed, IntKind.bits, un]
theorem un_lit (n : Nat) (h : n < 4294967296) : un (BitVec.ofNat 32 n) = (n : Int) := by
  rw [un_nat, BitVec.toNat_ofNat, Nat.mod_eq_of_lt h]
/-- A word turned to the right. -/
def rotr (x : W) (r : Nat) : W := (x >>> r) ||| (x <<< (32 - r))

/-- A block of values. -/
def Blk (w : World) (g : Nat) (e : TypeId) (vs : List Value) : Prop := w.heap[g]? = some (.cells vs.toArray e (0, 0))
namespace Blk
variable {w w' : World} {g : Nat} {e : TypeId} {vs : List Value}
theorem lt (h : Blk w g e vs) : g < w.heap.size := by
  rcases Nat.lt_or_ge g w.heap.size with hlt | hge
  · exact hlt
  · have := h; unfold Blk at this; rw [Array.getElem?_eq_none hge] at this; cases this
theorem cell (h : Blk w g e vs) {i : Nat} {u : Value} (hi : vs[i]? = some u) : w.cell? ⟨g, i, none⟩ = some u := by
  have h' : w.heap[g]? = some (.cells vs.toArray e (0, 0)) := h
  simp [World.cell?, h', hi]
theorem fr (h : Blk w g e vs) (i : Nat) : w.frozen? ⟨g, i, none⟩ = false := by
  have h' : w.heap[g]? = some (.cells vs.toArray e (0, 0)) := h
  simp [World.frozen?, h']
theorem kept {S : Nat → Prop} (h : Blk w g e vs) (hk : Kp S w w') (hs : ¬ S g) : Blk w' g e vs := (hk.block g h.lt hs).trans h
theorem drew (h : Blk w g e vs) : Blk w.drew g e vs := h
theorem set (h : Blk w g e vs) (i : Nat) (u : Value) : Blk (w.setCell ⟨g, i, none⟩ u) g e (vs.set i u) := by
  have h' : w.heap[g]? = some (.cells vs.toArray e (0, 0)) := h
  unfold Blk
  simp [World.setCell, Array.getElem?_modify, h']
theorem new (w : World) (vs : List Value) (e : TypeId) : Blk (w.alloc (.cells vs.toArray e)) w.heap.size e vs := heap_alloc_new w _
end Blk
end
end Go.Proofs.YtflodiljgphkdaaGreat
