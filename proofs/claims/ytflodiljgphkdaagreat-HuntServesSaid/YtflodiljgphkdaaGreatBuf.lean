/-
  Bytes that somebody keeps in a slice: their reading, with the block that they take; a text appended, a copy, a cut, a byte turned.
-/
import Derived.Test.YtflodiljgphkdaaGreatM1
namespace Go.Proofs.YtflodiljgphkdaaGreat
open Go.RowKit Go.ChangeShapes Go.WideShapes Go.ChangeAt

/-- the block that a slice takes: none, if it has no room -/
def vblk : Value → Option Nat
  | .slice (some a) _ c => if c = 0 then none else some a.block
  | _ => none
/-- The slice v holds just these bytes, in a block of its own. -/
def Buf (w : World) (e : TypeId) (v : Value) (l : List UInt8) : Prop :=
  (l = [] ∧ ∃ A, v = .slice A 0 0) ∨
  ∃ g cap cur, v = .slice (some ⟨g, 0, none⟩) l.length cap ∧ w.heap[g]? = some (.cells cur e (0, 0)) ∧ l.length ≤ cap ∧ cap = cur.size ∧ cap ≤ maxLen ∧ 0 < cap ∧ cur.toList.take l.length = l.map byteOf

theorem vblk_zero (A : Option Addr) (n : Nat) : vblk (.slice A n 0) = none := by cases A <;> rfl
theorem vblk_some {g o n c : Nat} (h : 0 < c) : vblk (.slice (some ⟨g, o, none⟩) n c) = some g := by
  show (if c = 0 then none else some g) = some g
  rw [if_neg (by omega)]

namespace Buf
variable {P : Program} {w w' : World} {e : TypeId} {v : Value} {l : List UInt8}
theorem nil (w : World) (e : TypeId) : Buf w e (.slice none 0 0) [] := .inl ⟨rfl, none, rfl⟩
theorem shape (h : Buf w e v l) : ∃ A c, v = .slice A l.length c ∧ l.length ≤ c ∧ c ≤ maxLen := by
  rcases h with ⟨rfl, A, rfl⟩ | ⟨g, cap, cur, rfl, _, h, _, h2, _⟩
  · exact ⟨A, 0, rfl, Nat.le_refl _, Nat.zero_le _⟩
  · exact ⟨_, _, rfl, h, h2⟩
theorem lt (h : Buf w e v l) : ∀ k, vblk v = some k → k < w.heap.size := by
  intro k hk
  rcases h with ⟨rfl, A, rfl⟩ | ⟨g, cap, cur, rfl, hg, _, _, _, hc, _⟩
  · rw [vblk_zero] at hk; cases hk
  · rw [vblk_some hc] at hk; injection hk with hk; subst hk
    exact (Array.getElem?_eq_some_iff.1 hg).1
theorem block (h : Buf w e v l) {g : Nat} (hg : vblk v = some g) : ∃ cs, w.heap[g]? = some (.cells cs e (0, 0)) := by
  rcases h with ⟨rfl, A, rfl⟩ | ⟨g', cap, cur, rfl, hh, _, _, _, hc, _⟩
  · rw [vblk_zero] at hg; cases hg
  · rw [vblk_some hc] at hg; injection hg with hg; subst hg
    exact ⟨cur, hh⟩
/-- it lies in no block of another type -/
theorem ne_blk (h : Buf w e v l) {g : Nat} {e' : TypeId} {cs : Array Value} (hb : w.heap[g]? = some (.cells cs e' (0, 0))) (hne : e ≠ e') : vblk v ≠ some g := by
  intro hg
  obtain ⟨cs', h2⟩ := h.block hg
  rw [hb] at h2
  injection h2 with h2
  injection h2 with _ h2
  exact hne h2.symm
theorem keep (h : Buf w e v l) (hk : ∀ k, vblk v = some k → w'.heap[k]? = w.heap[k]?) : Buf w' e v l := by
  rcases h with ⟨hl, A, rfl⟩ | ⟨g, cap, cur, rfl, hg, h1, h2, h3, hc, h4⟩
  · exact .inl ⟨hl, A, rfl⟩
  · exact .inr ⟨g, cap, cur, rfl, (hk g (vblk_some hc)).trans hg, h1, h2, h3, hc, h4⟩
theorem kept {T : Nat → Prop} (h : Buf w e v l) (hk : Kp T w w') (hv : ∀ k, vblk v = some k → ¬ T k) : Buf w' e v l := h.keep fun k hk' => hk.block k (h.lt k hk') (hv k hk')
theorem keptNo (h : Buf w e v l) (hk : Kp No w w') : Buf w' e v l := h.kept hk fun _ _ x => x
theorem made (w : World) (e : TypeId) (l : List UInt8) (cells : Array Value) (cap : Nat) (hl : l.length ≤ cap) (hc : cap ≤ maxLen) (h0 : 0 < cap) (hcs : cells.size = cap) (ht : cells.toList.take l.length = l.map byteOf) :
    Buf (w.drew.alloc (.cells cells e)) e (.slice (some ⟨w.heap.size, 0, none⟩) l.length cap) l :=
  .inr ⟨w.heap.size, cap, cells, rfl, heap_alloc_new w.drew _, hl, hcs.symm, hc, h0, ht⟩

/-- what append does with a text -/
theorem append (w : World) (t u ty e : TypeId) (hb : Bytely P t u e) {v : Value} {l : List UInt8} (h : Buf w e v l) (s : ByteArray) (hlen : l.length + s.size ≤ 140737488355328) :
    ∃ v' w', (Builtin.append_ #[t, u] ty #[v, .string s]).run P w = .ok v' w' ∧ Buf w' e v' (l ++ s.data.toList) ∧ Kp (fun k => vblk v = some k) w w' ∧ (∀ k, vblk v' = some k → vblk v = some k ∨ w.heap.size ≤ k) := by
  have hb' := hb
  obtain ⟨ht, hu, _, i, hi, hz, hs1, hby⟩ := hb'
  have hcap : ∀ need old, need ≤ 140737488355328 → grownCap w need old e ≤ maxLen := fun need old hn => grownCap_le_maxLen w need old e (by simp [maxLen]; omega)
  have hz1 : (Value.int IntKind.u8 0).cells.size = 1 := rfl
  have hnew : ∀ o, Kp (fun k => vblk v = some k) w (w.drew.alloc o) := fun o => ((Kp.refl _ w).drew).alloc o
  rcases h with ⟨rfl, A, rfl⟩ | ⟨g, cap, cur, rfl, hg, hlc, hoc, hcm, hc0, htk⟩
  · simp only [List.length_nil, Nat.zero_add] at hlen
    simp only [List.nil_append]
    by_cases hm : s.size = 0
    · have hd : s.data.toList = [] := List.eq_nil_of_length_eq_zero hm
      have hf := Lib.run_firstCells_string (P := P) w 1 s
      rw [hm] at hf
      have hsc : Lib.strCells s = [] := by rw [← map_byteOf, hd]; rfl
      rw [hsc] at hf
      rw [hd]
      refine ⟨.slice A 0 0, w, ?_, .inl ⟨rfl, A, rfl⟩, Kp.refl _ _, fun k hk => .inl hk⟩
      cases A with
      | none => simp [Builtin.append_, run_underlying ht, run_underlying hu, sizeOf, typeInfo, hi, hs1, Builtin.lenOf, hm, hf]
      | some a => simp [Builtin.append_, run_underlying ht, run_underlying hu, sizeOf, typeInfo, hi, hs1, Builtin.lenOf, hm, hf, storeCells, Sem.run_pure]
    · have hge := grownCap_ge w s.size 0 e
      have hcells : ∀ c, c = ((Lib.strCells s).toArray ++ Builtin.zeroCells (Value.int .u8 0).cells (grownCap w s.size 0 e - s.size)) → Buf (w.drew.alloc (.cells c e)) e (.slice (some ⟨w.heap.size, 0, none⟩) s.size (grownCap w s.size 0 e)) s.data.toList := by
        rintro c rfl
        refine Buf.made w e s.data.toList _ _ hge (hcap _ _ hlen) (by omega) ?_ ?_
        · simp only [Array.size_append, List.size_toArray, size_zeroCells, hz1, Lib.strCells_length]; omega
        · rw [map_byteOf]
          simp only [Array.toList_append]
          exact List.take_left' (by rw [Lib.strCells_length]; rfl)
      have hnb : ∀ k, vblk (.slice (some ⟨w.heap.size, 0, none⟩) s.size (grownCap w s.size 0 e)) = some k → vblk (Value.slice A 0 0) = some k ∨ w.heap.size ≤ k := fun k hk => by
        rw [vblk_some (by omega)] at hk; injection hk with hk; right; omega
      cases A with
      | none =>
        have hr := run_append_nil_string (P := P) w t u ty e i (.int .u8 0) ht hu hi hz s (by omega) (by omega) (by rw [hby]; omega)
        exact ⟨_, _, hr, hcells _ (by congr 1; apply Array.ext'; simp [Lib.strCells]), hnew _, hnb⟩
      | some a =>
        have hr := Lib.run_append_grow_string (P := P) w t u ty e i (.int .u8 0) ht hu hi hz a 0 0 [] (by simp) (by simp) s (by omega) (by omega) (by rw [hby]; exact growslice_fits (by omega) (by omega))
        simp only [Nat.zero_add, Array.empty_append] at hr
        exact ⟨_, _, hr, hcells _ (by simp), hnew _, hnb⟩
  · have hlen2 : (l ++ s.data.toList).length = l.length + s.size := by rw [List.length_append, data_length]
    by_cases hroom : l.length + s.size ≤ cap
    · have hr := room_text_at (P := P) w t u ty e hb g 0 l.length cap cur hg s hroom (by omega)
      refine ⟨_, _, hr, .inr ⟨g, cap, _, by rw [hlen2], setRow_heap w g cur _ e _ hg, by rw [hlen2]; exact hroom, ?_, hcm, hc0, ?_⟩, ?_, fun k hk => .inl ?_⟩
      · simp only [List.size_toArray, List.length_append, List.length_take, List.length_drop, Array.length_toList, Lib.strCells_length]; omega
      · rw [hlen2, List.map_append, map_byteOf, ← htk]
        show ((cur.toList.take (0 + l.length) ++ Lib.strCells s ++ cur.toList.drop (0 + l.length + s.size))).take (l.length + s.size) = _
        rw [Nat.zero_add]
        have hcl : cur.toList.length = cur.size := Array.length_toList ..
        exact List.take_left' (by rw [List.length_append, List.length_take, hcl, Lib.strCells_length]; omega)
      · exact ⟨rfl, rfl, by simp, fun k _ hk => setRow_other w g k _ (fun e => hk (by rw [vblk_some hc0, e]))⟩
      · rw [vblk_some hc0] at hk ⊢; exact hk
    · have holds : ∀ j u, (l.map byteOf)[j]? = some u → w.cell? ((⟨g, 0, none⟩ : Addr).add j) = some u := by
        intro j x hx
        have hj : j < l.length := by have := (List.getElem?_eq_some_iff.1 hx).1; simpa using this
        rw [← htk, List.getElem?_take_of_lt hj] at hx
        rw [Addr.add_lit]
        simp [World.cell?, hg]
        simpa using hx
      have hr := Lib.run_append_grow_string (P := P) w t u ty e i (.int .u8 0) ht hu hi hz ⟨g, 0, none⟩ l.length cap (l.map byteOf) (by rw [hs1]; simp) holds s (by omega) (by omega) (by rw [hby]; exact growslice_fits (by omega) (by omega))
      have hge := grownCap_ge w (l.length + s.size) cap e
      refine ⟨_, _, hr, ?_, hnew _, fun k hk => ?_⟩
      · rw [← hlen2]
        refine Buf.made w e _ _ _ (by rw [hlen2]; exact hge) (by rw [hlen2]; exact hcap _ _ hlen) (by rw [hlen2]; omega) ?_ ?_
        · rw [hlen2]
          simp only [Array.size_append, List.size_toArray, List.length_map, size_zeroCells, hz1, Lib.strCells_length]; omega
        · simp only [Array.toList_append, List.map_append, map_byteOf]
          exact List.take_left' (by rw [List.length_append, List.length_map, Lib.strCells_length, hlen2])
      · rw [vblk_some (by omega)] at hk; injection hk with hk; right; omega

/-- what append makes of a slice without room: a copy in a block of its own -/
theorem copy (w : World) (t u ty e : TypeId) (hb : Bytely P t u e) {A B : Option Addr} {c : Nat} {l : List UInt8} (h : Buf w e (.slice A l.length c) l) (hA : A = none → B = none) (hlen : l.length ≤ 140737488355328) :
    ∃ v' w', (Builtin.append_ #[t, t] ty #[.slice B 0 0, .slice A l.length c]).run P w = .ok v' w' ∧ Buf w' e v' l ∧ Kp No w w' ∧ (∀ k, vblk v' = some k → w.heap.size ≤ k) := by
  obtain ⟨ht, _, _, i, hi, hz, hs1, hby⟩ := hb
  have hcap : ∀ need old, need ≤ 140737488355328 → grownCap w need old e ≤ maxLen := fun need old hn => grownCap_le_maxLen w need old e (by simp [maxLen]; omega)
  have hz1 : (Value.int IntKind.u8 0).cells.size = 1 := rfl
  by_cases hl : l.length = 0
  · have hl' : l = [] := List.eq_nil_of_length_eq_zero hl
    subst hl'
    refine ⟨.slice B 0 0, w, ?_, .inl ⟨rfl, B, rfl⟩, Kp.refl _ _, fun k hk => by rw [vblk_zero] at hk; cases hk⟩
    cases A with
    | none =>
      obtain rfl := hA rfl
      simp [Builtin.append_, run_underlying ht, sizeOf, typeInfo, hi, Builtin.lenOf, Builtin.firstCells]
    | some a =>
      have hf := run_firstCells_some (P := P) w 1 0 a 0 c [] rfl (by simp)
      cases B with
      | none => simp [Builtin.append_, run_underlying ht, sizeOf, typeInfo, hi, hs1, Builtin.lenOf, hf]
      | some b => simp [Builtin.append_, run_underlying ht, sizeOf, typeInfo, hi, hs1, Builtin.lenOf, hf, storeCells, Sem.run_pure]
  · rcases h with ⟨rfl, _⟩ | ⟨g, cap, cur, he, hg, hlc, hoc, hcm, hc0, htk⟩
    · exact absurd rfl hl
    · injection he with e1 _ e3
      subst e1 e3
      have hnews : ∀ j u, (l.map byteOf)[j]? = some u → w.cell? ((⟨g, 0, none⟩ : Addr).add j) = some u := by
        intro j x hx
        have hj : j < l.length := by have := (List.getElem?_eq_some_iff.1 hx).1; simpa using this
        rw [← htk, List.getElem?_take_of_lt hj] at hx
        rw [Addr.add_lit]
        simp [World.cell?, hg]
        simpa using hx
      have hml : (l.map byteOf).length = l.length * i.size := by rw [hs1]; simp
      have hge := grownCap_ge w l.length 0 e
      have hcells : ∀ cs, cs = ((l.map byteOf).toArray ++ Builtin.zeroCells (Value.int .u8 0).cells (grownCap w l.length 0 e - l.length)) → Buf (w.drew.alloc (.cells cs e)) e (.slice (some ⟨w.heap.size, 0, none⟩) l.length (grownCap w l.length 0 e)) l := by
        rintro cs rfl
        refine Buf.made w e l _ _ hge (hcap _ _ hlen) (by omega) ?_ ?_
        · simp only [Array.size_append, List.size_toArray, size_zeroCells, hz1, List.length_map]; omega
        · simp only [Array.toList_append]
          exact List.take_left' (by rw [List.length_map])
      have hnb : ∀ k, vblk (.slice (some ⟨w.heap.size, 0, none⟩) l.length (grownCap w l.length 0 e)) = some k → w.heap.size ≤ k := fun k hk => by
        rw [vblk_some (by omega)] at hk; injection hk with hk; omega
      cases B with
      | none =>
        have hr := run_append_nil (P := P) w t ty e i (.int .u8 0) ht hi hz ⟨g, 0, none⟩ l.length c (l.map byteOf) hml hnews (by omega) (by omega) (by rw [hby]; omega)
        exact ⟨_, _, hr, hcells _ rfl, ((Kp.refl _ w).drew).alloc _, hnb⟩
      | some b0 =>
        have hr := run_append_grow (P := P) w t ty e i (.int .u8 0) ht hi hz b0 0 0 [] (by simp) (by simp) ⟨g, 0, none⟩ l.length c (l.map byteOf) hml hnews (by omega) (by omega) (by rw [hby]; exact growslice_fits (by omega) (by omega))
        simp only [Nat.zero_add, Array.empty_append] at hr
        exact ⟨_, _, hr, hcells _ (by simp), ((Kp.refl _ w).drew).alloc _, hnb⟩

/-- a byte of it -/
theorem cell {A : Option Addr} {n c : Nat} (h : Buf w e (.slice A n c) l) {i : Nat} (hi : i < l.length) : ∃ g, A = some ⟨g, 0, none⟩ ∧ vblk (.slice A n c) = some g ∧ w.cell? ⟨g, i, none⟩ = some (byteOf l[i]) ∧ w.frozen? ⟨g, i, none⟩ = false := by
  rcases h with ⟨rfl, _⟩ | ⟨g, cap, cur, he, hg, _, hoc, _, hc0, htk⟩
  · cases hi
  · injection he with h1 h2 h3
    subst h1 h3
    refine ⟨g, rfl, vblk_some hc0, ?_, ?_⟩
    · have hx : (l.map byteOf)[i]? = some (byteOf l[i]) := by rw [List.getElem?_map, List.getElem?_eq_getElem hi]; rfl
      rw [← htk, List.getElem?_take_of_lt hi] at hx
      simp [World.cell?, hg]
      simpa using hx
    · simp [World.frozen?, hg]
theorem set {g n c : Nat} (h : Buf w e (.slice (some ⟨g, 0, none⟩) n c) l) {i : Nat} (hi : i < l.length) (b : UInt8) : Buf (w.setCell ⟨g, i, none⟩ (byteOf b)) e (.slice (some ⟨g, 0, none⟩) n c) (l.set i b) := by
  rcases h with ⟨rfl, _⟩ | ⟨g', cap, cur, he, hg, hlc, hoc, hcm, hc0, htk⟩
  · cases hi
  · injection he with h1 h2 h3
    injection h1 with h1
    injection h1 with h1
    subst h1 h2 h3
    refine .inr ⟨g, c, cur.setIfInBounds i (byteOf b), by rw [List.length_set], ?_, by rw [List.length_set]; exact hlc, by simpa using hoc, hcm, hc0, ?_⟩
    · simp [World.setCell, Array.getElem?_modify, hg, Array.setIfInBounds_def]
      try omega
    · rw [List.length_set, Array.toList_setIfInBounds, List.take_set, htk, List.map_set]
/-- cut behind -/
theorem head {A : Option Addr} {n c : Nat} (h : Buf w e (.slice A n c) l) {k : Nat} (hk : k ≤ l.length) : Buf w e (.slice A k c) (l.take k) := by
  rcases h with ⟨rfl, A', he⟩ | ⟨g, cap, cur, he, hg, hlc, hoc, hcm, hc0, htk⟩
  · injection he with h1 h2 h3
    subst h1 h3
    have : k = 0 := by simpa using hk
    subst this
    exact .inl ⟨rfl, _, rfl⟩
  · injection he with h1 h2 h3
    subst h1 h3
    have hl : (l.take k).length = k := by rw [List.length_take]; omega
    refine .inr ⟨g, c, cur, by rw [hl], hg, by omega, hoc, hcm, hc0, ?_⟩
    rw [hl, List.map_take, ← htk, List.take_take, Nat.min_eq_left hk]
/-- what text it is -/
theorem text (src u : TypeId) (hb : Bytely P src u e) {A : Option Addr} {n c : Nat} (h : Buf w e (.slice A n c) l) : (convert src u (.slice A n c)).run P w = .ok (.string (bs l)) w := by
  obtain ⟨ht, hu, he, _⟩ := hb
  have hn : n = l.length := by obtain ⟨_, _, h1, _⟩ := h.shape; injection h1
  subst hn
  cases A with
  | none =>
    have hl : l = [] := by
      cases l with
      | nil => rfl
      | cons x r =>
        obtain ⟨g, hg, _⟩ := h.cell (i := 0) (by simp)
        cases hg
    subst hl
    exact run_convert_bytes_nil w src e ht he 0 c u hu
  | some ad =>
    by_cases hl : l = []
    · subst hl
      exact run_convert_bytes_back w src u e ad c [] ht he hu fun j hj => absurd hj (by simp)
    refine run_convert_bytes_back w src u e ad c l ht he hu fun j hj => ?_
    obtain ⟨g, hg, _, hc, _⟩ := h.cell hj
    injection hg with hg
    subst hg
    have e0 : (⟨g, 0, none⟩ : Addr).add j = ⟨g, j, none⟩ := by simp only [Addr.add]; split <;> simp_all
    rw [e0]; exact hc
end Buf
/-- a text appended, in a walk -/
theorem wpList_buf_append {P : Program} {ops : Array Oper} {rest : List Oper} {o : Oper} {a : Act} {Q : Exit → Act → World → Prop} (hgd : o.guard = none) (w : World) (sl x : Operand) (t u : TypeId)
    (ho : o.op = .call { callee := .builtin .append, args := #[sl, x], argTypes := #[t, u] }) (e : TypeId) (hb : Bytely P t u e) (v : Value) (l : List UInt8) (hs : a.eval sl = v) (hown : Buf w e v l) (s : ByteArray) (hx : a.eval x = .string s)
    (hlen : l.length + s.size ≤ 140737488355328)
    (h : ∀ v' w', Buf w' e v' (l ++ s.data.toList) → Kp (fun k => vblk v = some k) w w' → (∀ k, vblk v' = some k → vblk v = some k ∨ w.heap.size ≤ k) → wpList P ops Q rest (a.put o.dst v') w') : wpList P ops Q (o :: rest) a w := by
  refine wpList_plain hgd fun K hK => ?_
  obtain ⟨v', w', hr, h2, h3, h4⟩ := Buf.append (P := P) w t u o.type e hb hown s hlen
  unfold Oper.wp execOp
  simp only [ho, resolve, invoke, builtin, Sem.run_bind, Sem.run_pure, Result.andThen_ok, List.map_toArray, List.map_cons, List.map_nil, hs, hx, hr]
  exact hK _ _ (h v' w' h2 h3 h4)
/-- a copy, in a walk -/
theorem wpList_buf_copy {P : Program} {ops : Array Oper} {rest : List Oper} {o : Oper} {a : Act} {Q : Exit → Act → World → Prop} (hgd : o.guard = none) (w : World) (sl x : Operand) (t u : TypeId)
    (ho : o.op = .call { callee := .builtin .append, args := #[sl, x], argTypes := #[t, t] }) (e : TypeId) (hb : Bytely P t u e) (A B : Option Addr) (c : Nat) (l : List UInt8) (hs : a.eval sl = .slice B 0 0) (hx : a.eval x = .slice A l.length c) (hown : Buf w e (.slice A l.length c) l) (hA : A = none → B = none)
    (hlen : l.length ≤ 140737488355328)
    (h : ∀ v' w', Buf w' e v' l → Kp No w w' → (∀ k, vblk v' = some k → w.heap.size ≤ k) → wpList P ops Q rest (a.put o.dst v') w') : wpList P ops Q (o :: rest) a w := by
  refine wpList_plain hgd fun K hK => ?_
  obtain ⟨v', w', hr, h2, h3, h4⟩ := Buf.copy (P := P) w t u o.type e hb (B := B) hown hA hlen
  unfold Oper.wp execOp
  simp only [ho, resolve, invoke, builtin, Sem.run_bind, Sem.run_pure, Result.andThen_ok, List.map_toArray, List.map_cons, List.map_nil, hs, hx, hr]
  exact hK _ _ (h v' w' h2 h3 h4)
end Go.Proofs.YtflodiljgphkdaaGreat
