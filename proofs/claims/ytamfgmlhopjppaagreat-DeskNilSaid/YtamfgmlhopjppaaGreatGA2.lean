/-
  Put together: Bytes, By.
-/
import Derived.Test.YtamfgmlhopjppaaGreatGA
import Derived.Lib.AppendStr
import Derived.Laws.IdiomStrings
import Derived.Laws.BytesArg
import Derived.Test.YtamfgmlhopjppaaGreatReg
namespace Go.Proofs.YtamfgmlhopjppaaGreat
section
open Go.RowKit Go.ChangeShapes Go.WideShapes Go.ChangeAt

def byteOf (b : UInt8) : Value := .int .u8 b.toNat
def Rp.byte : Rp UInt8 where
  size := 1
  R _ _ cs b := cs = [byteOf b]
  μ _ := 1
  pos := Nat.one_pos
  len h := by rw [h]; rfl
  keep _ _ h := h
  bnd h := h
theorem Rp.byte_by : Rp.By Rp.byte byteOf (fun _ => True) := ⟨rfl, fun _ _ _ _ => ⟨fun h => ⟨h, trivial⟩, fun h => h.1⟩, fun _ => rfl⟩
theorem Rp.byte_one {w : World} : ∀ cs a S', Rp.byte.R w S' cs a → ∀ u ∈ cs, u.oneCell' = true := by
  rintro cs a S' h u hu
  rw [show cs = [byteOf a] from h] at hu
  simp only [List.mem_cons, List.not_mem_nil, or_false] at hu
  subst hu; rfl

/-- Bytes as numbers, and back. -/
theorem Own.ofNums {w : World} {S S' : Nat → Prop} {base : Nat} {e : TypeId} {v : Value} {l : List UInt8} (h : Own (Rp.int .u8) w S base e v (l.map fun b => (b.toNat : Int))) : Own Rp.byte w S' base e v l := by
  have h1 := (Own.toRaw (Rp.int_by .u8) h).1
  rw [List.map_map] at h1
  exact Own.ofRaw Rp.byte_by h1 (fun _ _ => trivial) S'

/-- What a type of bytes is. -/
def Bytely (P : Program) (t u e : TypeId) : Prop := P.underlying t = some (.slice e) ∧ P.underlying u = some .string ∧ P.underlying e = some (.int .u8) ∧ ∃ i, P.info? e = some i ∧ i.zero = some (.int .u8 0) ∧ i.size = 1 ∧ i.bytes = 1
theorem Bytely.of {P : Program} {t u e : TypeId} (h1 : P.underlying t = some (.slice e)) (h2 : P.underlying u = some .string) (h3 : P.underlying e = some (.int .u8)) (h4 : (P.info? e).map (fun i => (i.zero, i.size, i.bytes)) = some (some (.int .u8 0), 1, 1)) : Bytely P t u e := by
  obtain ⟨i, a, b, c, d⟩ := info_parts h4
  exact ⟨h1, h2, h3, i, a, b, c, d⟩
theorem Bytely.elem {P : Program} {t u e : TypeId} (h : Bytely P t u e) : Elem P t e 1 1 := by
  obtain ⟨h1, _, _, i, a, b, c, d⟩ := h
  exact ⟨h1, i, _, a, b, c, d, rfl, by decide⟩

/-- A text behind bytes. -/
theorem wpList_append_text {P : Program} {ops : Array Oper} {rest : List Oper} {o : Oper} {a : Act} {Q : Exit → Act → World → Prop} (hgd : o.guard = none) (w : World) (sl x : Operand) (t u : TypeId)
    (ho : o.op = .call { callee := .builtin .append, args := #[sl, x], argTypes := #[t, u] })
    (base : Nat) (e : TypeId) (hb : Bytely P t u e) (S : Nat → Prop) (v : Value) (l : List UInt8) (hs : a.eval sl = v) (hown : Own Rp.byte w S base e v l) (s : ByteArray) (hx : a.eval x = .string s)
    (hlen : l.length + s.size ≤ 140737488355328) (hbase : base ≤ w.heap.size)
    (h : ∀ v' w', Own Rp.byte w' S base e v' (l ++ s.data.toList) → w.grownBy w' v.ownBlock → wpList P ops Q rest (a.put o.dst v') w') : wpList P ops Q (o :: rest) a w := by
  obtain ⟨ht, hu, he, i, hi, hz, hsize, hby⟩ := hb
  obtain ⟨h1, _⟩ := Own.toRaw Rp.byte_by hown
  obtain ⟨h2, h3⟩ := Own.raw_vals h1
  rw [List.length_map] at h2
  refine Lib.wpList_append_own_string w hgd sl x t u ho base e i ht hu hi hz hsize hby v l.length _ hs h2 s hx (by simp [maxLen]; omega) hlen hbase fun v' w' h4 h5 _ => h v' w' ?_ h5
  refine Own.ofRaw (S := S) Rp.byte_by (Own.of_raw ?_ ?_) (fun _ _ => trivial) S
  · have e1 : (l ++ s.data.toList).map byteOf = l.map byteOf ++ Lib.strCells s := by rw [List.map_append]; rfl
    rw [e1, List.length_append, List.length_map, Lib.strCells_length]
    exact h4
  · intro u hu
    obtain ⟨b, _, rfl⟩ := List.mem_map.1 hu
    rfl

/-- What text bytes are. -/
theorem run_text {P : Program} (w : World) (src u e : TypeId) (hb : Bytely P src u e) {S : Nat → Prop} {base : Nat} {A : Option Addr} {c : Nat} {l : List UInt8} (h : Own Rp.byte w S base e (.slice A l.length c) l) :
    (convert src u (.slice A l.length c)).run P w = .ok (.string (bs l)) w := by
  obtain ⟨ht, hu, he, _⟩ := hb
  cases A with
  | none =>
    have hl : l = [] := by
      cases l with
      | nil => rfl
      | cons x r =>
        obtain ⟨g, hg, _⟩ := Own.cellBy Rp.byte_by h (i := 0) (a := x) rfl
        cases hg
    subst hl
    exact run_convert_bytes_nil w src e ht he 0 c u hu
  | some ad =>
    refine run_convert_bytes_back w src u e ad c l ht he hu fun j hj => ?_
    obtain ⟨g, hg, _, _, hc, _⟩ := Own.cellBy Rp.byte_by h (i := j) (a := l[j]) (List.getElem?_eq_getElem hj)
    injection hg with hg
    subst hg
    have e0 : (⟨g, 0, none⟩ : Addr).add j = ⟨g, j, none⟩ := by simp only [Addr.add]; split <;> simp_all
    rw [e0]; exact hc
end

section
open Go.RowKit Go.ChangeShapes Go.WideShapes Go.ChangeAt

theorem bytely : Bytely Tryz.prog 173 9 5 := Bytely.of Tryz.underlying173 Tryz.underlying9 Tryz.underlying5 (by kernel_rfl)

theorem Rp.By.one_all {α : Type} {E : Rp α} {enc : α → Value} {PP : α → Prop} (hb : Rp.By E enc PP) {w : World} : ∀ cs a S', E.R w S' cs a → ∀ u ∈ cs, u.oneCell' = true := by
  intro cs a S' h u hu
  rw [((hb.R _ _ _ _).1 h).1] at hu
  simp only [List.mem_cons, List.not_mem_nil, or_false] at hu
  subst hu; exact hb.one a

/-- append(l, x, y, ..): the new ones in a block of their own. -/
theorem wpList_append_lit {α : Type} {E : Rp α} {enc : α → Value} {PP : α → Prop} (hbE : Rp.By E enc PP) {P : Program} {ops : Array Oper} {rest : List Oper} {o : Oper} {a : Act} {Q : Exit → Act → World → Prop} (hgd : o.guard = none) (w : World) (sl x : Operand) (t : TypeId)
    (ho : o.op = .call { callee := .builtin .append, args := #[sl, x], argTypes := #[t, t] })
    (base : Nat) (e : TypeId) (bytes : Nat) (el : Elem P t e 1 bytes) (v : Value) (l : List α) (hs : a.eval sl = v) (S : Nat → Prop) (hown : Own E w S base e v l)
    (g : Nat) (m : List α) (hx : a.eval x = .slice (some ⟨g, 0, none⟩) m.length m.length) (cs : Array Value) (e' : TypeId) (fr : Nat × Nat) (hg : w.heap[g]? = some (.cells cs e' fr)) (hcs : cs.toList = m.map enc) (hp : ∀ a ∈ m, PP a)
    (hcap : l.length + m.length ≤ maxLen) (hbytes : (l.length + m.length) * bytes ≤ 140737488355328) (hbase : base ≤ w.heap.size) (hvg : v.ownBlock ≠ some g)
    (h : ∀ A c w', Own E w' No base e (.slice A (l ++ m).length c) (l ++ m) → Kp (fun k => v.ownBlock = some k) w w' → wpList P ops Q rest (a.put o.dst (.slice A (l ++ m).length c)) w') : wpList P ops Q (o :: rest) a w := by
  refine wpList_append_rp (E := E) hgd w sl x t ho base e bytes (by rw [hbE.size]; exact el) (· = g) v l hs (Own.by_any hbE hown _) (some ⟨g, 0, none⟩) m.length (· = g) m hx
    (Rp.of_block1 hbE.size enc hg rfl hcs (Nat.le_refl _) (by omega) (fun a ha => (hbE.R _ _ _ _).2 ⟨rfl, hp a ha⟩)) hbE.one_all hcap hbytes hbase (fun _ h => h) (fun k hk he => hvg (by rw [hk, he])) ?_
  intro v' w' hown' hgr _
  obtain ⟨A', c', rfl⟩ := hown'.shape
  exact h A' c' w' (Own.by_any hbE hown' _) ((Kp.refl _ w).grown hgr (fun g hg _ => hg))

theorem byte_nat (n : Nat) : byteOf (UInt8.ofNat n) = .int .u8 ((n % 256 : Nat) : Int) := by
  unfold byteOf
  rw [UInt8.toNat_ofNat']
/-- A number that is a byte. -/
theorem byte_of {x : Int} (h0 : 0 ≤ x) (h1 : x < 256) : Value.int .u8 x = byteOf (UInt8.ofNat x.toNat) := by
  unfold byteOf
  rw [UInt8.toNat_ofNat', Nat.mod_eq_of_lt (by omega)]
  congr 1; omega
end
end Go.Proofs.YtamfgmlhopjppaaGreat
