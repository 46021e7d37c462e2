/-
  Append of new elements to a slice of the call's own, elements of one cell; bytes.
-/
import Derived.Test.YtbncblnchcmgbaaBytes
import Derived.Test.YtbncblnchcmgbaaReg
namespace Go.Proofs.Ytbncblnchcmgbaa
open Go.RowKit Go.ChangeShapes Go.WideShapes Go.ChangeAt

theorem bytely : Bytely Try.prog 184 9 5 := Bytely.of Try.underlying184 Try.underlying9 Try.underlying5 (by kernel_rfl)

theorem Rp.By.one_all {α : Type} {E : Rp α} {enc : α → Value} {PP : α → Prop} (hb : Rp.By E enc PP) {w : World} : ∀ cs a S', E.R w S' cs a → ∀ u ∈ cs, u.oneCell' = true := by
  intro cs a S' h u hu
  rw [((hb.R _ _ _ _).1 h).1] at hu
  simp only [List.mem_cons, List.not_mem_nil, or_false] at hu
  subst hu; exact hb.one a

/-- append(l, x, y, ..): the new ones in a block of their own. -/
theorem wpList_append_lit {α : Type} {E : Rp α} {enc : α → Value} {PP : α → Prop} (hbE : Rp.By E enc PP) {P : Program} {ops : Array Oper} {rest : List Oper} {o : Oper} {a : Act} {Q : Exit → Act → World → Prop} (hgd : o.guard = none) (w : World) (sl x : Operand) (t : TypeId)
    (ho : o.op = .call { callee := .builtin .append, args := #[sl, x], argTypes := #[t, t] })
    (base : Nat) (e : TypeId) (bytes : Nat) (el : Elem P t e 1 bytes) (v : Value) (l : List α) (hs : a.eval sl = v) (S : Nat → Prop) (hown : Own E w S base e v l)
    (g : Nat) (m : List α) (hx : a.eval x = .slice (some ⟨g, 0, none⟩) m.length m.length) (cs : Array Value) (e' : TypeId) (fr : Nat × Nat) (hg : w.heap[g]? = some (.cells cs e' fr)) (hcs : cs.toList = m.map enc) (hp : ∀ a ∈ m, PP a)
    (hcap : l.length + m.length ≤ maxLen) (hbytes : (l.length + m.length) * bytes ≤ 140737488355328) (hbase : base ≤ w.heap.size) (hvg : v.ownBlock ≠ some g)
    (h : ∀ A c w', Own E w' No base e (.slice A (l ++ m).length c) (l ++ m) → Kp (fun k => v.ownBlock = some k) w w' → wpList P ops Q rest (a.put o.dst (.slice A (l ++ m).length c)) w') : wpList P ops Q (o :: rest) a w := by
  refine wpList_append_rp (E := E) hgd w sl x t ho base e bytes (by rw [hbE.size]; exact el) (· = g) v l hs (Own.by_any hbE hown _) (some ⟨g, 0, none⟩) m.length (· = g) m hx
    (Rp.of_block1 hbE.size enc hg rfl hcs (Nat.le_refl _) (by omega) (fun a ha => (hbE.R _ _ _ _).2 ⟨rfl, hp a ha⟩)) hbE.one_all hcap hbytes hbase (fun _ h => h) (fun k hk he => hvg (by rw [hk, he])) ?_
  intro v' w' hown' hgr _
  obtain ⟨A', c', rfl⟩ := hown'.shape
  exact h A' c' w' (Own.by_any hbE hown' _) ((Kp.refl _ w).grown hgr (fun g hg _ => hg))

theorem byte_nat (n : Nat) : byteOf (UInt8.ofNat n) = .int .u8 ((n % 256 : Nat) : Int) := by
  unfold byteOf
  rw [UInt8.toNat_ofNat']
/-- A number that is a byte. -/
theorem byte_of {x : Int} (h0 : 0 ≤ x) (h1 : x < 256) : Value.int .u8 x = byteOf (UInt8.ofNat x.toNat) := by
  unfold byteOf
  rw [UInt8.toNat_ofNat', Nat.mod_eq_of_lt (by omega)]
  congr 1; omega
end Go.Proofs.Ytbncblnchcmgbaa
