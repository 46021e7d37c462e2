/-
  Chunks of two texts, appended; unlike ones have unlike digests.
-/
import Derived.Test.YtejmbbnndagejaaK1
import Derived.Test.YtejmbbnndagejaaH3
namespace Go.Proofs.Ytejmbbnndagejaa
open Go.RowKit Go.ChangeShapes Go.WideShapes Go.ChangeAt

theorem wpList_wanted {P : Program} {ops : Array Oper} {rest : List Oper} {o : Oper} {a : Act} {w : World} {Q : Exit → Act → World → Prop} (hw : Region.wanted o (yielded ops a.tmps) = true)
    (h : ∀ K : Act → World → Prop, (∀ a w, wpList P ops Q rest a w → K a w) → o.wp P a w K Q) : wpList P ops Q (o :: rest) a w :=
  wpList_step fun K hK => by rw [if_pos hw]; exact h K hK
theorem wpList_append_own {ops : Array Oper} {rest : List Oper} {o : Oper} {a : Act} {Q : Exit → Act → World → Prop} (w : World) (s x : Operand) (hw : Region.wanted o (yielded ops a.tmps) = true)
    (ho : o.op = .call { callee := .builtin .append, args := #[s, x], argTypes := #[22, 22] })
    (base base2 : Nat) (A1 : Option Addr) (c1 : Nat) (l1 : List ByteArray) (hs : a.eval s = .slice A1 l1.length c1) (h1 : Own Rp.str w No base 9 (.slice A1 l1.length c1) l1)
    (A2 : Option Addr) (c2 : Nat) (l2 : List ByteArray) (hx : a.eval x = .slice A2 l2.length c2) (h2 : Own Rp.str w No base2 9 (.slice A2 l2.length c2) l2)
    (hne : ∀ k, (Value.slice A1 l1.length c1).ownBlock = some k → ¬ (Value.slice A2 l2.length c2).ownBlock = some k) (hn : l1.length + l2.length ≤ 1000000) (hb : base ≤ w.heap.size)
    (h : ∀ A' c' w', Own Rp.str w' No base 9 (.slice A' (l1 ++ l2).length c') (l1 ++ l2) → Kp (fun k => (Value.slice A1 l1.length c1).ownBlock = some k) w w' → wpList Try.prog ops Q rest (a.put o.dst (.slice A' (l1 ++ l2).length c')) w') :
    wpList Try.prog ops Q (o :: rest) a w := by
  refine wpList_wanted hw fun K hK => ?_
  refine wp_append_rp (E := Rp.str) w s x 22 ho base 9 16 elem_str (fun k => (Value.slice A2 l2.length c2).ownBlock = some k) (.slice A1 l1.length c1) l1 hs (h1.str_any _) A2 c2 (fun k => (Value.slice A2 l2.length c2).ownBlock = some k) l2 hx ((h2.str_any _).read (fun k hk => hk)) Rp.str_one (by unfold maxLen; omega) (by omega) hb (fun _ h => h) hne ?_
  intro v' w' hown hg _
  obtain ⟨A', c', rfl⟩ := hown.shape
  exact hK _ _ <| h A' c' w' (hown.str_any No) ((Kp.refl _ w).grown hg (fun g hg _ => hg))

theorem NoClash.sub {l l' : List ByteArray} (h : NoClash l) (hs : ∀ x ∈ l', x ∈ l) : NoClash l' := fun x hx y hy => h x (hs x hx) y (hs y hy)
theorem map_inj {l : List ByteArray} (h : NoClash l) : ∀ {a b : List ByteArray}, (∀ x ∈ a, x ∈ l) → (∀ x ∈ b, x ∈ l) → a.map shaB = b.map shaB → a = b
  | [], [], _, _, _ => rfl
  | [], _ :: _, _, _, he => by cases he
  | _ :: _, [], _, _, he => by cases he
  | x :: a, y :: b, ha, hb, he => by
    rw [List.map_cons, List.map_cons, List.cons.injEq] at he
    rw [h x (ha x (List.mem_cons_self ..)) y (hb y (List.mem_cons_self ..)) he.1, map_inj h (fun z hz => ha z (List.mem_cons_of_mem _ hz)) (fun z hz => hb z (List.mem_cons_of_mem _ hz)) he.2]
theorem hashes_inj {a b : ByteArray} (h : NoClash (cutsB a ++ cutsB b)) (he : hashesB a = hashesB b) : a = b := by
  have h1 := map_inj h (fun x hx => List.mem_append_left _ hx) (fun x hx => List.mem_append_right _ hx) he
  rw [← joinB_cuts a, ← joinB_cuts b, h1]
end Go.Proofs.Ytejmbbnndagejaa
