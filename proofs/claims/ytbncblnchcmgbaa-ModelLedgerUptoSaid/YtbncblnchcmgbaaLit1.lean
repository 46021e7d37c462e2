/-
  A slice literal of one element, as a step of a walk; calls that turn only what a thing rests on.
-/
import Derived.Test.YtbncblnchcmgbaaOpL
import Derived.Test.YtbncblnchcmgbaaReg
namespace Go.Proofs.Ytbncblnchcmgbaa
open Go.RowKit Go.ChangeShapes Go.WideShapes Go.ChangeAt

theorem Rp.none_ {α : Type} (E : Rp α) (w : World) (S : Nat → Prop) : E.slice.R w S [.slice none 0 0] [] := ⟨none, 0, rfl, Nat.le_refl _, by simp, fun h => absurd h (by simp)⟩
theorem wpList_litW {P : Program} {ops : Array Oper} {rest : List Oper} {o : Oper} {a : Act} {w w' : World} {Q : Exit → Act → World → Prop} (hw : Region.wanted o (yielded ops a.tmps) = true) (t : TypeId) (x : Operand) (ho : o.op = .buildSlice t 1 #[(0, x)]) (v u : Value) (he : a.eval x = v)
    (hr : (Instr.buildSlice t 1 #[(0, v)]).run P w = .ok u w')
    (h : wpList P ops Q rest (a.put o.dst u) w') : wpList P ops Q (o :: rest) a w := by
  refine wpList_step fun K hK => ?_
  rw [if_pos hw]
  have e : (#[(0, x)] : Array (Nat × Operand)).map (fun (i, x) => (i, a.eval x)) = #[(0, v)] := by simp [he]
  unfold Oper.wp execOp
  simp only [ho, Sem.run_bind, e, hr, Result.andThen_ok]
  exact hK _ _ h
/-- a slice literal of one operation -/
theorem run_lit_opl (w : World) (o : OpL) (v : Value) : (Instr.buildSlice 42 1 #[(0, .agg (o.cells v).toArray)]).run Try.prog w = .ok (.slice (some ⟨w.heap.size, 0, none⟩) 1 1) (w.alloc (.cells (o.cells v).toArray 38)) := by
  unfold OpL.cells
  go_simp
/-- a call that turns only what the ledger rests on; what it rests on then is of that, or new -/
structure Upd (F : Nat → Prop) (w w' : World) (F' : Nat → Prop) : Prop where
  kp : Kp F w w'
  foot : ∀ k, F' k → F k ∨ w.heap.size ≤ k
theorem Upd.refl (F : Nat → Prop) (w : World) : Upd F w w F := ⟨Kp.refl _ _, fun _ h => .inl h⟩
theorem Upd.kpNo {F : Nat → Prop} {w w' : World} (h : Kp No w w') : Upd F w w' F := ⟨h.any, fun _ h => .inl h⟩
theorem Upd.trans {F F' F'' : Nat → Prop} {a b c : World} (h : Upd F a b F') (k : Upd F' b c F'') : Upd F a c F'' :=
  ⟨h.kp.trans k.kp (fun i hi hf => by rcases h.foot i hf with h | h; exact h; omega), fun i hi => by
    rcases k.foot i hi with h1 | h1
    · exact h.foot i h1
    · exact .inr (Nat.le_trans h.kp.size h1)⟩
end Go.Proofs.Ytbncblnchcmgbaa
