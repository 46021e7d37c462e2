/-
  Steps of a walk whose value is known ahead: a load, a build, a store of a struct.
-/
import Derived.Test.YtbncblnchcmgbaaLit1
namespace Go.Proofs.Ytbncblnchcmgbaa
open Go.RowKit Go.ChangeShapes Go.WideShapes Go.ChangeAt

section
variable {P : Program} {ops : Array Oper} {rest : List Oper} {o : Oper} {a : Act} {w w' : World} {Q : Exit → Act → World → Prop}
theorem wpl_load (hw : Region.wanted o (yielded ops a.tmps) = true) (t : TypeId) (x : Operand) (ho : o.op = .load t x) (v u : Value) (he : a.eval x = v) (hr : (Instr.loadAt t v).run P w = .ok u w') (h : wpList P ops Q rest (a.put o.dst u) w') : wpList P ops Q (o :: rest) a w := by
  refine wpList_step fun K hK => ?_
  rw [if_pos hw]
  unfold Oper.wp execOp
  simp only [ho, he, Sem.run_bind, hr, Result.andThen_ok]
  exact hK _ _ h
theorem wpl_build2 (hw : Region.wanted o (yielded ops a.tmps) = true) (t : TypeId) (i j : Nat) (x y : Operand) (ho : o.op = .build t #[(i, x), (j, y)]) (v v2 u : Value) (he : a.eval x = v) (he2 : a.eval y = v2) (hr : (Instr.build t #[(i, v), (j, v2)]).run P w = .ok u w')
    (h : wpList P ops Q rest (a.put o.dst u) w') : wpList P ops Q (o :: rest) a w := by
  refine wpList_step fun K hK => ?_
  rw [if_pos hw]
  have e : (#[(i, x), (j, y)] : Array (Nat × Operand)).map (fun (i, x) => (i, a.eval x)) = #[(i, v), (j, v2)] := by simp [he, he2]
  unfold Oper.wp execOp
  simp only [ho, Sem.run_bind, e, hr, Result.andThen_ok]
  exact hK _ _ h
theorem wpl_store (hw : Region.wanted o (yielded ops a.tmps) = true) (t : TypeId) (x y : Operand) (ho : o.op = .store t x y) (v u : Value) (he : a.eval x = v) (he2 : a.eval y = u) (hr : (Instr.storeAt t v u).run P w = .ok () w')
    (h : wpList P ops Q rest (a.put o.dst undef) w') : wpList P ops Q (o :: rest) a w := by
  refine wpList_step fun K hK => ?_
  rw [if_pos hw]
  unfold Oper.wp execOp
  simp only [ho, he, he2, Sem.run_bind, hr, Result.andThen_ok]
  exact hK _ _ h
theorem wpl_lookup (hw : Region.wanted o (yielded ops a.tmps) = true) (t : TypeId) (x y : Operand) (b : Bool) (ho : o.op = .lookup t x y b) (v v2 u : Value) (he : a.eval x = v) (he2 : a.eval y = v2) (hr : (Instr.lookup t v v2 b).run P w = .ok u w')
    (h : wpList P ops Q rest (a.put o.dst u) w') : wpList P ops Q (o :: rest) a w := by
  refine wpList_step fun K hK => ?_
  rw [if_pos hw]
  unfold Oper.wp execOp
  simp only [ho, he, he2, Sem.run_bind, hr, Result.andThen_ok]
  exact hK _ _ h
theorem wpl_update (hw : Region.wanted o (yielded ops a.tmps) = true) (t : TypeId) (x y z : Operand) (ho : o.op = .mapUpdate t x y z) (v v2 u : Value) (he : a.eval x = v) (he2 : a.eval y = v2) (he3 : a.eval z = u) (hr : (Instr.mapUpdate t v v2 u).run P w = .ok () w')
    (h : wpList P ops Q rest (a.put o.dst undef) w') : wpList P ops Q (o :: rest) a w := by
  refine wpList_step fun K hK => ?_
  rw [if_pos hw]
  unfold Oper.wp execOp
  simp only [ho, he, he2, he3, Sem.run_bind, hr, Result.andThen_ok]
  exact hK _ _ h
end
end Go.Proofs.Ytbncblnchcmgbaa
