/-
  A whole array stored into the block that was made last.
-/
import Derived.Test.YtamfgmlhopjppaaGreatGA
import Derived.Deep.WholeRow
namespace Go.Proofs.YtamfgmlhopjppaaGreat
open Go.RowKit Go.ChangeShapes Go.WideShapes Go.ChangeAt

theorem wpList_store_new {P : Program} {ops : Array Oper} {rest : List Oper} {o : Oper} {a : Act} {Q : Exit → Act → World → Prop} (hgd : o.guard = none) (w : World) (T : TypeId) (p v : Operand) (ho : o.op = .store T p v)
    (hp : a.eval p = .pointer (some ⟨w.heap.size, 0, none⟩)) (Z Z0 : Array Value) (hv : a.eval v = .agg Z) (hi : (P.info? T).map (·.size) = some Z.size) (hz : Z0.size = Z.size) (h1 : Z.all (·.oneCell') = true)
    (h : wpList P ops Q rest (a.put o.dst undef) (w.alloc (.cells Z T))) : wpList P ops Q (o :: rest) a (w.alloc (.cells Z0 T)) := by
  refine wpList_plain hgd fun K hK => ?_
  have hr := run_storeAt_new (P := P) w T Z0 Z hi hz h1
  unfold Oper.wp execOp
  simp only [ho, hp, hv, Sem.run_bind, Sem.run_pure, hr, Result.andThen_ok]
  exact hK _ _ h
theorem wpList_store_row {P : Program} {ops : Array Oper} {rest : List Oper} {o : Oper} {a : Act} {Q : Exit → Act → World → Prop} (hgd : o.guard = none) (w : World) (T : TypeId) (p v : Operand) (ho : o.op = .store T p v) (g : Nat)
    (hp : a.eval p = .pointer (some ⟨g, 0, none⟩)) (Z Z0 : Array Value) (hv : a.eval v = .agg Z) (hg : w.heap[g]? = some (.cells Z0 T (0, 0))) (hi : (P.info? T).map (·.size) = some Z.size) (hz : Z0.size = Z.size) (h1 : Z.all (·.oneCell') = true)
    (h : wpList P ops Q rest (a.put o.dst undef) (w.setRow g Z)) : wpList P ops Q (o :: rest) a w := by
  refine wpList_plain hgd fun K hK => ?_
  have hr : (Instr.storeAt T (.pointer (some ⟨g, 0, none⟩)) (.agg Z)).run P w = .ok () (w.setRow g Z) := by
    simp only [Instr.storeAt, Instr.sureAddr, Sem.run_bind, Sem.run_pure, Result.andThen]
    exact run_storeVar_row _ _ T T Z0 Z hg hi hz h1
  unfold Oper.wp execOp
  simp only [ho, hp, hv, Sem.run_bind, Sem.run_pure, hr, Result.andThen_ok]
  exact hK _ _ h
end Go.Proofs.YtamfgmlhopjppaaGreat
