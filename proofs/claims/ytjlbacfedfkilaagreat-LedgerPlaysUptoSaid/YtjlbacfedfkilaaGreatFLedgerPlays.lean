/-
  From a walk of each law to the given statement (printed by wip/tools/mklaw.py).
-/
import Derived.Test.YtjlbacfedfkilaaGreatDeed7
namespace Go.Proofs.YtjlbacfedfkilaaGreat
open Go.RowKit Go.ChangeShapes Go.WideShapes Go.ChangeAt
def LedgerPlaysUptoWalk : Prop := ∀ (W : World) (v0 : Value) (a0 : Int) (v1 : Value) (a1 : Int) (v2 : Value) (a2 : (List CmdL)),(Rp.int .i64).R W (fun k => k < W.heap.size) [v0] a0 → (Rp.int .i64).R W (fun k => k < W.heap.size) [v1] a1 → (Rp.slice Rp.cmd).R W (fun k => k < W.heap.size) [v2] a2 → (Rp.int .i64).μ a0 + (Rp.int .i64).μ a1 + (Rp.slice Rp.cmd).μ a2 ≤ 1048576 →
    Calls Tryz.prog 3 #[v0,v1,v2] W fun e w' => e = .returned (.bool true) ∧ Kp No W w'
set_option maxRecDepth 100000 in
theorem ledgerPlaysUpto_contract (walk : LedgerPlaysUptoWalk) (H : Type) (enc : TypeId × Value → H) (W : World) (base : Nat) (args : Array Value) (ds gs : List (DataW H)) (before : List MemPlace)
 (hval : ∀ (j : Nat) t v,Tryz.f3.params[j]? = some t → args[j]? = some v → Value.okWide Tryz.prog W .any base t v)
 (hW : DataW.Whole enc Tryz.prog Tryz.f3.params.toList Rows.ledgerPlaysSpec.vars false W args.toList ds gs before) (hk : Rows.uptoSmall H (ds ++ gs) = true) :
 Calls Tryz.prog 3 args W fun e W' => ∃ v,e = .returned v ∧ Rows.ledgerPlaysSpec.post enc Tryz.prog Tryz.f3 false true false false W args v W' := by
 have hW' := hW
 obtain ⟨p,q,hA0,hV,rfl,hfz,hnd⟩ := hW
 have hA : DataW.TrodAll enc Tryz.prog W 0 (fun _ => true) true Tryz.f3.params.toList args.toList ds p := hA0
 rw [Tryz.params3] at hA hval
 obtain ⟨v0,vs0,d0,ds0,p0,q0,hargs,rfl,rfl,h0,r0⟩ := trodAll_cons hA
 obtain ⟨v1,vs1,d1,ds1,p1,q1,rfl,rfl,rfl,h1,r1⟩ := trodAll_cons r0
 obtain ⟨v2,vs2,d2,ds2,p2,q2,rfl,rfl,rfl,h2,r2⟩ := trodAll_cons r1
 obtain ⟨rfl,rfl,rfl⟩ := trodAll_nil r2
 obtain rfl : args = #[v0,v1,v2] := by cases args;simp_all
 obtain ⟨rfl,rfl⟩ := trodVars_none hV
 clear hA0
 have c0 : v0.cells.toList = [v0] := one_of_int (okWide_int Tryz.underlying3 (hval 0 3 v0 rfl rfl))
 obtain ⟨a0,e0,m0⟩ := Arg.one (Arg.int Tryz.underlying3) c0 h0
 have c1 : v1.cells.toList = [v1] := one_of_int (okWide_int Tryz.underlying3 (hval 1 3 v1 rfl rfl))
 obtain ⟨a1,e1,m1⟩ := Arg.one (Arg.int Tryz.underlying3) c1 h1
 have c2 : v2.cells.toList = [v2] := one_of_slice (okWide_slice Tryz.underlying22 (hval 2 22 v2 rfl rfl))
 obtain ⟨a2,e2,m2⟩ := Arg.one (Arg.slice Tryz.underlying22 (by kernel_rfl) (Arg.cmd Tryz.underlying39 (by kernel_rfl) (by kernel_rfl) (by kernel_rfl) Tryz.underlying3 Tryz.underlying3 Tryz.underlying3 (Arg.opl Tryz.underlying36 (by kernel_rfl) (by kernel_rfl) (by kernel_rfl) Tryz.underlying3 Tryz.underlying3 Tryz.underlying3 Tryz.underlying3 Tryz.underlying3 Tryz.underlying3 Tryz.underlying9 (Arg.sht Tryz.underlying34 (by kernel_rfl) (by kernel_rfl) (by kernel_rfl) Tryz.underlying3 (Arg.slice Tryz.underlying32 (by kernel_rfl) (Arg.str Tryz.underlying9)))) Tryz.underlying3 Tryz.underlying3 (Arg.slice Tryz.underlying37 (by kernel_rfl) (Arg.opl Tryz.underlying36 (by kernel_rfl) (by kernel_rfl) (by kernel_rfl) Tryz.underlying3 Tryz.underlying3 Tryz.underlying3 Tryz.underlying3 Tryz.underlying3 Tryz.underlying3 Tryz.underlying9 (Arg.sht Tryz.underlying34 (by kernel_rfl) (by kernel_rfl) (by kernel_rfl) Tryz.underlying3 (Arg.slice Tryz.underlying32 (by kernel_rfl) (Arg.str Tryz.underlying9))))) Tryz.underlying3)) c2 h2
 have hbd := bound_of hk
 simp only [List.append_nil,Rows.uptoBulkAll] at hbd
 refine (walk W v0 a0 v1 a1 v2 a2 e0 e1 e2 (by omega)).mono fun e W' ⟨he,hb⟩ => ?_
 subst he
 refine ⟨_,rfl,post_of_law (tb := 4) (by kernel_rfl) ?_ (by kernel_rfl) Tryz.underlying4 rfl ?_ hW' hb⟩
 · rw [Tryz.params3]
   intro t ht
   simp only [List.mem_cons,List.not_mem_nil,or_false] at ht
   rcases ht with rfl | rfl | rfl <;> exact ⟨by kernel_rfl,by decide +kernel⟩
 · rw [Tryz.params3]
   intro l hl
   match l,hl with
   | [x0,x1,x2],_ => rfl
set_option maxRecDepth 100000 in
theorem ledgerPlaysUpto_lifted (walk : LedgerPlaysUptoWalk) (os : Os) (started : os.Started) (H : Type) (enc : TypeId × Value → H) (F : Stop.Interp) :
 ReturnsInHanded {} Tryz.checked os 3 .any ((Rows.OpenSpec.upto Rows.ledgerPlaysSpec).pre6 enc Tryz.prog Tryz.f3 Rows.ledgerPlaysUptoRow.domain false) (((Rows.OpenSpec.upto Rows.ledgerPlaysSpec).at F).post enc Tryz.prog Tryz.f3 false true false false) := by
 refine returnsInHanded_of_cond (C := Tryz.checked) (s := (Rows.OpenSpec.upto Rows.ledgerPlaysSpec)) (k := Rows.uptoSmall) rfl (by kernel_rfl : ownKnob Tryz.prog.godebug = none) started (by kernel_rfl) Tryz.func3
  (OpenSpec.witness (enc := enc) (C := Tryz.checked) (s := (Rows.OpenSpec.upto Rows.ledgerPlaysSpec)) (k := Rows.uptoSmall) rfl false ⟨#[],#[.int .i64 0,.int .i64 0,.slice none 0 0],[]⟩ 8 (by kernel_rfl) (by kernel_rfl) (by kernel_rfl)
   (x := ([.lit (.int .i64 0),.lit (.int .i64 0),.nil],[],[])) (by kernel_rfl) rfl (by kernel_rfl)) ?_
 intro W base args ds gs before hval hW _ hk _
 exact ledgerPlaysUpto_contract walk H enc W base args ds gs before hval hW hk
theorem ledgerPlaysUpto_of (walk : LedgerPlaysUptoWalk) : Rows.LedgerPlaysUptoSaid :=
 OpenClaim.holds_of_cond 3 Tryz.f3 rfl rfl rfl rfl rfl rfl rfl ⟨rfl,rfl,rfl,rfl,rfl⟩ rfl rfl rfl rfl rfl (by kernel_rfl) Tryz.func3 (by kernel_rfl)
  (of_decide_eq_true (by kernel_rfl)) (by unfold Func.isWrapper;first | (rw [if_pos (by decide +kernel)];kernel_rfl) | (rw [if_neg (by decide +kernel)];exact ⟨rfl,rfl⟩))
  (fun os started H enc _ F => ledgerPlaysUpto_lifted walk os started H enc F)
end Go.Proofs.YtjlbacfedfkilaaGreat
