/-
  From a walk of LedgerOnce to the given statement.
-/
import Derived.Test.YtobgnklebfdbnaaBase
import Derived.Test.YtobgnklebfdbnaaDeed7
namespace Go.Proofs.Ytobgnklebfdbnaa
section
open Go.RowKit Go.ChangeShapes Go.WideShapes Go.ChangeAt

/-- readings of a whole value -/
structure Rd (α : Type) where
  R : World → (Nat → Prop) → List Value → α → Prop
  μ : α → Nat
/-- a sheet: a number and texts -/
def Rd.sheet : Rd (Int × List ByteArray) where
  R w S cs a := ∃ A c, cs = [.agg #[.int .i64 a.1, .slice A a.2.length c]] ∧ (Lit.int .i64 a.1).wf = true ∧ Rp.str.slice.R w S [.slice A a.2.length c] a.2
  μ a := Rp.str.slice.μ a.2
theorem sheet_arg {P : Program} {t : TypeId} {f0 f1 : Field} (ht : P.underlying t = some (.struct #[f0, f1])) (h0 : f0.offset = 0) (h1 : f1.offset = 1) (hc0 : P.cellsOf f0.type = 1) (hc1 : P.cellsOf f1.type = 1) (hi : P.underlying f0.type = some (.int .i64)) (ha : Arg P f1.type Rp.str.slice) (hc : P.cellsOf t = 2)
    {H : Type} {enc : TypeId × Value → H} {w : World} {spare : Nat → Bool} {held : Bool} {r : Reach} {base : Nat} {v : Value} {d : DataW H} {p : List MemPlace}
    (hv : Value.okWide P w r base t v) (h : DataW.Trod enc P w 0 spare held t v d p) : ∃ a, Rd.sheet.R w (fun k => k < w.heap.size) [v] a ∧ Rd.sheet.μ a ≤ Rows.uptoBulk d := by
  obtain ⟨cs, rfl, hs⟩ := okWide_struct ht hv
  obtain ⟨fuel, hf⟩ := h
  have hcl : (Value.agg cs).cells.toList = cs.toList := rfl
  rw [hcl] at hf
  obtain ⟨y0, y1, n, hx, hl, hy0, hy1⟩ := trod_struct2 ht hf
  rw [hc] at hl
  match hcs : cs.toList, hl with
  | [x, y], _ =>
    rw [hcs, h0, hc0] at hy0
    rw [hcs, h1, hc1] at hy1
    simp only [List.drop_zero, List.take_succ_cons, List.take_zero] at hy0
    simp only [List.drop_succ_cons, List.drop_zero, List.take_succ_cons, List.take_zero] at hy1
    obtain ⟨m, he, _, hw⟩ := DataW.trod_int hi hy0
    obtain ⟨l, hr, hμ⟩ := ha hy1
    obtain ⟨A, c, he2, _⟩ := id hr
    simp only [List.cons.injEq, and_true] at he he2
    subst he he2
    have hcs2 : cs = #[.int .i64 m, .slice A l.length c] := by rw [← Array.toList_inj, hcs]
    subst hcs2
    refine ⟨(m, l), ⟨A, c, rfl, hw, hr⟩, ?_⟩
    simp only [Prod.mk.injEq] at hx
    rw [hx.1]
    simp only [Rd.sheet, Rows.uptoBulk, Rows.uptoBulkAll]
    omega
end

section
open Go.RowKit Go.ChangeShapes Go.WideShapes Go.ChangeAt

def Rd.cmd : Rd CmdL where
  R w S cs a := ∃ A c B d, cs = [cmdV a (.slice A a.op.hashes.length c) (.slice B a.ops.length d)] ∧ a.nums ∧ Rp.str.slice.R w S [.slice A a.op.hashes.length c] a.op.hashes ∧ Rp.opl.slice.R w S [.slice B a.ops.length d] a.ops
  μ a := Rp.cmd.μ a
theorem cmd_arg {P : Program} {t : TypeId} {fs : Array Field} (ht : P.underlying t = some (.struct fs)) (ha : Arg P t Rp.cmd)
    {H : Type} {enc : TypeId × Value → H} {w : World} {spare : Nat → Bool} {held : Bool} {r : Reach} {base : Nat} {v : Value} {d : DataW H} {p : List MemPlace}
    (hv : Value.okWide P w r base t v) (h : DataW.Trod enc P w 0 spare held t v d p) : ∃ a, Rd.cmd.R w (fun k => k < w.heap.size) [v] a ∧ Rd.cmd.μ a ≤ Rows.uptoBulk d := by
  obtain ⟨cs, rfl, hs⟩ := okWide_struct ht hv
  obtain ⟨fuel, hf⟩ := h
  have hcl : (Value.agg cs).cells.toList = cs.toList := rfl
  rw [hcl] at hf
  obtain ⟨a, ⟨hv, ov, he, hn, hh, ho⟩, hμ⟩ := ha hf
  obtain ⟨A, c, e1, _⟩ := id hh
  obtain ⟨B, d, e2, _⟩ := id ho
  simp only [List.cons.injEq, and_true] at e1 e2
  subst e1 e2
  refine ⟨a, ⟨A, c, B, d, ?_, hn, hh, ho⟩, hμ⟩
  unfold cmdV
  refine congrArg (fun x => [Value.agg x]) ?_
  rw [← Array.toList_inj, he]
  rfl
end

section
open Go.RowKit Go.ChangeShapes Go.WideShapes Go.ChangeAt

/-- The walk that gives LedgerOnceUpto. -/
def LedgerOnceUptoWalk : Prop := ∀ (W : World) (v0 : Value) (a0 : Int) (v1 : Value) (a1 : Int) (v2 : Value) (a2 : (List CmdL)) (v3 : Value) (a3 : CmdL), (Rp.int .i64).R W (fun k => k < W.heap.size) [v0] a0 → (Rp.int .i64).R W (fun k => k < W.heap.size) [v1] a1 → (Rp.slice Rp.cmd).R W (fun k => k < W.heap.size) [v2] a2 → Rd.cmd.R W (fun k => k < W.heap.size) [v3] a3 → (Rp.int .i64).μ a0 + (Rp.int .i64).μ a1 + (Rp.slice Rp.cmd).μ a2 + Rd.cmd.μ a3 ≤ 1048576 →
    Calls Try.prog 8 #[v0, v1, v2, v3] W fun e w' => e = .returned (.bool true) ∧ Kp No W w'

set_option maxRecDepth 100000 in
theorem ledgerOnceUpto_contract (walk : LedgerOnceUptoWalk) (H : Type) (enc : TypeId × Value → H) (W : World) (base : Nat) (args : Array Value) (ds gs : List (DataW H)) (before : List MemPlace)
    (hval : ∀ (j : Nat) t v, Try.f8.params[j]? = some t → args[j]? = some v → Value.okWide Try.prog W .any base t v)
    (hW : DataW.Whole enc Try.prog Try.f8.params.toList Rows.ledgerOnceSpec.vars false W args.toList ds gs before) (hk : Rows.uptoSmall H (ds ++ gs) = true) :
    Calls Try.prog 8 args W fun e W' => ∃ v, e = .returned v ∧ Rows.ledgerOnceSpec.post enc Try.prog Try.f8 false true false false W args v W' := by
  have hW' := hW
  obtain ⟨p, q, hA0, hV, rfl, hfz, hnd⟩ := hW
  have hA : DataW.TrodAll enc Try.prog W 0 (fun _ => true) true Try.f8.params.toList args.toList ds p := hA0
  rw [Try.params8] at hA hval
  obtain ⟨v0, vs0, d0, ds0, p0, q0, hargs, rfl, rfl, h0, r0⟩ := trodAll_cons hA
  obtain ⟨v1, vs1, d1, ds1, p1, q1, rfl, rfl, rfl, h1, r1⟩ := trodAll_cons r0
  obtain ⟨v2, vs2, d2, ds2, p2, q2, rfl, rfl, rfl, h2, r2⟩ := trodAll_cons r1
  obtain ⟨v3, vs3, d3, ds3, p3, q3, rfl, rfl, rfl, h3, r3⟩ := trodAll_cons r2
  obtain ⟨rfl, rfl, rfl⟩ := trodAll_nil r3
  obtain rfl : args = #[v0, v1, v2, v3] := by cases args; simp_all
  obtain ⟨rfl, rfl⟩ := trodVars_none hV
  clear hA0
  have c0 : v0.cells.toList = [v0] := one_of_int (okWide_int Try.underlying3 (hval 0 3 v0 rfl rfl))
  obtain ⟨a0, e0, m0⟩ := Arg.one (Arg.int Try.underlying3) c0 h0
  have c1 : v1.cells.toList = [v1] := one_of_int (okWide_int Try.underlying3 (hval 1 3 v1 rfl rfl))
  obtain ⟨a1, e1, m1⟩ := Arg.one (Arg.int Try.underlying3) c1 h1
  have c2 : v2.cells.toList = [v2] := one_of_slice (okWide_slice Try.underlying22 (hval 2 22 v2 rfl rfl))
  obtain ⟨a2, e2, m2⟩ := Arg.one (Arg.slice Try.underlying22 (by kernel_rfl) (Arg.cmd Try.underlying36 (by kernel_rfl) (by kernel_rfl) (by kernel_rfl) Try.underlying3 Try.underlying3 Try.underlying3 (Arg.opl Try.underlying33 (by kernel_rfl) (by kernel_rfl) (by kernel_rfl) Try.underlying3 Try.underlying3 Try.underlying3 Try.underlying3 Try.underlying3 Try.underlying3 Try.underlying9 (Arg.sht Try.underlying31 (by kernel_rfl) (by kernel_rfl) (by kernel_rfl) Try.underlying3 (Arg.slice Try.underlying29 (by kernel_rfl) (Arg.str Try.underlying9)))) Try.underlying3 Try.underlying3 (Arg.slice Try.underlying34 (by kernel_rfl) (Arg.opl Try.underlying33 (by kernel_rfl) (by kernel_rfl) (by kernel_rfl) Try.underlying3 Try.underlying3 Try.underlying3 Try.underlying3 Try.underlying3 Try.underlying3 Try.underlying9 (Arg.sht Try.underlying31 (by kernel_rfl) (by kernel_rfl) (by kernel_rfl) Try.underlying3 (Arg.slice Try.underlying29 (by kernel_rfl) (Arg.str Try.underlying9))))) Try.underlying3)) c2 h2
  obtain ⟨a3, e3, m3⟩ := cmd_arg Try.underlying36 (Arg.cmd Try.underlying36 (by kernel_rfl) (by kernel_rfl) (by kernel_rfl) Try.underlying3 Try.underlying3 Try.underlying3 (Arg.opl Try.underlying33 (by kernel_rfl) (by kernel_rfl) (by kernel_rfl) Try.underlying3 Try.underlying3 Try.underlying3 Try.underlying3 Try.underlying3 Try.underlying3 Try.underlying9 (Arg.sht Try.underlying31 (by kernel_rfl) (by kernel_rfl) (by kernel_rfl) Try.underlying3 (Arg.slice Try.underlying29 (by kernel_rfl) (Arg.str Try.underlying9)))) Try.underlying3 Try.underlying3 (Arg.slice Try.underlying34 (by kernel_rfl) (Arg.opl Try.underlying33 (by kernel_rfl) (by kernel_rfl) (by kernel_rfl) Try.underlying3 Try.underlying3 Try.underlying3 Try.underlying3 Try.underlying3 Try.underlying3 Try.underlying9 (Arg.sht Try.underlying31 (by kernel_rfl) (by kernel_rfl) (by kernel_rfl) Try.underlying3 (Arg.slice Try.underlying29 (by kernel_rfl) (Arg.str Try.underlying9))))) Try.underlying3) (hval 3 36 v3 rfl rfl) h3
  have hbd := bound_of hk
  simp only [List.append_nil, Rows.uptoBulkAll] at hbd
  refine (walk W v0 a0 v1 a1 v2 a2 v3 a3 e0 e1 e2 e3 (by omega)).mono fun e W' ⟨he, hb⟩ => ?_
  subst he
  refine ⟨_, rfl, post_of_law (tb := 4) (by kernel_rfl) ?_ (by kernel_rfl) Try.underlying4 rfl ?_ hW' hb⟩
  · rw [Try.params8]
    intro t ht
    simp only [List.mem_cons, List.not_mem_nil, or_false] at ht
    rcases ht with rfl | rfl | rfl | rfl <;> exact ⟨by kernel_rfl, by decide +kernel⟩
  · rw [Try.params8]
    intro l hl
    match l, hl with
    | [x0, x1, x2, x3], _ => rfl

set_option maxRecDepth 100000 in
theorem ledgerOnceUpto_lifted (walk : LedgerOnceUptoWalk) (os : Os) (started : os.Started) (H : Type) (enc : TypeId × Value → H) (F : Stop.Interp) :
    ReturnsInHanded {} Try.checked os 8 .any ((Rows.OpenSpec.upto Rows.ledgerOnceSpec).pre6 enc Try.prog Try.f8 Rows.ledgerOnceUptoRow.domain false) (((Rows.OpenSpec.upto Rows.ledgerOnceSpec).at F).post enc Try.prog Try.f8 false true false false) := by
  refine returnsInHanded_of_cond (C := Try.checked) (s := (Rows.OpenSpec.upto Rows.ledgerOnceSpec)) (k := Rows.uptoSmall) rfl (by kernel_rfl : ownKnob Try.prog.godebug = none) started (by kernel_rfl) Try.func8
    (OpenSpec.witness (enc := enc) (C := Try.checked) (s := (Rows.OpenSpec.upto Rows.ledgerOnceSpec)) (k := Rows.uptoSmall) rfl false ⟨#[], #[.int .i64 0, .int .i64 0, .slice none 0 0, .agg #[.int .i64 0, .int .i64 0, .int .i64 0, .int .i64 0, .int .i64 0, .int .i64 0, .int .i64 0, .int .i64 0, .int .i64 0, .string ByteArray.empty, .int .i64 0, .slice none 0 0, .int .i64 0, .int .i64 0, .slice none 0 0, .int .i64 0]], []⟩ 8 (by kernel_rfl) (by kernel_rfl) (by kernel_rfl)
      (x := ([.lit (.int .i64 0), .lit (.int .i64 0), .nil, .agg [.lit (.int .i64 0), .lit (.int .i64 0), .lit (.int .i64 0), .agg [.lit (.int .i64 0), .lit (.int .i64 0), .lit (.int .i64 0), .lit (.int .i64 0), .lit (.int .i64 0), .lit (.int .i64 0), .lit (.string []), .agg [.lit (.int .i64 0), .nil]], .lit (.int .i64 0), .lit (.int .i64 0), .nil, .lit (.int .i64 0)]], [], [])) (by kernel_rfl) rfl (by kernel_rfl)) ?_
  intro W base args ds gs before hval hW _ hk _
  exact ledgerOnceUpto_contract walk H enc W base args ds gs before hval hW hk
theorem ledgerOnceUpto_of (walk : LedgerOnceUptoWalk) : Rows.LedgerOnceUptoSaid :=
  OpenClaim.holds_of_cond 8 Try.f8 rfl rfl rfl rfl rfl rfl rfl ⟨rfl, rfl, rfl, rfl, rfl⟩ rfl rfl rfl rfl rfl (by kernel_rfl) Try.func8 (by kernel_rfl)
    (of_decide_eq_true (by kernel_rfl)) (by unfold Func.isWrapper; first | (rw [if_pos (by decide +kernel)]; kernel_rfl) | (rw [if_neg (by decide +kernel)]; exact ⟨rfl, rfl⟩))
    (fun os started H enc _ F => ledgerOnceUpto_lifted walk os started H enc F)
end
end Go.Proofs.Ytobgnklebfdbnaa
