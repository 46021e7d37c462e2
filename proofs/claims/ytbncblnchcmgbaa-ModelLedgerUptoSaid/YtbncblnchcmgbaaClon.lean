/-
  slices.Clone of texts and of operations.
-/
import Derived.Test.YtbncblnchcmgbaaOpL
import Derived.Test.YtbncblnchcmgbaaBy
import Derived.Test.YtbncblnchcmgbaaReg
namespace Go.Proofs.Ytbncblnchcmgbaa
open Go.RowKit Go.ChangeShapes Go.WideShapes Go.ChangeAt

theorem el_strL : Elem Try.prog 34 9 1 16 := Elem.of Try.underlying34 (z := .string ByteArray.empty) (by kernel_rfl) rfl (by decide)
theorem el_op : Elem Try.prog 42 38 9 96 := Elem.of Try.underlying42 (z := .agg #[.int .i64 0, .int .i64 0, .int .i64 0, .int .i64 0, .int .i64 0, .int .i64 0, .string ByteArray.empty, .int .i64 0, .slice none 0 0]) (by kernel_rfl) rfl (by decide)
theorem Rp.opl_one {w : World} : ∀ cs a S', Rp.opl.R w S' cs a → ∀ u ∈ cs, u.oneCell' = true := by
  rintro cs a S' ⟨v, rfl, _, A, c, hv, _⟩ u hu
  simp only [List.cons.injEq, and_true] at hv
  subst hv
  simp only [OpL.cells, List.mem_cons, List.not_mem_nil, or_false] at hu
  rcases hu with rfl | rfl | rfl | rfl | rfl | rfl | rfl | rfl | rfl <;> rfl
theorem nil_of_none {α : Type} {E : Rp α} {w : World} {S : Nat → Prop} {c : Nat} {l : List α} (h : E.slice.R w S [.slice none l.length c] l) : l = [] := by
  obtain ⟨A, c', he, _, _, h3⟩ := h
  simp only [List.cons.injEq, Value.slice.injEq, and_true, true_and] at he
  obtain ⟨rfl, rfl⟩ := he
  rcases Nat.eq_zero_or_pos l.length with h | h
  · exact List.eq_nil_of_length_eq_zero h
  · obtain ⟨ad, he, _⟩ := h3 h
    cases he
set_option maxRecDepth 100000 in
set_option maxHeartbeats 1000000 in
theorem c_cloneS (l : List ByteArray) (A : Option Addr) (c : Nat) (w : World) (S : Nat → Prop) (hl : Rp.str.slice.R w S [.slice A l.length c] l) (hll : l.length ≤ 1000000) :
    Calls Try.prog 52 #[.slice A l.length c] w fun e w' => ∃ A' c', e = .returned (.slice A' l.length c') ∧ Own Rp.str w' No w.heap.size 9 (.slice A' l.length c') l ∧ Kp No w w' := by
  cases A with
  | none =>
    obtain rfl := nil_of_none hl
    have he : (binOp .eql 34 (.slice none 0 c) (.slice none 0 0)).run Try.prog w = .ok (.bool true) w := run_eql_nil_slice w _ 9 none 0 c 0 0 Try.underlying34
    clear hl
    show Calls Try.prog _ #[.slice none 0 c] w _
    go_enter Try.func52, Try.ntmps52
    go_wp2_with fail
    go_ret
    exact ⟨_, _, rfl, Own.nil _ _ _ _ _, Kp.refl _ _⟩
  | some a =>
    have HL := Lib.hid hl
    have he : (binOp .eql 34 (.slice (some a) l.length c) (.slice none 0 0)).run Try.prog w = .ok (.bool false) w := by
      simp only [binOp]
      simp [Op.equal, Op.maxDepth, Lib.run_equalIn_slice_nil w 9999 34 9 (some a) l.length c 0 0 Try.underlying34]
    clear hl
    go_enter Try.func52, Try.ntmps52
    go_wp2_with (at_builtin; refine wpList_copy_lit (E := Rp.str) rfl w (.tmp 5) (.tmp 6) 34 rfl 9 16 el_strL rfl (some a) c S l rfl HL.out Rp.str_one (by omega) ?_; intro A' c' w' hown hk; have HO := Lib.hid (hown.str_any No); have HK := Lib.hid hk; clear hown hk)
    go_ret
    exact ⟨A', c', rfl, HO.out, HK.out⟩
set_option maxRecDepth 100000 in
set_option maxHeartbeats 1000000 in
theorem c_cloneO (l : List OpL) (A : Option Addr) (c : Nat) (w : World) (S : Nat → Prop) (hl : Rp.opl.slice.R w S [.slice A l.length c] l) (hll : l.length ≤ 1000000) :
    Calls Try.prog 74 #[.slice A l.length c] w fun e w' => ∃ A' c', e = .returned (.slice A' l.length c') ∧ Own Rp.opl w' S w.heap.size 38 (.slice A' l.length c') l ∧ Kp No w w' := by
  cases A with
  | none =>
    obtain rfl := nil_of_none hl
    have he : (binOp .eql 42 (.slice none 0 c) (.slice none 0 0)).run Try.prog w = .ok (.bool true) w := run_eql_nil_slice w _ 38 none 0 c 0 0 Try.underlying42
    clear hl
    show Calls Try.prog _ #[.slice none 0 c] w _
    go_enter Try.func74, Try.ntmps74
    go_wp2_with fail
    go_ret
    exact ⟨_, _, rfl, Own.nil _ _ _ _ _, Kp.refl _ _⟩
  | some a =>
    have HL := Lib.hid hl
    have he : (binOp .eql 42 (.slice (some a) l.length c) (.slice none 0 0)).run Try.prog w = .ok (.bool false) w := by
      simp only [binOp]
      simp [Op.equal, Op.maxDepth, Lib.run_equalIn_slice_nil w 9999 42 38 (some a) l.length c 0 0 Try.underlying42]
    clear hl
    go_enter Try.func74, Try.ntmps74
    go_wp2_with (at_builtin; refine wpList_copy_lit (E := Rp.opl) rfl w (.tmp 5) (.tmp 6) 42 rfl 38 96 el_op rfl (some a) c S l rfl HL.out Rp.opl_one (by omega) ?_; intro A' c' w' hown hk; have HO := Lib.hid hown; have HK := Lib.hid hk; clear hown hk)
    go_ret
    exact ⟨A', c', rfl, HO.out, HK.out⟩
end Go.Proofs.Ytbncblnchcmgbaa
