/-
  Put together: ModK, ModL.
-/
import Derived.Test.YtamfgmlhopjppaaGB
import Derived.Test.YtamfgmlhopjppaaGF2
import Derived.Test.YtamfgmlhopjppaaGE
import Derived.Shelf.SlMaps.Clone
namespace Go.Proofs.Ytamfgmlhopjppaa
section
open Go.RowKit Go.ChangeShapes Go.WideShapes Go.ChangeAt

set_option maxRecDepth 100000 in
set_option maxHeartbeats 1000000 in
theorem c_cloneK (l : List AskL) (A : Option Addr) (c : Nat) (w : World) (S : Nat → Prop) (hl : Rp.ask.slice.R w S [.slice A l.length c] l) (hll : l.length ≤ 1000000) :
    Calls Try.prog 40 #[.slice A l.length c] w fun e w' => ∃ A' c', e = .returned (.slice A' l.length c') ∧ Own Rp.ask w' S w.heap.size 34 (.slice A' l.length c') l ∧ Kp No w w' := by
  cases A with
  | none =>
    obtain rfl := nil_of_none hl
    have he : (binOp .eql 29 (.slice none 0 c) (.slice none 0 0)).run Try.prog w = .ok (.bool true) w := run_eql_nil_slice w _ 34 none 0 c 0 0 Try.underlying29
    clear hl
    show Calls Try.prog _ #[.slice none 0 c] w _
    go_enter Try.func40, Try.ntmps40
    go_wp2_with fail
    go_ret
    exact ⟨_, _, rfl, Own.nil _ _ _ _ _, Kp.refl _ _⟩
  | some a =>
    have HL := Lib.hid hl
    have he : (binOp .eql 29 (.slice (some a) l.length c) (.slice none 0 0)).run Try.prog w = .ok (.bool false) w := by
      simp only [binOp]
      simp [Op.equal, Op.maxDepth, Lib.run_equalIn_slice_nil w 9999 29 34 (some a) l.length c 0 0 Try.underlying29]
    clear hl
    go_enter Try.func40, Try.ntmps40
    go_wp2_with (at_builtin; refine wpList_copy_lit (E := Rp.ask) rfl w (.tmp 5) (.tmp 6) 29 rfl 34 72 el_ask rfl (some a) c S l rfl HL.out Rp.ask_one (by omega) ?_; intro A' c' w' hown hk; have HO := Lib.hid hown; have HK := Lib.hid hk; clear hown hk)
    go_ret
    exact ⟨A', c', rfl, HO.out, HK.out⟩
end

section
open Go.RowKit Go.ChangeShapes Go.WideShapes Go.ChangeAt

set_option maxRecDepth 100000 in
set_option maxHeartbeats 1000000 in
theorem c_cloneM (b : Nat) (es : Array MapEntry) (clock : Nat) (w : World) (hb : w.heap[b]? = some (.map es clock)) :
    Calls Try.prog 39 #[.map (some b)] w fun e w' => e = .returned (.map (some w.heap.size)) ∧ w' = w.alloc (.map es clock) := by
  have hq := run_eql_map_nil_sl (P := Try.prog) w 64 _ _ (some b) Try.underlying64
  have hq2 : (binOp .eql 64 (.map (some b)) (.map none)).run Try.prog w = .ok (.bool false) w := hq
  clear hq
  go_enter Try.func39, Try.ntmps39
  go_wp2_with fail
  rw [run_callFunc_extern Try.func53 (by kernel_rfl) (by kernel_rfl) (by kernel_rfl) (e := Extern.MapsClone.clone) (by kernel_rfl), run_maps_clone_sl w 64 hb]
  simp only [Result.andThen]
  rw [Oper.upon_value]
  go_wp2_with fail
  rw [run_typeAssert_map_sl _ 64 _ _ _ _ Try.underlying64]
  simp only [Result.andThen]
  rw [Oper.upon_value]
  go_wp2_with fail
  go_ret
  exact ⟨rfl, rfl⟩
end
end Go.Proofs.Ytamfgmlhopjppaa
