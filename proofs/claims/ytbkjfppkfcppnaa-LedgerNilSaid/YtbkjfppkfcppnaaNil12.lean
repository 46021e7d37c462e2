/-
  What a ledger that is none tells: its sheets, its puts, its needs.
-/
import Derived.Test.YtbkjfppkfcppnaaLed1
import Derived.Test.YtbkjfppkfcppnaaShelf
import Derived.Laws.ResultCell
namespace Go.Proofs.Ytbkjfppkfcppnaa
open Go.RowKit Go.ChangeShapes Go.WideShapes Go.ChangeAt

theorem results_ctL {P : Program} {fn : Func} {p u : Tmp} {ty : TypeId} (h : fn.results = #[.cell p ty, .tmp u]) (tmps : Array Value) (w : World) (g : Nat) (t : TypeId) (cs : Array Value) (fr : Nat × Nat) (d : TypeDesc)
    (hp : tmps.getD p undef = .pointer (some ⟨g, 0, none⟩)) (hg : w.heap[g]? = some (.cells cs t fr)) (hu : P.underlying ty = some d) (hd : (match d with | .struct _ | .array _ _ => true | _ => false) = true) (hi : (P.info? ty).map (·.size) = some cs.size) :
    (results fn tmps).run P w = .ok (.tuple #[.agg cs, tmps.getD u undef]) w := by
  rw [results_cell_tmp h, hp]
  simp [asAddr, run_loadVar_row w g t ty cs fr d hg hu hd hi, Result.andThen]
set_option maxRecDepth 100000 in
theorem l_puts_nil (w : World) : Calls Try.prog 51 #[.pointer none] w fun e w' => e = .returned (.slice none 0 0) ∧ w' = w := by
  go_enter Try.func51, Try.ntmps51
  go_wp2_with fail
  go_ret
  exact ⟨rfl, rfl⟩
set_option maxRecDepth 100000 in
theorem c_compact_nil (w : World) : Calls Try.prog 90 #[.slice none 0 0] w fun e w' => e = .returned (.slice none 0 0) ∧ w' = w := by
  go_enter Try.func90, Try.ntmps90
  go_wp2_with fail
  go_ret
  exact ⟨rfl, rfl⟩
theorem c_sort_nil (w : World) : Calls Try.prog 89 #[.slice none 0 0] w fun e w' => e = .returned (.tuple #[]) ∧ w' = w := AnyM.slices_Sort_string_none sh_sort89 none 0 w
set_option maxRecDepth 100000 in
theorem l_needs_nil (w : World) : Calls Try.prog 52 #[.pointer none] w fun e w' => e = .returned (.slice none 0 0) ∧ w' = w := by
  go_enter Try.func52, Try.ntmps52
  go_wp2_with fail
  refine (l_puts_nil w).mono ?_
  rintro e w1 ⟨rfl, rfl⟩
  go_wp2_with fail
  go_loopw [3, 9] (fun ov iv wr => ov = .slice none 0 0 ∧ iv = .int .i64 0 ∧ wr = w1) (fun _ _ _ => 0)
  case atStart => exact ⟨rfl, rfl, rfl⟩
  case round =>
    obtain ⟨rfl, rfl, rfl⟩ := hrel
    go_wp2_with fail
    refine (c_sort_nil wr).mono ?_
    rintro e w2 ⟨rfl, rfl⟩
    go_wp2_with fail
    refine (c_compact_nil w2).mono ?_
    rintro e w3 ⟨rfl, rfl⟩
    go_wp2_with fail
    go_ret
    exact ⟨rfl, rfl⟩
set_option maxRecDepth 100000 in
theorem l_sheet_nil (n : ByteArray) (w : World) : Calls Try.prog 48 #[.pointer none, .string n] w fun e w' => e = .returned (.tuple #[.agg #[.int .i64 0, .slice none 0 0], .bool false]) ∧ Kp No w w' := by
  obtain ⟨x, hx⟩ : ∃ x, w.heap.size = x := ⟨_, rfl⟩
  obtain ⟨wa, hwa⟩ : ∃ wa, w.alloc (.cells #[.int .i64 0, .slice none 0 0] 31) = wa := ⟨_, rfl⟩
  have hk : Kp No w wa := by rw [← hwa]; exact (Kp.refl _ _).alloc _
  have hb : Blk wa x 31 [.int .i64 0, .slice none 0 0] := by rw [← hwa, ← hx]; exact Blk.new w _ _
  have HB := Lib.hid hb
  have HK := Lib.hid hk
  have HX := Lib.hid hx
  have g0 := Blk.fr hb 0
  have g1 := Blk.fr hb 1
  have u0 : wa.cell? ⟨x, 0, none⟩ = some _ := Blk.cell hb rfl
  have u1 : wa.cell? ⟨x, 1, none⟩ = some _ := Blk.cell hb rfl
  clear hk hb
  go_enter Try.func48, Try.ntmps48
  go_wp2_with fail
  have hbf : Blk ((wa.setCell ⟨x, 0, none⟩ (.int .i64 0)).setCell ⟨x, 1, none⟩ (.slice none 0 0)) x 31 [.int .i64 0, .slice none 0 0] := Blk.set (Blk.set HB.out 0 (.int .i64 0)) 1 (.slice none 0 0)
  have hkf : Kp No w ((wa.setCell ⟨x, 0, none⟩ (.int .i64 0)).setCell ⟨x, 1, none⟩ (.slice none 0 0)) := HK.out.trans (((Kp.refl (· = x) wa).setCell (p := ⟨x, 0, none⟩) (fun _ => rfl) _).setCell (p := ⟨x, 1, none⟩) (fun _ => rfl) _) (fun i hi e => by have := HX.out; omega)
  refine bodyPost_ret (results_ctL rfl _ _ x _ _ _ _ rfl hbf Try.underlying31 rfl (by kernel_rfl)) rfl ⟨rfl, hkf⟩
end Go.Proofs.Ytbkjfppkfcppnaa
