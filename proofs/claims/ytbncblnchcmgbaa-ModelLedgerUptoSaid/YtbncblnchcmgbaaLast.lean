/-
  (*Ledger).Last.
-/
import Derived.Test.YtbncblnchcmgbaaPart
namespace Go.Proofs.Ytbncblnchcmgbaa
open Go.RowKit Go.ChangeShapes Go.WideShapes Go.ChangeAt

set_option maxRecDepth 100000 in
set_option maxHeartbeats 2000000 in
theorem a_last (l : Nat) (L : LV) (F : Nat → Prop) (w : World) (h : LAt w l L F) (hl : L.ops.length ≤ 1000000) :
    Calls Try.prog 36 #[.pointer (some ⟨l, 0, none⟩)] w fun x w' => x = .returned (.agg #[.int .i64 (lastL L).1, .int .i64 (lastL L).2]) ∧ Kp No w w' := by
  obtain ⟨b1, b2, ov, lv, S, hin, _⟩ := h
  obtain ⟨A, c, rfl⟩ := hin.oshape
  obtain ⟨x, hx⟩ : ∃ x, w.heap.size = x := ⟨_, rfl⟩
  obtain ⟨wa, hwa⟩ : ∃ wa, w.alloc (.cells #[.int .i64 0, .int .i64 0] 54) = wa := ⟨_, rfl⟩
  have hk : Kp No w wa := by rw [← hwa]; exact (Kp.refl _ _).alloc _
  have hb : Blk wa x 54 [.int .i64 0, .int .i64 0] := by rw [← hwa, ← hx]; exact Blk.new w _ _
  have hi := hin.keptNo hk
  have k5 : wa.cell? ⟨l, 5, none⟩ = some (.slice A L.ops.length c) := Blk.cell hi.fat.blk rfl
  have HI := Lib.hid hi
  have HB := Lib.hid hb
  have HK := Lib.hid hk
  have HX := Lib.hid hx
  obtain ⟨⟨p, q⟩, hp⟩ : ∃ p, lastL L = p := ⟨_, rfl⟩
  rw [hp]
  have HP := Lib.hid hp
  clear hp hi hk hin
  rcases Nat.eq_zero_or_pos L.ops.length with h0 | h0
  · have hz := List.eq_nil_of_length_eq_zero h0
    have hpq := HP.out
    unfold lastL at hpq
    rw [hz] at hpq
    simp only [List.getLast?_nil, Prod.mk.injEq] at hpq
    obtain ⟨rfl, rfl⟩ := hpq
    rw [h0] at k5
    have g0 := Blk.fr hb 0
    have g1 := Blk.fr hb 1
    have u0 : wa.cell? ⟨x, 0, none⟩ = some _ := Blk.cell hb rfl
    have u1 : wa.cell? ⟨x, 1, none⟩ = some _ := Blk.cell hb rfl
    clear h0 hz hb HP
    go_enter Try.func36, Try.ntmps36
    go_wp2_with fail
    have hbf : Blk ((wa.setCell ⟨x, 0, none⟩ (.int .i64 0)).setCell ⟨x, 1, none⟩ (.int .i64 0)) x 54 [.int .i64 0, .int .i64 0] := Blk.set (Blk.set HB.out 0 (.int .i64 0)) 1 (.int .i64 0)
    have hkf : Kp No w ((wa.setCell ⟨x, 0, none⟩ (.int .i64 0)).setCell ⟨x, 1, none⟩ (.int .i64 0)) := HK.out.trans (((Kp.refl (· = x) wa).setCell (p := ⟨x, 0, none⟩) (fun _ => rfl) _).setCell (p := ⟨x, 1, none⟩) (fun _ => rfl) _) (fun i hi e => by have := HX.out; omega)
    exact bodyPost_ret (results_cell_row rfl _ _ x _ _ _ _ rfl hbf Try.underlying54 rfl (by kernel_rfl)) rfl ⟨rfl, hkf⟩
  · obtain ⟨n, hn⟩ : ∃ n, L.ops.length = n + 1 := ⟨L.ops.length - 1, by omega⟩
    obtain ⟨o, ho⟩ : ∃ o, L.ops[n]? = some o := ⟨_, List.getElem?_eq_getElem (by omega)⟩
    have hpq := HP.out
    unfold lastL at hpq
    rw [List.getLast?_eq_getElem?, hn, show n + 1 - 1 = n from rfl, ho] at hpq
    simp only [Prod.mk.injEq] at hpq
    obtain ⟨rfl, rfl⟩ := hpq
    obtain ⟨g, A', c', rfl, _, _, hcell, _, _, _⟩ := Own.at_opl HI.out.ops ho
    have z0 : wa.cell? ⟨g, n * 9, none⟩ = some _ := hcell 0 _ rfl
    have z1 : wa.cell? ⟨g, n * 9 + 1, none⟩ = some _ := hcell 1 _ rfl
    have z2 : wa.cell? ⟨g, n * 9 + 2, none⟩ = some _ := hcell 2 _ rfl
    have z3 : wa.cell? ⟨g, n * 9 + 3, none⟩ = some _ := hcell 3 _ rfl
    have z4 : wa.cell? ⟨g, n * 9 + 4, none⟩ = some _ := hcell 4 _ rfl
    have z5 : wa.cell? ⟨g, n * 9 + 5, none⟩ = some _ := hcell 5 _ rfl
    have z6 : wa.cell? ⟨g, n * 9 + 6, none⟩ = some _ := hcell 6 _ rfl
    have z7 : wa.cell? ⟨g, n * 9 + 7, none⟩ = some _ := hcell 7 _ rfl
    have z8 : wa.cell? ⟨g, n * 9 + 8, none⟩ = some _ := hcell 8 _ rfl
    obtain ⟨nh, hnh⟩ : ∃ nh, o.hashes.length = nh := ⟨_, rfl⟩
    rw [hnh] at z8
    rw [hn] at k5
    have hn6 : n ≤ 1000000 := by omega
    have hwn : IntKind.i64.wrap (n : Int) = (n : Int) := by rw [IntKind.wrap_i64]; omega
    have hnlt : (n : Int) < (n : Int) + 1 := by omega
    clear ho hcell hnh h0 hn hb HP hl
    go_enter Try.func36, Try.ntmps36
    go_upto_region 3 with fail
    clear hwa hx
    refine Reg.wp_region_plan [⟨0, false, []⟩, ⟨1, false, []⟩, ⟨2, false, []⟩, ⟨3, false, []⟩, ⟨4, false, []⟩, ⟨5, false, []⟩, ⟨6, false, []⟩, ⟨7, false, []⟩, ⟨8, false, []⟩, ⟨9, false, []⟩, ⟨10, false, []⟩, ⟨11, false, []⟩, ⟨12, true, []⟩, ⟨13, true, []⟩] rfl (by kernel_rfl) ?_
    repeat (first | (refine Reg.look rfl rfl rfl (by go_simp; rfl) rfl ?_; go_simp) | (refine Reg.skip rfl rfl rfl ?_; go_simp))
    refine Reg.act rfl ?_
    go_wp2_with fail
    refine (l_spot o (.slice A' nh c') wa.drew).mono ?_
    rintro e w9 ⟨rfl, hk9⟩
    have hk9 := ((Kp.refl No wa).drew).trans' hk9
    have hb9 := HB.out.kept hk9 (fun x => x)
    have HB9 := Lib.hid hb9
    have HK9 := Lib.hid (HK.out.trans' hk9)
    have g0 := Blk.fr hb9 0
    have g1 := Blk.fr hb9 1
    have u0 : w9.cell? ⟨x, 0, none⟩ = some _ := Blk.cell hb9 rfl
    have u1 : w9.cell? ⟨x, 1, none⟩ = some _ := Blk.cell hb9 rfl
    clear hk9 hb9 z0 z1 z2 z3 z4 z5 z6 z7 z8 k5
    go_wp2_with fail
    refine ⟨Reg.anew_nil, ?_⟩
    refine Reg.act rfl ?_
    go_wp2_with fail
    refine ⟨Reg.anew_nil, ?_⟩
    (refine Reg.done ?_; simp only [Exit.then])
    clear g0 g1 u0 u1
    go_wp2_with fail
    have hbf : Blk ((w9.setCell ⟨x, 0, none⟩ (.int .i64 o.n)).setCell ⟨x, 1, none⟩ (.int .i64 o.epoch)) x 54 [.int .i64 o.n, .int .i64 o.epoch] := Blk.set (Blk.set HB9.out 0 (.int .i64 o.n)) 1 (.int .i64 o.epoch)
    have hkf : Kp No w ((w9.setCell ⟨x, 0, none⟩ (.int .i64 o.n)).setCell ⟨x, 1, none⟩ (.int .i64 o.epoch)) := HK9.out.trans (((Kp.refl (· = x) w9).setCell (p := ⟨x, 0, none⟩) (fun _ => rfl) _).setCell (p := ⟨x, 1, none⟩) (fun _ => rfl) _) (fun i hi e => by have := HX.out; omega)
    exact bodyPost_ret (results_cell_row rfl _ _ x _ _ _ _ rfl hbf Try.underlying54 rfl (by kernel_rfl)) rfl ⟨rfl, hkf⟩

end Go.Proofs.Ytbncblnchcmgbaa
