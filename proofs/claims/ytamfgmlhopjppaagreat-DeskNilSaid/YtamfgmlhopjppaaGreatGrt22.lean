/-
  redoubtlaw22.great: it answers, whatever the calls are.
-/
import Derived.Test.YtamfgmlhopjppaaGreatOpD
import Derived.Test.YtamfgmlhopjppaaGreatArr
import Derived.Deep.MidRow
namespace Go.Proofs.YtamfgmlhopjppaaGreat
open Go.RowKit Go.ChangeShapes Go.WideShapes Go.ChangeAt

theorem run_loadAt_adr {P : Program} (w : World) (a : Addr) (ty : TypeId) (cs : List Value) (d : TypeDesc) (hc : ∀ j v, cs[j]? = some v → w.cell? (a.add j) = some v) (hu : P.underlying ty = some d) (hd : d.isRow = true) (hi : (P.info? ty).map (·.size) = some cs.length) :
    (Instr.loadAt ty (.pointer (some a))).run P w = .ok (.agg cs.toArray) w := by
  have hl : (loadCells a cs.length).run P w = .ok cs.toArray w := run_loadCells_list (P := P) w a cs hc
  have hv : (loadVar ty a).run P w = .ok (.agg cs.toArray) w := by
    cases hq : P.info? ty with
    | none => simp [hq] at hi
    | some i =>
      have hs : i.size = cs.length := by simpa [hq] using hi
      have hagg : (isAgg ty).run P w = .ok true w := by
        unfold isAgg
        rw [Sem.run_bind, run_underlying hu w]
        cases d <;> simp_all
      simp [loadVar, Sem.run_bind, hagg, sizeOf, typeInfo, hq, hs, hl]
  simp only [Instr.loadAt, Instr.sureAddr, Sem.run_bind, Sem.run_pure, Result.andThen_ok, hv]
theorem dop_size (o : DopL) (av cv hv ov : Value) : (o.cells av cv hv ov).length = 38 := rfl
theorem dop_one (o : DopL) (A B C D : Option Addr) (a b c d e f g h : Nat) : ((o.cells (.slice A a b) (.slice B c d) (.slice C e f) (.slice D g h)).toArray).all (·.oneCell') = true := by
  rw [Array.all_eq_true_iff_forall_mem]
  intro u hu
  simp only [List.mem_toArray, DopL.cells, AskL.cells, CmdL.cells, OpL.cells, List.cons_append, List.nil_append, List.mem_cons, List.not_mem_nil, or_false] at hu
  rcases hu with rfl | rfl | rfl | rfl | rfl | rfl | rfl | rfl | rfl | rfl | rfl | rfl | rfl | rfl | rfl | rfl | rfl | rfl | rfl | rfl | rfl | rfl | rfl | rfl | rfl | rfl | rfl | rfl | rfl | rfl | rfl | rfl | rfl | rfl | rfl | rfl | rfl | rfl <;> rfl
theorem dop_info : (Tryz.prog.info? 55).map (·.size) = some 38 := by kernel_rfl
def GreatD (e : Ending) : Prop := ∃ B, e = .returned (.bool B)
set_option maxRecDepth 100000 in
set_option maxHeartbeats 16000000 in
theorem h_great22 (l : List DopL) (A : Option Addr) (c : Nat) (w : World) (S : Nat → Prop) (hl : Rp.dop.slice.R w S [.slice A l.length c] l) :
    Calls Tryz.prog 18 #[.slice A l.length c] w fun e w' => GreatD e ∧ Kp No w w' := by
  have HL := Lib.hid hl
  have hll : (l.length : Int) ≤ 9223372036854775807 := by obtain ⟨_, _, he, h1, h2, _⟩ := hl; unfold maxLen at h2; omega
  clear hl
  go_enter Tryz.func18, Tryz.ntmps18
  go_wp2_with fail
  go_loopw [3, 10] (fun nv iv wr => ∃ (i : Nat) (x : Int), i ≤ l.length ∧ iv = .int .i64 (i : Int) ∧ nv = .int .i64 x ∧ Hid (Kp No w wr)) (fun _ iv _ => l.length - (intOf iv).toNat)
  case atStart => exact ⟨0, 0, by omega, rfl, rfl, Lib.hid (Kp.refl _ _)⟩
  case round =>
    obtain ⟨i, x, hi, rfl, rfl, HK⟩ := hrel
    by_cases hlt : i < l.length
    · have hli : (i : Int) < (l.length : Int) := by omega
      obtain ⟨o, ho⟩ : ∃ o, l[i]? = some o := ⟨_, List.getElem?_eq_getElem hlt⟩
      obtain ⟨ad, RA, ca, RC, cc, H, ch, O, co, rfl, _, hcell, _, _, _, _, hops⟩ := Rp.at_dop (Rp.dop.slice.keptNo HL.out HK.out) ho
      have HLD := Lib.hid (run_loadAt_adr (P := Tryz.prog) wr (ad.add (i * 38)) 55 _ _ hcell Tryz.underlying55 rfl dop_info)
      obtain ⟨Z, hZ⟩ : ∃ Z, (o.cells (.slice RA o.ra.holes.length ca) (.slice RC o.rc.holes.length cc) (.slice H o.cmd.op.hashes.length ch) (.slice O o.cmd.ops.length co)).toArray = Z := ⟨_, rfl⟩
      have HZS : Hid (Z.size = 38) := Lib.hid (by rw [← hZ]; rfl)
      have HZ1 : Hid (Z.all (·.oneCell') = true) := Lib.hid (by rw [← hZ]; exact dop_one _ _ _ _ _ _ _ _ _ _ _ _ _)
      have HY : Hid (Blk (wr.alloc (.cells Z 55)) wr.heap.size 55 (o.cells (.slice RA o.ra.holes.length ca) (.slice RC o.rc.holes.length cc) (.slice H o.cmd.op.hashes.length ch) (.slice O o.cmd.ops.length co))) := Lib.hid (by rw [← hZ]; exact Blk.new wr _ _)
      rw [hZ] at HLD
      obtain ⟨y, hy⟩ : ∃ v, wr.heap.size = v := ⟨_, rfl⟩
      obtain ⟨w1, hw1⟩ : ∃ v, wr.alloc (.cells Z 55) = v := ⟨_, rfl⟩
      have HK1 : Hid (Kp No wr w1) := Lib.hid (by rw [← hw1]; exact (Kp.refl _ _).alloc _)
      rw [hw1, hy] at HY
      have HYY := Lib.hid hy
      have HO := Lib.hid hops
      have hol : (o.cmd.ops.length : Int) ≤ 9223372036854775807 := by obtain ⟨_, _, he, h1, h2, _⟩ := hops; unfold maxLen at h2; omega
      have y16 : w1.cell? ⟨y, 16, none⟩ = some _ := Blk.cell HY.out rfl
      have y19 : w1.cell? ⟨y, 19, none⟩ = some _ := Blk.cell HY.out rfl
      have y8 : w1.cell? ⟨y, 8, none⟩ = some _ := Blk.cell HY.out rfl
      have y7 : w1.cell? ⟨y, 7, none⟩ = some _ := Blk.cell HY.out rfl
      have y33 : w1.cell? ⟨y, 33, none⟩ = some _ := Blk.cell HY.out rfl
      have y36 : w1.cell? ⟨y, 36, none⟩ = some _ := Blk.cell HY.out rfl
      clear hcell ho hops hZ hy
      go_upto_region 4 with fail
      go_wp2_with (first | (refine wpl_load (by first | rfl | go_simp) 55 _ rfl _ _ rfl HLD.out ?_; go_simp) | (refine wpList_store_new rfl _ 55 _ _ rfl rfl Z _ rfl (by rw [HZS.out]; exact dop_info) (by rw [HZS.out]; rfl) HZ1.out ?_; rw [hw1, HYY.out]; go_simp))
      · go_ret
        exact ⟨⟨true, rfl⟩, HK.out.trans' HK1.out⟩
      · skip
        clear y16 y19 y8 y7 y33 y36
        have HKW := Lib.hid (HK.out.trans' HK1.out)
        obtain ⟨OL, hOL⟩ : ∃ v, o.cmd.ops = v := ⟨_, rfl⟩
        rw [hOL] at HO hol ⊢
        clear hOL
        go_loopw [3, 56] (fun nv iv wr2 => ∃ (j : Nat) (y : Int), j ≤ OL.length ∧ iv = .int .i64 (j : Int) ∧ nv = .int .i64 y ∧ Hid (Kp No w wr2) ∧ Hid (Kp No wr wr2)) (fun _ iv _ => OL.length - (intOf iv).toNat)
        case atStart => exact ⟨0, _, Nat.zero_le _, rfl, rfl, HKW, HK1⟩
        case round =>
          obtain ⟨j, y, hj, rfl, rfl, HK2, HK3⟩ := hrel
          by_cases hjt : j < OL.length
          · have hji : (j : Int) < (OL.length : Int) := by omega
            obtain ⟨p, hp⟩ : ∃ p, OL[j]? = some p := ⟨_, List.getElem?_eq_getElem hjt⟩
            obtain ⟨ad2, A2, c2, rfl, _, hcell, _, _⟩ := Rp.at_opl (Rp.opl.slice.keptNo HO.out HK3.out) hp
            obtain ⟨y0, y1, y2, y3, y4, y5, y6, y7, y8⟩ := opl_cells hcell
            clear hcell hp
            obtain ⟨pn, pe, pk, ps, pc, pq, pnm, psz, phs⟩ := p
            simp only at *
            go_wp2_with fail
            all_goals first
              | (go_ret
                 exact ⟨⟨true, rfl⟩, HK2.out.alloc _⟩)
              | (go_roundw
                 case rel => exact ⟨j + 1, _, by omega, by go_num, rfl, Lib.hid (HK2.out.alloc _), Lib.hid (HK3.out.alloc _)⟩
                 case measure => simp [intOf]; omega)
          · obtain rfl : j = OL.length := by omega
            go_wp2_with fail
            go_roundw
            case rel => exact ⟨i + 1, _, by omega, by go_num, rfl, HK2⟩
            case measure => simp [intOf]; omega
    · obtain rfl : i = l.length := by omega
      go_wp2_with fail
      go_ret
      exact ⟨⟨_, rfl⟩, HK.out⟩
end Go.Proofs.YtamfgmlhopjppaaGreat
