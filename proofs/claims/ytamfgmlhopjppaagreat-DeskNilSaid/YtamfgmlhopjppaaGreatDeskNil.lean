/-
  A desk that is none answers nothing: DeskNil answers true for every input.
-/
import Derived.Test.YtamfgmlhopjppaaGreatDkZ
import Derived.Test.YtamfgmlhopjppaaGreatGrt22
import Derived.Test.YtamfgmlhopjppaaGreatAwk22
import Derived.Test.YtamfgmlhopjppaaGreatFDeskNil
namespace Go.Proofs.YtamfgmlhopjppaaGreat
open Go.RowKit Go.ChangeShapes Go.WideShapes Go.ChangeAt

theorem run_lit_dop (w : World) (o : DopL) (A B C D : Option Addr) (a b c d e f g h : Nat) : (Instr.buildSlice 57 1 #[(0, dopV o (.slice A a b) (.slice B c d) (.slice C e f) (.slice D g h))]).run Tryz.prog w = .ok (.slice (some ⟨w.heap.size, 0, none⟩) 1 1) (w.alloc (.cells (o.cells (.slice A a b) (.slice B c d) (.slice C e f) (.slice D g h)).toArray 55)) := by
  unfold dopV DopL.cells AskL.cells CmdL.cells OpL.cells
  go_simp
/-- a new row of one call -/
theorem dop_lit (w : World) (o : DopL) (av cv hv ov : Value) (S : Nat → Prop) (hS : S w.heap.size) (hn : o.nums) (h1 : (Rp.int .i64).slice.R w S [av] o.ra.holes) (h2 : (Rp.int .i64).slice.R w S [cv] o.rc.holes) (h3 : Rp.str.slice.R w S [hv] o.cmd.op.hashes) (h4 : Rp.opl.slice.R w S [ov] o.cmd.ops) :
    Rp.dop.slice.R (w.alloc (.cells (o.cells av cv hv ov).toArray 55)) S [.slice (some ⟨w.heap.size, 0, none⟩) 1 1] [o] := by
  refine ⟨_, _, rfl, Nat.le_refl _, by unfold maxLen; simp, fun _ => ⟨_, rfl, hS, fun i b hi => ?_⟩⟩
  obtain rfl : i = 0 := by have := (List.getElem?_eq_some_iff.1 hi).1; simp at this; exact this
  injection hi with hi
  subst hi
  have hk := (Kp.refl No w).alloc (.cells (o.cells av cv hv ov).toArray 55)
  refine ⟨o.cells av cv hv ov, fun j u hu => ?_, _, _, _, _, rfl, hn, (Rp.int .i64).slice.keptNo h1 hk, (Rp.int .i64).slice.keptNo h2 hk, Rp.str.slice.keptNo h3 hk, Rp.opl.slice.keptNo h4 hk⟩
  rw [Addr.add_lit, Addr.add_lit]
  have hb : Blk (w.alloc (.cells (o.cells av cv hv ov).toArray 55)) w.heap.size 55 (o.cells av cv hv ov) := Blk.new w _ _
  have h2 := hb.cell hu
  simpa using h2
set_option maxRecDepth 100000 in
set_option maxHeartbeats 40000000 in
theorem deskNil_walk : DeskNilWalk := by
  intro W v0 o h0
  obtain ⟨RA, ca, RC, cc, H, ch, O, co, hv0, hnum, hra, hrc, hrh, hro⟩ := h0
  simp only [List.cons.injEq, and_true] at hv0
  subst hv0
  obtain ⟨Z, hZ⟩ : ∃ Z, (o.cells (.slice RA o.ra.holes.length ca) (.slice RC o.rc.holes.length cc) (.slice H o.cmd.op.hashes.length ch) (.slice O o.cmd.ops.length co)).toArray = Z := ⟨_, rfl⟩
  have hdv : dopV o (.slice RA o.ra.holes.length ca) (.slice RC o.rc.holes.length cc) (.slice H o.cmd.op.hashes.length ch) (.slice O o.cmd.ops.length co) = .agg Z := by rw [← hZ]; rfl
  obtain ⟨y, hy⟩ : ∃ v, W.heap.size = v := ⟨_, rfl⟩
  obtain ⟨w1, hw1⟩ : ∃ v, W.alloc (.cells Z 55) = v := ⟨_, rfl⟩
  have hk1 : Kp No W w1 := by rw [← hw1]; exact (Kp.refl _ _).alloc _
  have HY : Hid (Blk w1 y 55 (o.cells (.slice RA o.ra.holes.length ca) (.slice RC o.rc.holes.length cc) (.slice H o.cmd.op.hashes.length ch) (.slice O o.cmd.ops.length co))) := Lib.hid (by rw [← hw1, ← hy, ← hZ]; exact Blk.new W _ _)
  have HK1 := Lib.hid hk1
  have HLD := Lib.hid (fun w (hk : Kp No w1 w) => by
    have h := run_loadAt_adr (P := Tryz.prog) w ⟨y, 0, none⟩ 55 (o.cells (.slice RA o.ra.holes.length ca) (.slice RC o.rc.holes.length cc) (.slice H o.cmd.op.hashes.length ch) (.slice O o.cmd.ops.length co)) _ (fun j v hv => by
      have h2 := (HY.out.kept hk (fun h => h)).cell hv
      rw [Addr.add_lit]
      simpa using h2) Tryz.underlying55 rfl dop_info
    rw [hZ] at h
    exact h)
  have HLI := Lib.hid (fun w => by
    have h := run_lit_dop w o RA RC H O o.ra.holes.length ca o.rc.holes.length cc o.cmd.op.hashes.length ch o.cmd.ops.length co
    rw [hdv, hZ] at h
    exact h)
  have HDL := Lib.hid (fun w (hk : Kp No W w) => by
    have h := dop_lit w o (.slice RA o.ra.holes.length ca) (.slice RC o.rc.holes.length cc) (.slice H o.cmd.op.hashes.length ch) (.slice O o.cmd.ops.length co) (fun _ => True) trivial hnum ((Rp.int .i64).slice.more ((Rp.int .i64).slice.keptNo hra hk) (fun _ _ => trivial)) ((Rp.int .i64).slice.more ((Rp.int .i64).slice.keptNo hrc hk) (fun _ _ => trivial)) (Rp.str.slice.more (Rp.str.slice.keptNo hrh hk) (fun _ _ => trivial)) (Rp.opl.slice.more (Rp.opl.slice.keptNo hro hk) (fun _ _ => trivial))
    rw [hZ] at h
    exact h)
  rw [hdv]
  clear hdv hk1 hnum hra hrc hrh hro hZ
  go_enter Tryz.func4, Tryz.ntmps4
  go_upto_region 1 with fail
  try rw [hw1]
  try rw [hy]
  clear hw1 hy
  go_wp2_with fail
  refine (h_awake22 w1).mono ?_
  rintro e w2 ⟨rfl, hk2⟩
  have HK2 := Lib.hid hk2
  have HL2 := Lib.hid (HLD.out w2 hk2)
  obtain ⟨g, hg⟩ : ∃ v, w2.heap.size = v := ⟨_, rfl⟩
  have hli := HLI.out w2
  have hdl := HDL.out w2 (HK1.out.trans' hk2)
  obtain ⟨w3, hw3⟩ : ∃ v, w2.alloc (.cells Z 55) = v := ⟨_, rfl⟩
  have hk3 : Kp No w2 w3 := by rw [← hw3]; exact (Kp.refl _ _).alloc _
  rw [hw3, hg] at hli hdl
  have HL3 := Lib.hid hli
  have HK3 := Lib.hid (hk2.trans' hk3)
  have HGR := Lib.hid (h_great22 [o] (some ⟨g, 0, none⟩) 1 w3 _ hdl)
  clear hk2 hk3 hli hdl hg hw3 HLD HLI HDL
  go_wp2_with (first | (refine wpl_load (by first | rfl | go_simp) 55 _ rfl _ _ rfl HL2.out ?_; go_simp) | (refine wpList_litW (by first | rfl | go_simp) 57 _ rfl _ _ (by go_simp) HL3.out ?_; go_simp))
  refine HGR.out.mono ?_
  rintro e w4 ⟨⟨b, rfl⟩, hk4⟩
  have HK4 := Lib.hid (HK3.out.trans' hk4)
  clear hk4 HGR HL2 HL3
  cases b
  case true =>
    go_wp2_with fail
    refine (h_awake22 w4).mono ?_
    rintro e w5 ⟨rfl, hk5⟩
    have HK5 := Lib.hid ((HK1.out.trans' HK4.out).trans' hk5)
    clear hk5
    go_wp2_with fail
    go_ret
    exact ⟨rfl, HK5.out⟩
  case false =>
  have hadd := fun w => k_add_nil o.k1 o.ask o.k2 o.k3 w
  unfold askW at hadd
  have HADD := Lib.hid hadd
  have hagr := fun w => k_agreed_nil o.k2 o.k3 o.dn w
  unfold doneV at hagr
  have HAGR := Lib.hid hagr
  have hset := fun w => k_settle_nil o.ra o.rc (.slice RA o.ra.holes.length ca) (.slice RC o.rc.holes.length cc) o.sb.1 o.sb.2 w
  unfold reachW at hset
  have HSET := Lib.hid hset
  clear hadd hagr hset
  have y1 : w4.cell? ⟨y, 1, none⟩ = some _ := Blk.cell (HY.out.kept HK4.out (fun h => h)) rfl
  have y2 : w4.cell? ⟨y, 2, none⟩ = some _ := Blk.cell (HY.out.kept HK4.out (fun h => h)) rfl
  have y3 : w4.cell? ⟨y, 3, none⟩ = some _ := Blk.cell (HY.out.kept HK4.out (fun h => h)) rfl
  have y4 : w4.cell? ⟨y, 4, none⟩ = some _ := Blk.cell (HY.out.kept HK4.out (fun h => h)) rfl
  have y5 : w4.cell? ⟨y, 5, none⟩ = some _ := Blk.cell (HY.out.kept HK4.out (fun h => h)) rfl
  have y6 : w4.cell? ⟨y, 6, none⟩ = some _ := Blk.cell (HY.out.kept HK4.out (fun h => h)) rfl
  have y7 : w4.cell? ⟨y, 7, none⟩ = some _ := Blk.cell (HY.out.kept HK4.out (fun h => h)) rfl
  have y8 : w4.cell? ⟨y, 8, none⟩ = some _ := Blk.cell (HY.out.kept HK4.out (fun h => h)) rfl
  have y9 : w4.cell? ⟨y, 9, none⟩ = some _ := Blk.cell (HY.out.kept HK4.out (fun h => h)) rfl
  have y10 : w4.cell? ⟨y, 10, none⟩ = some _ := Blk.cell (HY.out.kept HK4.out (fun h => h)) rfl
  have y11 : w4.cell? ⟨y, 11, none⟩ = some _ := Blk.cell (HY.out.kept HK4.out (fun h => h)) rfl
  have y12 : w4.cell? ⟨y, 12, none⟩ = some _ := Blk.cell (HY.out.kept HK4.out (fun h => h)) rfl
  have y13 : w4.cell? ⟨y, 13, none⟩ = some _ := Blk.cell (HY.out.kept HK4.out (fun h => h)) rfl
  go_wp2_with fail
  refine (HADD.out w4).mono ?_
  rintro e w5 ⟨rfl, hk5⟩
  have HK5 := Lib.hid (HK4.out.trans' hk5)
  clear hk5 HADD
  clear y1 y2 y3 y4 y5 y6 y7 y8 y9 y10 y11 y12 y13
  have y1 : w5.cell? ⟨y, 1, none⟩ = some _ := Blk.cell (HY.out.kept HK5.out (fun h => h)) rfl
  have y2 : w5.cell? ⟨y, 2, none⟩ = some _ := Blk.cell (HY.out.kept HK5.out (fun h => h)) rfl
  have y3 : w5.cell? ⟨y, 3, none⟩ = some _ := Blk.cell (HY.out.kept HK5.out (fun h => h)) rfl
  have y4 : w5.cell? ⟨y, 4, none⟩ = some _ := Blk.cell (HY.out.kept HK5.out (fun h => h)) rfl
  have y5 : w5.cell? ⟨y, 5, none⟩ = some _ := Blk.cell (HY.out.kept HK5.out (fun h => h)) rfl
  have y6 : w5.cell? ⟨y, 6, none⟩ = some _ := Blk.cell (HY.out.kept HK5.out (fun h => h)) rfl
  have y7 : w5.cell? ⟨y, 7, none⟩ = some _ := Blk.cell (HY.out.kept HK5.out (fun h => h)) rfl
  have y8 : w5.cell? ⟨y, 8, none⟩ = some _ := Blk.cell (HY.out.kept HK5.out (fun h => h)) rfl
  have y9 : w5.cell? ⟨y, 9, none⟩ = some _ := Blk.cell (HY.out.kept HK5.out (fun h => h)) rfl
  have y10 : w5.cell? ⟨y, 10, none⟩ = some _ := Blk.cell (HY.out.kept HK5.out (fun h => h)) rfl
  have y11 : w5.cell? ⟨y, 11, none⟩ = some _ := Blk.cell (HY.out.kept HK5.out (fun h => h)) rfl
  have y12 : w5.cell? ⟨y, 12, none⟩ = some _ := Blk.cell (HY.out.kept HK5.out (fun h => h)) rfl
  have y13 : w5.cell? ⟨y, 13, none⟩ = some _ := Blk.cell (HY.out.kept HK5.out (fun h => h)) rfl
  go_wp2_with fail
  refine (HAGR.out w5).mono ?_
  rintro e w6 ⟨rfl, hk6⟩
  have HK6 := Lib.hid (HK5.out.trans' hk6)
  clear hk6 HAGR
  clear y1 y2 y3 y4 y5 y6 y7 y8 y9 y10 y11 y12 y13
  have y14 : w6.cell? ⟨y, 14, none⟩ = some _ := Blk.cell (HY.out.kept HK6.out (fun h => h)) rfl
  have y15 : w6.cell? ⟨y, 15, none⟩ = some _ := Blk.cell (HY.out.kept HK6.out (fun h => h)) rfl
  have y16 : w6.cell? ⟨y, 16, none⟩ = some _ := Blk.cell (HY.out.kept HK6.out (fun h => h)) rfl
  have y17 : w6.cell? ⟨y, 17, none⟩ = some _ := Blk.cell (HY.out.kept HK6.out (fun h => h)) rfl
  have y18 : w6.cell? ⟨y, 18, none⟩ = some _ := Blk.cell (HY.out.kept HK6.out (fun h => h)) rfl
  have y19 : w6.cell? ⟨y, 19, none⟩ = some _ := Blk.cell (HY.out.kept HK6.out (fun h => h)) rfl
  have y20 : w6.cell? ⟨y, 20, none⟩ = some _ := Blk.cell (HY.out.kept HK6.out (fun h => h)) rfl
  have y21 : w6.cell? ⟨y, 21, none⟩ = some _ := Blk.cell (HY.out.kept HK6.out (fun h => h)) rfl
  go_wp2_with fail
  refine (HSET.out w6).mono ?_
  rintro e w7 ⟨rfl, hk7⟩
  have HK7 := Lib.hid (HK6.out.trans' hk7)
  clear hk7 HSET
  clear y14 y15 y16 y17 y18 y19 y20 y21
  go_wp2_with fail
  refine (k_fetch_nil w7).mono ?_
  rintro e w8 ⟨rfl, hk8⟩
  have HK8 := Lib.hid (HK7.out.trans' hk8)
  clear hk8
  go_wp2_with fail
  refine (k_drop_nil w8).mono ?_
  rintro e w9 ⟨rfl, hk9⟩
  have HK9 := Lib.hid (HK8.out.trans' hk9)
  clear hk9
  go_wp2_with fail
  refine (k_needs_nil w9).mono ?_
  rintro e w10 ⟨rfl, hk10⟩
  have HK10 := Lib.hid (HK9.out.trans' hk10)
  clear hk10
  go_wp2_with fail
  refine (k_len_nil w10).mono ?_
  rintro e w11 ⟨rfl, hk11⟩
  have HK11 := Lib.hid (HK10.out.trans' hk11)
  clear hk11
  go_wp2_with fail
  refine (k_copy_nil w11).mono ?_
  rintro e w12 ⟨rfl, hk12⟩
  have HK12 := Lib.hid ((HK1.out.trans' HK11.out).trans' hk12)
  clear hk12
  go_wp2_with fail
  go_ret
  exact ⟨rfl, HK12.out⟩
theorem deskNil_holds : Rows.DeskNilSaid := deskNil_of deskNil_walk
end Go.Proofs.YtamfgmlhopjppaaGreat
