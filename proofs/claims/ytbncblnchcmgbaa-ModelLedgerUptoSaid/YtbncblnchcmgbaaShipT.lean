/-
  (*town).ship: what a site sends.
-/
import Derived.Test.YtbncblnchcmgbaaTown
import Derived.Test.YtbncblnchcmgbaaLedQ
import Derived.Test.YtbncblnchcmgbaaOwnC
import Derived.Test.YtbncblnchcmgbaaRegT
import Derived.Test.YtbncblnchcmgbaaClon
import Derived.Deep.DeepCutAuto
namespace Go.Proofs.Ytbncblnchcmgbaa
open Go.RowKit Go.ChangeShapes Go.WideShapes Go.ChangeAt

theorem Rp.nil_ {α : Type} (E : Rp α) (w : World) (S : Nat → Prop) (A : Option Addr) {c : Nat} (hc : c ≤ maxLen) : E.slice.R w S [.slice A 0 c] [] := ⟨A, c, rfl, Nat.zero_le _, hc, fun h => absurd h (by simp)⟩
theorem capM_le {α : Type} {E : Rp α} {w : World} {S : Nat → Prop} {A : Option Addr} {n c : Nat} {l : List α} (h : E.slice.R w S [.slice A n c] l) : c ≤ maxLen := by
  obtain ⟨A2, c2, he, h1, h2, _⟩ := h
  simp only [List.cons.injEq, Value.slice.injEq, and_true] at he
  omega
theorem el_cmd : Elem Try.prog 27 44 16 168 := Elem.of Try.underlying27 (z := .agg #[.int .i64 0, .int .i64 0, .int .i64 0, .int .i64 0, .int .i64 0, .int .i64 0, .int .i64 0, .int .i64 0, .int .i64 0, .string ByteArray.empty, .int .i64 0, .slice none 0 0, .int .i64 0, .int .i64 0, .slice none 0 0, .int .i64 0]) (by kernel_rfl) rfl (by decide)
theorem el_intT : Elem Try.prog 28 3 1 8 := Elem.of Try.underlying28 (z := .int .i64 0) (by kernel_rfl) rfl (by decide)
theorem Rp.cmd_one {w : World} : ∀ cs a S', Rp.cmd.R w S' cs a → ∀ u ∈ cs, u.oneCell' = true := by
  rintro cs a S' ⟨hv, ov, rfl, _, ⟨A, c, h1, _⟩, ⟨B, d, h2, _⟩⟩ u hu
  simp only [List.cons.injEq, and_true] at h1 h2
  subst h1 h2
  simp only [CmdL.cells, OpL.cells, List.cons_append, List.nil_append, List.mem_cons, List.not_mem_nil, or_false] at hu
  rcases hu with rfl | rfl | rfl | rfl | rfl | rfl | rfl | rfl | rfl | rfl | rfl | rfl | rfl | rfl | rfl | rfl <;> rfl
theorem capS_le {α : Type} {E : Rp α} {w : World} {S : Nat → Prop} {A : Option Addr} {n c : Nat} {l : List α} (h : E.slice.R w S [.slice A n c] l) : l.length ≤ c := by
  obtain ⟨A2, c2, he, h1, _⟩ := h
  simp only [List.cons.injEq, Value.slice.injEq, and_true] at he
  omega
set_option maxRecDepth 100000 in
set_option maxHeartbeats 40000000 in
theorem t_ship (w0 w : World) (t : Nat) (s : Bool) (a k : Int) (i : Nat) (T : TV) (h : TNew w0 w t T) (hok : TOk i T) (hi : i ≤ 1000) :
    Calls Try.prog 45 #[.pointer (some ⟨t, 0, none⟩), .int .i64 (sI s), .int .i64 a, .int .i64 k] w fun e w' => e = .returned (.bool (decide (shipsP (T.l s) s))) ∧ TNew w0 w' t (shipT s a k T) := by
  obtain ⟨hk0, x, F, sv, tv, S, hin⟩ := h
  have hla := hin.led s
  have hokL := hok.led s
  have hlen := hokL.len
  obtain ⟨R, hR⟩ : ∃ R, decide (shipsP (T.l s) s) = R := ⟨_, rfl⟩
  obtain ⟨T', hT'⟩ : ∃ T', shipT s a k T = T' := ⟨_, rfl⟩
  have HIN := Lib.hid hin
  have HOK := Lib.hid hok
  have HK0 := Lib.hid hk0
  have hlt := Blk.lt hin.blk
  have q0 := Blk.cell hin.blk (i := 0) rfl
  have q1 := Blk.cell hin.blk (i := 1) rfl
  have q3 := Blk.cell hin.blk (i := 3) rfl
  have q4 := Blk.cell hin.blk (i := 4) rfl
  have hho := fun (W : World) (hk : Kp No w W) => a_holder (x s) (T.l s) (F s) W (hla.keptNo hk)
  have hfe := fun (W : World) (hk : Kp No w W) => a_fence (x s) (T.l s) (F s) W (hla.keptNo hk)
  have hop : ∀ W, Kp No w W → Calls Try.prog 12 #[.pointer (some ⟨x s, 0, none⟩)] W fun r w' => ∃ A c, r = .returned (.slice A (T.l s).ops.length c) ∧ Rp.opl.slice.R w' (fun k => W.heap.size ≤ k) [.slice A (T.l s).ops.length c] (T.l s).ops ∧ Kp No W w' := fun W hk =>
    (a_ops (x s) (T.l s) (F s) W (hla.keptNo hk) (by omega) hokL.hashes).mono (fun r w' ⟨A, c, h1, h2, h3⟩ => ⟨A, c, h1, Rp.opl.slice.more h2.readFrom (fun k hk => by rcases hk with hk | hk <;> exact hk), h3⟩)
  obtain ⟨xs, hxs⟩ : ∃ z, x s = z := ⟨_, rfl⟩
  obtain ⟨xf, hxf⟩ : ∃ z, x false = z := ⟨_, rfl⟩
  obtain ⟨xt, hxt⟩ : ∃ z, x true = z := ⟨_, rfl⟩
  obtain ⟨L, hL⟩ : ∃ L, T.l s = L := ⟨_, rfl⟩
  obtain ⟨n, hn⟩ : ∃ n, L.ops.length = n := ⟨_, rfl⟩
  obtain ⟨e, he⟩ : ∃ e, L.fold.hE = e := ⟨_, rfl⟩
  obtain ⟨st, hst⟩ : ∃ e, L.fold.hS = e := ⟨_, rfl⟩
  obtain ⟨f, hf⟩ : ∃ e, L.fence = e := ⟨_, rfl⟩
  have hfb := hokL.fence0
  rw [hL, hf] at hfb
  have HFB := Lib.hid hfb
  clear hfb
  simp only [hL, hxs, hn, he, hst, hf] at hho hfe hop hlen
  rw [hxf] at q0
  rw [hxt] at q1
  have hRe : decide (e ≠ 0 ∧ st = sI s ∧ e = f) = R := by rw [← hR, hL]; exact decide_eq_decide.2 (by unfold shipsP; rw [he, hst, hf])
  have HQ0 := Lib.hid q0
  have HQ1 := Lib.hid q1
  have HQ3 := Lib.hid q3
  have HQ4 := Lib.hid q4
  have HLT := Lib.hid hlt
  have HHO := Lib.hid hho
  have HFE := Lib.hid hfe
  have HOP := Lib.hid hop
  have HRE := Lib.hid hRe
  have HT' := Lib.hid hT'
  have HL := Lib.hid hL
  have HN := Lib.hid hn
  have HE := Lib.hid he
  have hxc : (s = false ∧ xf = xs) ∨ (s = true ∧ xt = xs) := by
    cases s
    · exact .inl ⟨rfl, hxf.symm.trans hxs⟩
    · exact .inr ⟨rfl, hxt.symm.trans hxs⟩
  have HRR := Lib.hid hR
  rw [hR, hT']
  clear hho hfe hop hRe hT' hL hn he hst hf hxs hxf hxt hla hokL hin hok hk0 q0 q1 q3 q4 hlt hR
  go_enter Try.func45, Try.ntmps45
  go_upto_region 1 with fail
  go_cut [9, 10] (fun gv ov wx => ∃ y A1 c1, gv = .pointer (some ⟨y, 0, none⟩) ∧ ov = .slice A1 n c1 ∧ Hid (Blk wx y 98 [.int .i64 e, .int .i64 st]) ∧ Hid (Rp.opl.slice.R wx (fun k => w.heap.size ≤ k ∧ k ≠ y) [.slice A1 n c1] L.ops) ∧ Hid (Kp No w wx) ∧ Hid (w.heap.size ≤ y))
  case first =>
    rename_i y0 y1 y2 y3 y4 y5 y6
    revert y0
    as_aux_lemma =>
      intros
      have k0 := HQ0.out
      have k1 := HQ1.out
      rcases hxc with ⟨rfl, rfl⟩ | ⟨rfl, rfl⟩
      all_goals
        unfold sI
        simp only [Bool.false_eq_true, if_true, if_false]
        refine Reg.wp_region_tree (.look 0 (.look 1 (.look 2 (.look 3 (.look 4 (.look 5 (.look 7 (.look 8 (.look 9 (.look 10 (.look 11 (.look 12 (.two 6 [9, 10, 11, 12] (.two 13 [] (.one 14 [] (.one 15 [] (.look 16 (.done)))) 14 [9, 10, 11, 12] (.one 13 [] (.one 15 [] (.look 16 (.done))))) 14 [2, 3, 4, 5, 9, 10, 11, 12] (.one 6 [9, 10, 11, 12] (.one 13 [] (.one 15 [] (.look 16 (.done)))))))))))))))))) [6, 13, 14, 15] rfl (by kernel_rfl) ?_
        repeat (first | (refine Reg.lookT rfl rfl rfl (by go_simp; rfl) rfl ?_; go_simp))
        obtain ⟨wd, hwd⟩ : ∃ z, w.drew = z := ⟨_, rfl⟩
        have HKD : Hid (Kp No w wd) := Lib.hid (by rw [← hwd]; exact (Kp.refl _ _).drew)
        rw [hwd]
        clear hwd k0 k1
        have k0 : wd.cell? ⟨t, 0, none⟩ = some (.pointer (some ⟨xf, 0, none⟩)) := (HKD.out.cell HLT.out (fun x => x)).trans HQ0.out
        have k1 : wd.cell? ⟨t, 1, none⟩ = some (.pointer (some ⟨xt, 0, none⟩)) := (HKD.out.cell HLT.out (fun x => x)).trans HQ1.out
        refine Reg.twoT rfl rfl ?_ ?_
        · skip
          clear k0 k1
          go_wp2_with fail
          refine (HHO.out wd HKD.out).mono ?_
          rintro e2 wa ⟨rfl, hkb⟩
          have HKa := Lib.hid (HKD.out.trans' hkb)
          have k0 : wa.cell? ⟨t, 0, none⟩ = some (.pointer (some ⟨xf, 0, none⟩)) := (HKa.out.cell HLT.out (fun x => x)).trans HQ0.out
          have k1 : wa.cell? ⟨t, 1, none⟩ = some (.pointer (some ⟨xt, 0, none⟩)) := (HKa.out.cell HLT.out (fun x => x)).trans HQ1.out
          go_wp2_with fail
          (refine ⟨?anew, ?_⟩; case anew => ((repeat (refine Reg.anew_cons rfl rfl (fun _ => by go_simp) ?_)); exact Reg.anew_nil))
          repeat (first | (refine Reg.lookT rfl rfl rfl (by go_simp; rfl) rfl ?_; go_simp))
          refine Reg.twoT rfl rfl ?_ ?_
          · skip
            clear k0 k1
            go_wp2_with fail
            refine (HOP.out wa HKa.out).mono ?_
            rintro e2 wb ⟨A1, c1, rfl, hro, hkb⟩
            have HRO := Lib.hid (Rp.opl.slice.more hro (S' := fun k => wa.heap.size ≤ k ∧ w.heap.size ≤ k) (fun k hk => ⟨hk, Nat.le_trans HKa.out.size hk⟩))
            have HKb := Lib.hid (HKa.out.trans' hkb)
            clear hro
            have k0 : wb.cell? ⟨t, 0, none⟩ = some (.pointer (some ⟨xf, 0, none⟩)) := (HKb.out.cell HLT.out (fun x => x)).trans HQ0.out
            have k1 : wb.cell? ⟨t, 1, none⟩ = some (.pointer (some ⟨xt, 0, none⟩)) := (HKb.out.cell HLT.out (fun x => x)).trans HQ1.out
            go_wp2_with fail
            (refine ⟨?anew, ?_⟩; case anew => ((repeat (refine Reg.anew_cons rfl rfl (fun _ => by go_simp) ?_)); exact Reg.anew_nil))
            repeat (first | (refine Reg.lookT rfl rfl rfl (by go_simp; rfl) rfl ?_; go_simp))
            refine Reg.oneT rfl ?_
            obtain ⟨wc, hw2⟩ : ∃ z, wb.alloc (.cells #[.int .i64 0, .int .i64 0] 98) = z := ⟨_, rfl⟩
            obtain ⟨y, hy2⟩ : ∃ z, wb.heap.size = z := ⟨_, rfl⟩
            have HKc : Hid (Kp No w wc) := Lib.hid (by rw [← hw2]; exact HKb.out.alloc _)
            have HBY : Hid (Blk wc y 98 [.int .i64 0, .int .i64 0]) := Lib.hid (by rw [← hw2, ← hy2]; exact Blk.new wb _ _)
            have HYE : Hid (wb.heap.size = y) := Lib.hid hy2
            have HYW : Hid (w.heap.size ≤ y) := Lib.hid (by rw [← hy2]; exact HKb.out.size)
            have hkb : Kp No wb wc := by rw [← hw2]; exact (Kp.refl _ _).alloc _
            clear k0 k1
            go_wp2_with fail
            clear hw2 hy2
            have k0 : wc.cell? ⟨t, 0, none⟩ = some (.pointer (some ⟨xf, 0, none⟩)) := (HKc.out.cell HLT.out (fun x => x)).trans HQ0.out
            have k1 : wc.cell? ⟨t, 1, none⟩ = some (.pointer (some ⟨xt, 0, none⟩)) := (HKc.out.cell HLT.out (fun x => x)).trans HQ1.out
            have HRO := Lib.hid (Rp.opl.slice.keptNo (Rp.opl.slice.more (Rp.opl.slice.bnd HRO.out) (S' := fun k => w.heap.size ≤ k ∧ k ≠ y) (fun k hk => ⟨hk.1.2, by have h1 := hk.2; have h2 := HYE.out; omega⟩)) hkb)
            (refine ⟨?anew, ?_⟩; case anew => ((repeat (refine Reg.anew_cons rfl rfl (fun _ => by go_simp) ?_)); exact Reg.anew_nil))
            repeat (first | (refine Reg.lookT rfl rfl rfl (by go_simp; rfl) rfl ?_; go_simp))
            have y0 : wc.cell? ⟨y, 0, none⟩ = some _ := Blk.cell HBY.out rfl
            have y1 : wc.cell? ⟨y, 1, none⟩ = some _ := Blk.cell HBY.out rfl
            have f0 := Blk.fr HBY.out 0
            have f1 := Blk.fr HBY.out 1
            have hbf : Blk ((wc.setCell ⟨y, 0, none⟩ (.int .i64 e)).setCell ⟨y, 1, none⟩ (.int .i64 st)) y 98 [.int .i64 e, .int .i64 st] := Blk.set (Blk.set HBY.out 0 (.int .i64 e)) 1 (.int .i64 st)
            have hks : Kp (· = y) wc ((wc.setCell ⟨y, 0, none⟩ (.int .i64 e)).setCell ⟨y, 1, none⟩ (.int .i64 st)) := ((Kp.refl (· = y) wc).setCell (p := ⟨y, 0, none⟩) (fun _ => rfl) _).setCell (p := ⟨y, 1, none⟩) (fun _ => rfl) _
            have hrf := Rp.opl.slice.kept HRO.out hks (fun k hk _ he => hk.2 he)
            have HBF := Lib.hid hbf
            have HRF := Lib.hid hrf
            have HKF := Lib.hid (HKc.out.trans hks (fun i hi he => by have := HYW.out; omega))
            clear hbf hks hrf
            refine Reg.oneT rfl ?_
            go_wp2_with fail
            refine ⟨Reg.anew_nil, ?_⟩
            clear y0 y1 f0 f1
            repeat (first | (refine Reg.lookT rfl rfl rfl (by go_simp; rfl) rfl ?_; go_simp))
            refine Reg.doneT ?_
            simp only [Exit.then]
            go_wp2_with fail
            go_meet
            exact ⟨y, A1, c1, rfl, rfl, HBF, HRF, HKF, HYW⟩
          · skip
            obtain ⟨wb, hw2⟩ : ∃ z, wa.alloc (.cells #[.int .i64 0, .int .i64 0] 98) = z := ⟨_, rfl⟩
            obtain ⟨y, hy2⟩ : ∃ z, wa.heap.size = z := ⟨_, rfl⟩
            have HKb : Hid (Kp No w wb) := Lib.hid (by rw [← hw2]; exact HKa.out.alloc _)
            have HBY : Hid (Blk wb y 98 [.int .i64 0, .int .i64 0]) := Lib.hid (by rw [← hw2, ← hy2]; exact Blk.new wa _ _)
            have HYE : Hid (wa.heap.size = y) := Lib.hid hy2
            have HYW : Hid (w.heap.size ≤ y) := Lib.hid (by rw [← hy2]; exact HKa.out.size)
            have hkb : Kp No wa wb := by rw [← hw2]; exact (Kp.refl _ _).alloc _
            clear k0 k1
            go_wp2_with fail
            clear hw2 hy2
            have k0 : wb.cell? ⟨t, 0, none⟩ = some (.pointer (some ⟨xf, 0, none⟩)) := (HKb.out.cell HLT.out (fun x => x)).trans HQ0.out
            have k1 : wb.cell? ⟨t, 1, none⟩ = some (.pointer (some ⟨xt, 0, none⟩)) := (HKb.out.cell HLT.out (fun x => x)).trans HQ1.out
            have HYL : Hid (y < wb.heap.size) := Lib.hid (Blk.lt HBY.out)
            (refine ⟨?anew, ?_⟩; case anew => ((repeat (refine Reg.anew_cons rfl rfl (fun _ => by go_simp) ?_)); exact Reg.anew_nil))
            repeat (first | (refine Reg.lookT rfl rfl rfl (by go_simp; rfl) rfl ?_; go_simp))
            refine Reg.oneT rfl ?_
            clear k0 k1
            go_wp2_with fail
            refine (HOP.out wb HKb.out).mono ?_
            rintro e2 wc ⟨A1, c1, rfl, hro, hkb⟩
            have HRO := Lib.hid (Rp.opl.slice.more hro (S' := fun k => wb.heap.size ≤ k ∧ w.heap.size ≤ k) (fun k hk => ⟨hk, Nat.le_trans HKb.out.size hk⟩))
            have HKc := Lib.hid (HKb.out.trans' hkb)
            clear hro
            have k0 : wc.cell? ⟨t, 0, none⟩ = some (.pointer (some ⟨xf, 0, none⟩)) := (HKc.out.cell HLT.out (fun x => x)).trans HQ0.out
            have k1 : wc.cell? ⟨t, 1, none⟩ = some (.pointer (some ⟨xt, 0, none⟩)) := (HKc.out.cell HLT.out (fun x => x)).trans HQ1.out
            go_wp2_with fail
            have HBY := Lib.hid (HBY.out.kept hkb (fun z => z))
            have HRO := Lib.hid (Rp.opl.slice.more HRO.out (S' := fun k => w.heap.size ≤ k ∧ k ≠ y) (fun k hk => ⟨hk.2, by have h1 := hk.1; have h2 := HYL.out; omega⟩))
            (refine ⟨?anew, ?_⟩; case anew => ((repeat (refine Reg.anew_cons rfl rfl (fun _ => by go_simp) ?_)); exact Reg.anew_nil))
            repeat (first | (refine Reg.lookT rfl rfl rfl (by go_simp; rfl) rfl ?_; go_simp))
            have y0 : wc.cell? ⟨y, 0, none⟩ = some _ := Blk.cell HBY.out rfl
            have y1 : wc.cell? ⟨y, 1, none⟩ = some _ := Blk.cell HBY.out rfl
            have f0 := Blk.fr HBY.out 0
            have f1 := Blk.fr HBY.out 1
            have hbf : Blk ((wc.setCell ⟨y, 0, none⟩ (.int .i64 e)).setCell ⟨y, 1, none⟩ (.int .i64 st)) y 98 [.int .i64 e, .int .i64 st] := Blk.set (Blk.set HBY.out 0 (.int .i64 e)) 1 (.int .i64 st)
            have hks : Kp (· = y) wc ((wc.setCell ⟨y, 0, none⟩ (.int .i64 e)).setCell ⟨y, 1, none⟩ (.int .i64 st)) := ((Kp.refl (· = y) wc).setCell (p := ⟨y, 0, none⟩) (fun _ => rfl) _).setCell (p := ⟨y, 1, none⟩) (fun _ => rfl) _
            have hrf := Rp.opl.slice.kept HRO.out hks (fun k hk _ he => hk.2 he)
            have HBF := Lib.hid hbf
            have HRF := Lib.hid hrf
            have HKF := Lib.hid (HKc.out.trans hks (fun i hi he => by have := HYW.out; omega))
            clear hbf hks hrf
            refine Reg.oneT rfl ?_
            go_wp2_with fail
            refine ⟨Reg.anew_nil, ?_⟩
            clear y0 y1 f0 f1
            repeat (first | (refine Reg.lookT rfl rfl rfl (by go_simp; rfl) rfl ?_; go_simp))
            refine Reg.doneT ?_
            simp only [Exit.then]
            go_wp2_with fail
            go_meet
            exact ⟨y, A1, c1, rfl, rfl, HBF, HRF, HKF, HYW⟩
        · skip
          obtain ⟨wa, hw2⟩ : ∃ z, wd.alloc (.cells #[.int .i64 0, .int .i64 0] 98) = z := ⟨_, rfl⟩
          obtain ⟨y, hy2⟩ : ∃ z, wd.heap.size = z := ⟨_, rfl⟩
          have HKa : Hid (Kp No w wa) := Lib.hid (by rw [← hw2]; exact HKD.out.alloc _)
          have HBY : Hid (Blk wa y 98 [.int .i64 0, .int .i64 0]) := Lib.hid (by rw [← hw2, ← hy2]; exact Blk.new wd _ _)
          have HYE : Hid (wd.heap.size = y) := Lib.hid hy2
          have HYW : Hid (w.heap.size ≤ y) := Lib.hid (by rw [← hy2]; exact HKD.out.size)
          have hkb : Kp No wd wa := by rw [← hw2]; exact (Kp.refl _ _).alloc _
          clear k0 k1
          go_wp2_with fail
          clear hw2 hy2
          have k0 : wa.cell? ⟨t, 0, none⟩ = some (.pointer (some ⟨xf, 0, none⟩)) := (HKa.out.cell HLT.out (fun x => x)).trans HQ0.out
          have k1 : wa.cell? ⟨t, 1, none⟩ = some (.pointer (some ⟨xt, 0, none⟩)) := (HKa.out.cell HLT.out (fun x => x)).trans HQ1.out
          (refine ⟨?anew, ?_⟩; case anew => ((repeat (refine Reg.anew_cons rfl rfl (fun _ => by go_simp) ?_)); exact Reg.anew_nil))
          repeat (first | (refine Reg.lookT rfl rfl rfl (by go_simp; rfl) rfl ?_; go_simp))
          refine Reg.oneT rfl ?_
          clear k0 k1
          go_wp2_with fail
          refine (HHO.out wa HKa.out).mono ?_
          rintro e2 wb ⟨rfl, hkb⟩
          have HKb := Lib.hid (HKa.out.trans' hkb)
          have k0 : wb.cell? ⟨t, 0, none⟩ = some (.pointer (some ⟨xf, 0, none⟩)) := (HKb.out.cell HLT.out (fun x => x)).trans HQ0.out
          have k1 : wb.cell? ⟨t, 1, none⟩ = some (.pointer (some ⟨xt, 0, none⟩)) := (HKb.out.cell HLT.out (fun x => x)).trans HQ1.out
          go_wp2_with fail
          have HBY := Lib.hid (HBY.out.kept hkb (fun z => z))
          have HYL : Hid (y < wb.heap.size) := Lib.hid (Blk.lt HBY.out)
          (refine ⟨?anew, ?_⟩; case anew => ((repeat (refine Reg.anew_cons rfl rfl (fun _ => by go_simp) ?_)); exact Reg.anew_nil))
          repeat (first | (refine Reg.lookT rfl rfl rfl (by go_simp; rfl) rfl ?_; go_simp))
          refine Reg.oneT rfl ?_
          clear k0 k1
          go_wp2_with fail
          refine (HOP.out wb HKb.out).mono ?_
          rintro e2 wc ⟨A1, c1, rfl, hro, hkb⟩
          have HRO := Lib.hid (Rp.opl.slice.more hro (S' := fun k => wb.heap.size ≤ k ∧ w.heap.size ≤ k) (fun k hk => ⟨hk, Nat.le_trans HKb.out.size hk⟩))
          have HKc := Lib.hid (HKb.out.trans' hkb)
          clear hro
          have k0 : wc.cell? ⟨t, 0, none⟩ = some (.pointer (some ⟨xf, 0, none⟩)) := (HKc.out.cell HLT.out (fun x => x)).trans HQ0.out
          have k1 : wc.cell? ⟨t, 1, none⟩ = some (.pointer (some ⟨xt, 0, none⟩)) := (HKc.out.cell HLT.out (fun x => x)).trans HQ1.out
          go_wp2_with fail
          have HBY := Lib.hid (HBY.out.kept hkb (fun z => z))
          have HRO := Lib.hid (Rp.opl.slice.more HRO.out (S' := fun k => w.heap.size ≤ k ∧ k ≠ y) (fun k hk => ⟨hk.2, by have h1 := hk.1; have h2 := HYL.out; omega⟩))
          (refine ⟨?anew, ?_⟩; case anew => ((repeat (refine Reg.anew_cons rfl rfl (fun _ => by go_simp) ?_)); exact Reg.anew_nil))
          repeat (first | (refine Reg.lookT rfl rfl rfl (by go_simp; rfl) rfl ?_; go_simp))
          have y0 : wc.cell? ⟨y, 0, none⟩ = some _ := Blk.cell HBY.out rfl
          have y1 : wc.cell? ⟨y, 1, none⟩ = some _ := Blk.cell HBY.out rfl
          have f0 := Blk.fr HBY.out 0
          have f1 := Blk.fr HBY.out 1
          have hbf : Blk ((wc.setCell ⟨y, 0, none⟩ (.int .i64 e)).setCell ⟨y, 1, none⟩ (.int .i64 st)) y 98 [.int .i64 e, .int .i64 st] := Blk.set (Blk.set HBY.out 0 (.int .i64 e)) 1 (.int .i64 st)
          have hks : Kp (· = y) wc ((wc.setCell ⟨y, 0, none⟩ (.int .i64 e)).setCell ⟨y, 1, none⟩ (.int .i64 st)) := ((Kp.refl (· = y) wc).setCell (p := ⟨y, 0, none⟩) (fun _ => rfl) _).setCell (p := ⟨y, 1, none⟩) (fun _ => rfl) _
          have hrf := Rp.opl.slice.kept HRO.out hks (fun k hk _ he => hk.2 he)
          have HBF := Lib.hid hbf
          have HRF := Lib.hid hrf
          have HKF := Lib.hid (HKc.out.trans hks (fun i hi he => by have := HYW.out; omega))
          clear hbf hks hrf
          refine Reg.oneT rfl ?_
          go_wp2_with fail
          refine ⟨Reg.anew_nil, ?_⟩
          clear y0 y1 f0 f1
          repeat (first | (refine Reg.lookT rfl rfl rfl (by go_simp; rfl) rfl ?_; go_simp))
          refine Reg.doneT ?_
          simp only [Exit.then]
          go_wp2_with fail
          go_meet
          exact ⟨y, A1, c1, rfl, rfl, HBF, HRF, HKF, HYW⟩
  case rest =>
    rename_i yQ yK yA
    obtain ⟨y, A1, c1, rfl, rfl, HBF, HRF, HKF, HYW⟩ := hcut
    go_upto_region 2 with fail
    go_cut [46] (fun bv wx => bv = .bool (!R) ∧ Hid (Kp No wc wx))
    case first =>
      revert yQ
      as_aux_lemma =>
        intros
        have k0 : wc.cell? ⟨t, 0, none⟩ = some (.pointer (some ⟨xf, 0, none⟩)) := (HKF.out.cell HLT.out (fun x => x)).trans HQ0.out
        have k1 : wc.cell? ⟨t, 1, none⟩ = some (.pointer (some ⟨xt, 0, none⟩)) := (HKF.out.cell HLT.out (fun x => x)).trans HQ1.out
        have y0 : wc.cell? ⟨y, 0, none⟩ = some _ := Blk.cell HBF.out rfl
        have y1 : wc.cell? ⟨y, 1, none⟩ = some _ := Blk.cell HBF.out rfl
        have hfc := HFE.out
        rcases hxc with ⟨rfl, rfl⟩ | ⟨rfl, rfl⟩
        · skip
          have hre := HRE.out
          unfold sI at hre ⊢
          simp only [Bool.false_eq_true, if_false] at hre ⊢
          by_cases e0 : e = 0
          · have hRf : R = false := by rw [← hre]; exact decide_eq_false (fun h => h.1 e0)
            subst hRf e0
            clear hre HRE
            refine Reg.wp_region_plan [⟨0, false, []⟩, ⟨1, false, []⟩, ⟨2, false, []⟩, ⟨3, false, []⟩, ⟨4, false, []⟩, ⟨5, false, []⟩, ⟨6, false, []⟩, ⟨7, false, []⟩, ⟨8, false, []⟩, ⟨9, false, []⟩, ⟨10, false, []⟩, ⟨11, false, []⟩, ⟨12, false, []⟩, ⟨13, false, []⟩, ⟨14, false, []⟩, ⟨15, false, []⟩, ⟨16, false, []⟩, ⟨17, false, []⟩, ⟨18, true, [10, 11]⟩, ⟨19, false, []⟩, ⟨20, false, []⟩] rfl (by kernel_rfl) ?_
            repeat (first | (refine Reg.look rfl rfl rfl (by go_simp; rfl) rfl ?_; go_simp) | (refine Reg.skip rfl rfl rfl ?_; go_simp))
            refine Reg.act rfl ?_
            refine wpList_skip (by first | rfl | (go_simp; done) | decide) ?_
            go_wp2_with fail
            refine ⟨?anew, ?_⟩
            case anew =>
              (repeat (first | (refine Reg.anew_cons rfl rfl (fun h => absurd (show false = true from h) Bool.false_ne_true) ?_) | (refine Reg.anew_cons rfl rfl (fun _ => by go_simp) ?_)))
              exact Reg.anew_nil
            repeat (first | (refine Reg.look rfl rfl rfl (by go_simp; rfl) rfl ?_; go_simp) | (refine Reg.skip rfl rfl rfl ?_; go_simp))
            (refine Reg.done ?_; simp only [Exit.then])
            go_wp2_with fail
            go_meet
            exact ⟨rfl, Lib.hid ((Kp.refl No wc).drew)⟩
          · have e0b : (e == 0) = false := beq_eq_false_iff_ne.2 e0
            by_cases hs : st = (0 : Int)
            · subst hs
              have hre2 : decide (e = f) = R := by rw [← hre]; exact decide_eq_decide.2 ⟨fun h => ⟨e0, rfl, h⟩, fun h => h.2.2⟩
              have HRE2 := Lib.hid hre2
              clear hre hre2 HRE
              by_cases hef : e = f
              · have hRt : R = true := by rw [← HRE2.out]; exact decide_eq_true hef
                have hfb : (e == f) = true := beq_iff_eq.2 hef
                have hfn : (e != f) = false := by rw [bne, hfb]; rfl
                subst hRt
                clear hef
                refine Reg.wp_region_plan [⟨0, false, []⟩, ⟨1, false, []⟩, ⟨2, false, []⟩, ⟨3, false, []⟩, ⟨4, false, []⟩, ⟨5, false, []⟩, ⟨6, false, []⟩, ⟨7, false, []⟩, ⟨8, false, []⟩, ⟨9, false, []⟩, ⟨10, false, []⟩, ⟨11, false, []⟩, ⟨12, false, []⟩, ⟨13, false, []⟩, ⟨14, false, []⟩, ⟨15, false, []⟩, ⟨16, false, []⟩, ⟨17, false, []⟩, ⟨18, true, [10, 11]⟩, ⟨19, false, []⟩, ⟨20, false, []⟩] rfl (by kernel_rfl) ?_
                repeat (first | (refine Reg.look rfl rfl rfl (by go_simp; rfl) rfl ?_; go_simp) | (refine Reg.skip rfl rfl rfl ?_; go_simp))
                refine Reg.act rfl ?_
                go_wp2_with fail
                refine (hfc wc.drew (HKF.out.drew)).mono ?_
                rintro e2 wf ⟨rfl, rfl⟩
                go_wp2_with fail
                (refine ⟨?anew, ?_⟩; case anew => ((repeat (refine Reg.anew_cons rfl rfl (fun _ => by go_simp) ?_)); exact Reg.anew_nil))
                repeat (first | (refine Reg.look rfl rfl rfl (by go_simp; rfl) rfl ?_; go_simp) | (refine Reg.skip rfl rfl rfl ?_; go_simp))
                (refine Reg.done ?_; simp only [Exit.then])
                go_wp2_with fail
                go_meet
                exact ⟨rfl, Lib.hid ((Kp.refl No wc).drew)⟩
              · have hRt : R = false := by rw [← HRE2.out]; exact decide_eq_false hef
                have hfb : (e == f) = false := beq_eq_false_iff_ne.2 hef
                have hfn : (e != f) = true := by rw [bne, hfb]; rfl
                subst hRt
                clear hef
                refine Reg.wp_region_plan [⟨0, false, []⟩, ⟨1, false, []⟩, ⟨2, false, []⟩, ⟨3, false, []⟩, ⟨4, false, []⟩, ⟨5, false, []⟩, ⟨6, false, []⟩, ⟨7, false, []⟩, ⟨8, false, []⟩, ⟨9, false, []⟩, ⟨10, false, []⟩, ⟨11, false, []⟩, ⟨12, false, []⟩, ⟨13, false, []⟩, ⟨14, false, []⟩, ⟨15, false, []⟩, ⟨16, false, []⟩, ⟨17, false, []⟩, ⟨18, true, [10, 11]⟩, ⟨19, false, []⟩, ⟨20, false, []⟩] rfl (by kernel_rfl) ?_
                repeat (first | (refine Reg.look rfl rfl rfl (by go_simp; rfl) rfl ?_; go_simp) | (refine Reg.skip rfl rfl rfl ?_; go_simp))
                refine Reg.act rfl ?_
                go_wp2_with fail
                refine (hfc wc.drew (HKF.out.drew)).mono ?_
                rintro e2 wf ⟨rfl, rfl⟩
                go_wp2_with fail
                (refine ⟨?anew, ?_⟩; case anew => ((repeat (refine Reg.anew_cons rfl rfl (fun _ => by go_simp) ?_)); exact Reg.anew_nil))
                repeat (first | (refine Reg.look rfl rfl rfl (by go_simp; rfl) rfl ?_; go_simp) | (refine Reg.skip rfl rfl rfl ?_; go_simp))
                (refine Reg.done ?_; simp only [Exit.then])
                go_wp2_with fail
                go_meet
                exact ⟨rfl, Lib.hid ((Kp.refl No wc).drew)⟩
            · have hRf : R = false := by rw [← hre]; exact decide_eq_false (fun h => hs h.2.1)
              have hsb : (st == (0 : Int)) = false := beq_eq_false_iff_ne.2 hs
              have hsn : (st != (0 : Int)) = true := by rw [bne, hsb]; rfl
              subst hRf
              clear hre HRE
              refine Reg.wp_region_plan [⟨0, false, []⟩, ⟨1, false, []⟩, ⟨2, false, []⟩, ⟨3, false, []⟩, ⟨4, false, []⟩, ⟨5, false, []⟩, ⟨6, false, []⟩, ⟨7, false, []⟩, ⟨8, false, []⟩, ⟨9, false, []⟩, ⟨10, false, []⟩, ⟨11, false, []⟩, ⟨12, false, []⟩, ⟨13, false, []⟩, ⟨14, false, []⟩, ⟨15, false, []⟩, ⟨16, false, []⟩, ⟨17, false, []⟩, ⟨18, true, [10, 11]⟩, ⟨19, false, []⟩, ⟨20, false, []⟩] rfl (by kernel_rfl) ?_
              repeat (first | (refine Reg.look rfl rfl rfl (by go_simp; rfl) rfl ?_; go_simp) | (refine Reg.skip rfl rfl rfl ?_; go_simp))
              refine Reg.act rfl ?_
              refine wpList_skip (by first | rfl | (go_simp; done) | decide) ?_
              go_wp2_with fail
              refine ⟨?anew, ?_⟩
              case anew =>
                (repeat (first | (refine Reg.anew_cons rfl rfl (fun h => absurd (show false = true from h) Bool.false_ne_true) ?_) | (refine Reg.anew_cons rfl rfl (fun _ => by go_simp) ?_)))
                exact Reg.anew_nil
              repeat (first | (refine Reg.look rfl rfl rfl (by go_simp; rfl) rfl ?_; go_simp) | (refine Reg.skip rfl rfl rfl ?_; go_simp))
              (refine Reg.done ?_; simp only [Exit.then])
              go_wp2_with fail
              go_meet
              exact ⟨rfl, Lib.hid ((Kp.refl No wc).drew)⟩
        · skip
          have hre := HRE.out
          unfold sI at hre ⊢
          simp only [if_true] at hre ⊢
          by_cases e0 : e = 0
          · have hRf : R = false := by rw [← hre]; exact decide_eq_false (fun h => h.1 e0)
            subst hRf e0
            clear hre HRE
            refine Reg.wp_region_plan [⟨0, false, []⟩, ⟨1, false, []⟩, ⟨2, false, []⟩, ⟨3, false, []⟩, ⟨4, false, []⟩, ⟨5, false, []⟩, ⟨6, false, []⟩, ⟨7, false, []⟩, ⟨8, false, []⟩, ⟨9, false, []⟩, ⟨10, false, []⟩, ⟨11, false, []⟩, ⟨12, false, []⟩, ⟨13, false, []⟩, ⟨14, false, []⟩, ⟨15, false, []⟩, ⟨16, false, []⟩, ⟨17, false, []⟩, ⟨18, true, [10, 11]⟩, ⟨19, false, []⟩, ⟨20, false, []⟩] rfl (by kernel_rfl) ?_
            repeat (first | (refine Reg.look rfl rfl rfl (by go_simp; rfl) rfl ?_; go_simp) | (refine Reg.skip rfl rfl rfl ?_; go_simp))
            refine Reg.act rfl ?_
            refine wpList_skip (by first | rfl | (go_simp; done) | decide) ?_
            go_wp2_with fail
            refine ⟨?anew, ?_⟩
            case anew =>
              (repeat (first | (refine Reg.anew_cons rfl rfl (fun h => absurd (show false = true from h) Bool.false_ne_true) ?_) | (refine Reg.anew_cons rfl rfl (fun _ => by go_simp) ?_)))
              exact Reg.anew_nil
            repeat (first | (refine Reg.look rfl rfl rfl (by go_simp; rfl) rfl ?_; go_simp) | (refine Reg.skip rfl rfl rfl ?_; go_simp))
            (refine Reg.done ?_; simp only [Exit.then])
            go_wp2_with fail
            go_meet
            exact ⟨rfl, Lib.hid ((Kp.refl No wc).drew)⟩
          · have e0b : (e == 0) = false := beq_eq_false_iff_ne.2 e0
            by_cases hs : st = (1 : Int)
            · subst hs
              have hre2 : decide (e = f) = R := by rw [← hre]; exact decide_eq_decide.2 ⟨fun h => ⟨e0, rfl, h⟩, fun h => h.2.2⟩
              have HRE2 := Lib.hid hre2
              clear hre hre2 HRE
              by_cases hef : e = f
              · have hRt : R = true := by rw [← HRE2.out]; exact decide_eq_true hef
                have hfb : (e == f) = true := beq_iff_eq.2 hef
                have hfn : (e != f) = false := by rw [bne, hfb]; rfl
                subst hRt
                clear hef
                refine Reg.wp_region_plan [⟨0, false, []⟩, ⟨1, false, []⟩, ⟨2, false, []⟩, ⟨3, false, []⟩, ⟨4, false, []⟩, ⟨5, false, []⟩, ⟨6, false, []⟩, ⟨7, false, []⟩, ⟨8, false, []⟩, ⟨9, false, []⟩, ⟨10, false, []⟩, ⟨11, false, []⟩, ⟨12, false, []⟩, ⟨13, false, []⟩, ⟨14, false, []⟩, ⟨15, false, []⟩, ⟨16, false, []⟩, ⟨17, false, []⟩, ⟨18, true, [10, 11]⟩, ⟨19, false, []⟩, ⟨20, false, []⟩] rfl (by kernel_rfl) ?_
                repeat (first | (refine Reg.look rfl rfl rfl (by go_simp; rfl) rfl ?_; go_simp) | (refine Reg.skip rfl rfl rfl ?_; go_simp))
                refine Reg.act rfl ?_
                go_wp2_with fail
                refine (hfc wc.drew (HKF.out.drew)).mono ?_
                rintro e2 wf ⟨rfl, rfl⟩
                go_wp2_with fail
                (refine ⟨?anew, ?_⟩; case anew => ((repeat (refine Reg.anew_cons rfl rfl (fun _ => by go_simp) ?_)); exact Reg.anew_nil))
                repeat (first | (refine Reg.look rfl rfl rfl (by go_simp; rfl) rfl ?_; go_simp) | (refine Reg.skip rfl rfl rfl ?_; go_simp))
                (refine Reg.done ?_; simp only [Exit.then])
                go_wp2_with fail
                go_meet
                exact ⟨rfl, Lib.hid ((Kp.refl No wc).drew)⟩
              · have hRt : R = false := by rw [← HRE2.out]; exact decide_eq_false hef
                have hfb : (e == f) = false := beq_eq_false_iff_ne.2 hef
                have hfn : (e != f) = true := by rw [bne, hfb]; rfl
                subst hRt
                clear hef
                refine Reg.wp_region_plan [⟨0, false, []⟩, ⟨1, false, []⟩, ⟨2, false, []⟩, ⟨3, false, []⟩, ⟨4, false, []⟩, ⟨5, false, []⟩, ⟨6, false, []⟩, ⟨7, false, []⟩, ⟨8, false, []⟩, ⟨9, false, []⟩, ⟨10, false, []⟩, ⟨11, false, []⟩, ⟨12, false, []⟩, ⟨13, false, []⟩, ⟨14, false, []⟩, ⟨15, false, []⟩, ⟨16, false, []⟩, ⟨17, false, []⟩, ⟨18, true, [10, 11]⟩, ⟨19, false, []⟩, ⟨20, false, []⟩] rfl (by kernel_rfl) ?_
                repeat (first | (refine Reg.look rfl rfl rfl (by go_simp; rfl) rfl ?_; go_simp) | (refine Reg.skip rfl rfl rfl ?_; go_simp))
                refine Reg.act rfl ?_
                go_wp2_with fail
                refine (hfc wc.drew (HKF.out.drew)).mono ?_
                rintro e2 wf ⟨rfl, rfl⟩
                go_wp2_with fail
                (refine ⟨?anew, ?_⟩; case anew => ((repeat (refine Reg.anew_cons rfl rfl (fun _ => by go_simp) ?_)); exact Reg.anew_nil))
                repeat (first | (refine Reg.look rfl rfl rfl (by go_simp; rfl) rfl ?_; go_simp) | (refine Reg.skip rfl rfl rfl ?_; go_simp))
                (refine Reg.done ?_; simp only [Exit.then])
                go_wp2_with fail
                go_meet
                exact ⟨rfl, Lib.hid ((Kp.refl No wc).drew)⟩
            · have hRf : R = false := by rw [← hre]; exact decide_eq_false (fun h => hs h.2.1)
              have hsb : (st == (1 : Int)) = false := beq_eq_false_iff_ne.2 hs
              have hsn : (st != (1 : Int)) = true := by rw [bne, hsb]; rfl
              subst hRf
              clear hre HRE
              refine Reg.wp_region_plan [⟨0, false, []⟩, ⟨1, false, []⟩, ⟨2, false, []⟩, ⟨3, false, []⟩, ⟨4, false, []⟩, ⟨5, false, []⟩, ⟨6, false, []⟩, ⟨7, false, []⟩, ⟨8, false, []⟩, ⟨9, false, []⟩, ⟨10, false, []⟩, ⟨11, false, []⟩, ⟨12, false, []⟩, ⟨13, false, []⟩, ⟨14, false, []⟩, ⟨15, false, []⟩, ⟨16, false, []⟩, ⟨17, false, []⟩, ⟨18, true, [10, 11]⟩, ⟨19, false, []⟩, ⟨20, false, []⟩] rfl (by kernel_rfl) ?_
              repeat (first | (refine Reg.look rfl rfl rfl (by go_simp; rfl) rfl ?_; go_simp) | (refine Reg.skip rfl rfl rfl ?_; go_simp))
              refine Reg.act rfl ?_
              refine wpList_skip (by first | rfl | (go_simp; done) | decide) ?_
              go_wp2_with fail
              refine ⟨?anew, ?_⟩
              case anew =>
                (repeat (first | (refine Reg.anew_cons rfl rfl (fun h => absurd (show false = true from h) Bool.false_ne_true) ?_) | (refine Reg.anew_cons rfl rfl (fun _ => by go_simp) ?_)))
                exact Reg.anew_nil
              repeat (first | (refine Reg.look rfl rfl rfl (by go_simp; rfl) rfl ?_; go_simp) | (refine Reg.skip rfl rfl rfl ?_; go_simp))
              (refine Reg.done ?_; simp only [Exit.then])
              go_wp2_with fail
              go_meet
              exact ⟨rfl, Lib.hid ((Kp.refl No wc).drew)⟩
    case rest =>
      obtain ⟨rfl, HKG⟩ := hcut
      have HBG := Lib.hid (HBF.out.kept HKG.out (fun z => z))
      have HRG := Lib.hid (Rp.opl.slice.keptNo HRF.out HKG.out)
      have HKH := Lib.hid (HKF.out.trans' HKG.out)
      clear HBF HRF HKF HKG HFE HHO HOP
      cases R
      case false =>
        have hT : T' = T := by
          rw [← HT'.out]
          unfold shipT
          rw [if_neg (of_decide_eq_false HRR.out)]
        subst hT
        go_wp2_with fail
        go_ret
        exact ⟨rfl, HK0.out.trans' HKH.out, x, F, sv, tv, S, HIN.out.keptNo HKH.out⟩
      case true =>
        have hT : T' = { T with sent := T.sent ++ [(sentC L s a k, !s)] } := by
          rw [← HT'.out]
          unfold shipT
          rw [if_pos (of_decide_eq_true HRR.out), HL.out]
        have HT2 := Lib.hid hT
        have HEB : Hid (0 ≤ e ∧ e ≤ 16) := Lib.hid (by have h1 := (of_decide_eq_true HRE.out).2.2; have h2 := HFB.out; omega)
        have y0 : wc.cell? ⟨y, 0, none⟩ = some (.int .i64 e) := Blk.cell HBG.out rfl
        have hyw : y < wc.heap.size := Blk.lt HBG.out
        obtain ⟨q, hq⟩ : ∃ q, modN a (n + 1) = q := ⟨_, rfl⟩
        obtain ⟨r, hr⟩ : ∃ r, modN k 9 = r := ⟨_, rfl⟩
        have hm : (IntKind.u64.wrap a).tmod ((n : Int) + 1) = (q : Int) := by
          rw [← hq]
          have := modN_eq a (show 0 < n + 1 by omega)
          rw [← this]; congr 1
        have hql : q < n + 1 := by rw [← hq]; exact modN_lt a (by omega)
        have hm9 : (IntKind.u64.wrap k).tmod 9 = (r : Int) := by rw [← hr]; exact modN_eq k (show 0 < 9 by omega)
        have hrl : r < 9 := by rw [← hr]; exact modN_lt k (by omega)
        have HQE := Lib.hid hq
        have HRE9 := Lib.hid hr
        have hw0 : IntKind.i64.wrap ((n : Int) + 1) = (n : Int) + 1 := by rw [IntKind.wrap_i64]; omega
        have hw1 : IntKind.u64.wrap ((n : Int) + 1) = (n : Int) + 1 := by simp [IntKind.wrap, IntKind.bits, IntKind.signed]; omega
        have hw2 : IntKind.u64.wrap (q : Int) = (q : Int) := by simp [IntKind.wrap, IntKind.bits, IntKind.signed]; omega
        have hw3 : IntKind.i64.wrap (q : Int) = (q : Int) := by rw [IntKind.wrap_i64]; omega
        have hnz : ¬ ((n : Int) + 1 = 0) := by omega
        obtain ⟨si, hsi⟩ : ∃ z, sI s = z := ⟨_, rfl⟩
        have HSI := Lib.hid hsi
        rw [hsi]
        obtain ⟨wd, hwd⟩ : ∃ z, wc.drew = z := ⟨_, rfl⟩
        have hbu : (Instr.build 44 #[(0, .int .i64 3), (1, .int .i64 e), (2, .int .i64 si), (4, .int .i64 (q : Int))]).run Try.prog wd = .ok (.agg #[.int .i64 3, .int .i64 e, .int .i64 si, .int .i64 0, .int .i64 0, .int .i64 0, .int .i64 0, .int .i64 0, .int .i64 0, .string { data := #[] }, .int .i64 0, .slice none 0 0, .int .i64 (q : Int), .int .i64 0, .slice none 0 0, .int .i64 0]) wd := by go_simp
        have HKD : Hid (Kp No wc wd) := Lib.hid (by rw [← hwd]; exact (Kp.refl _ _).drew)
        clear hq hr hT HRE HRR hsi
        go_upto_region 4 with fail
        refine Reg.wp_region_tree (.look 0 (.look 1 (.look 2 (.look 3 (.look 4 (.look 5 (.look 6 (.look 7 (.look 8 (.look 9 (.look 10 (.look 11 (.one 12 [0, 1, 4, 6, 7, 8, 9, 10, 11] (.one 13 [] (.done))))))))))))))) [12, 13] rfl (by kernel_rfl) ?_
        rw [hwd]
        clear hwd y0
        have y0 : wd.cell? ⟨y, 0, none⟩ = some (.int .i64 e) := (HKD.out.cell hyw (fun z => z)).trans (Blk.cell HBG.out rfl)
        repeat (first | (refine Reg.lookT rfl rfl rfl (by go_simp; rfl) rfl ?_; go_simp))
        obtain ⟨z, hz⟩ : ∃ v, wd.heap.size = v := ⟨_, rfl⟩
        obtain ⟨we, hwe⟩ : ∃ v, wd.alloc (.cells #[.int .i64 0, .int .i64 0, .int .i64 0, .int .i64 0, .int .i64 0, .int .i64 0, .int .i64 0, .int .i64 0, .int .i64 0, .string { data := #[] }, .int .i64 0, .slice none 0 0, .int .i64 0, .int .i64 0, .slice none 0 0, .int .i64 0] 44) = v := ⟨_, rfl⟩
        have hke : Kp No wd we := by rw [← hwe]; exact (Kp.refl _ _).alloc _
        have HBZ : Hid (Blk we z 44 [.int .i64 0, .int .i64 0, .int .i64 0, .int .i64 0, .int .i64 0, .int .i64 0, .int .i64 0, .int .i64 0, .int .i64 0, .string { data := #[] }, .int .i64 0, .slice none 0 0, .int .i64 0, .int .i64 0, .slice none 0 0, .int .i64 0]) := Lib.hid (by rw [← hwe, ← hz]; exact Blk.new wd _ _)
        have HZW : Hid (wc.heap.size ≤ z) := Lib.hid (by rw [← hz]; exact HKD.out.size)
        have HKE := Lib.hid (HKD.out.trans' hke)
        have HYE : Hid (y < we.heap.size) := Lib.hid (Nat.lt_of_lt_of_le hyw HKE.out.size)
        have hyz : y < z := by rw [← hz]; exact Nat.lt_of_lt_of_le hyw HKD.out.size
        refine Reg.oneT rfl ?_
        go_wp2_with fail
        clear hwe hz y0
        have y0 : we.cell? ⟨y, 0, none⟩ = some (.int .i64 e) := (HKE.out.cell hyw (fun z => z)).trans (Blk.cell HBG.out rfl)
        (refine ⟨?anew, ?_⟩; case anew => ((repeat (refine Reg.anew_cons rfl rfl (fun _ => by go_simp) ?_)); exact Reg.anew_nil))
        repeat (first | (refine Reg.lookT rfl rfl rfl (by go_simp; rfl) rfl ?_; go_simp))
        have z0 : we.cell? ⟨z, 0, none⟩ = some _ := Blk.cell HBZ.out rfl
        have z1 : we.cell? ⟨z, 1, none⟩ = some _ := Blk.cell HBZ.out rfl
        have z2 : we.cell? ⟨z, 2, none⟩ = some _ := Blk.cell HBZ.out rfl
        have z3 : we.cell? ⟨z, 3, none⟩ = some _ := Blk.cell HBZ.out rfl
        have z4 : we.cell? ⟨z, 4, none⟩ = some _ := Blk.cell HBZ.out rfl
        have z5 : we.cell? ⟨z, 5, none⟩ = some _ := Blk.cell HBZ.out rfl
        have z6 : we.cell? ⟨z, 6, none⟩ = some _ := Blk.cell HBZ.out rfl
        have z7 : we.cell? ⟨z, 7, none⟩ = some _ := Blk.cell HBZ.out rfl
        have z8 : we.cell? ⟨z, 8, none⟩ = some _ := Blk.cell HBZ.out rfl
        have z9 : we.cell? ⟨z, 9, none⟩ = some _ := Blk.cell HBZ.out rfl
        have z10 : we.cell? ⟨z, 10, none⟩ = some _ := Blk.cell HBZ.out rfl
        have z11 : we.cell? ⟨z, 11, none⟩ = some _ := Blk.cell HBZ.out rfl
        have z12 : we.cell? ⟨z, 12, none⟩ = some _ := Blk.cell HBZ.out rfl
        have z13 : we.cell? ⟨z, 13, none⟩ = some _ := Blk.cell HBZ.out rfl
        have z14 : we.cell? ⟨z, 14, none⟩ = some _ := Blk.cell HBZ.out rfl
        have z15 : we.cell? ⟨z, 15, none⟩ = some _ := Blk.cell HBZ.out rfl
        have f0 := Blk.fr HBZ.out 0
        have f1 := Blk.fr HBZ.out 1
        have f2 := Blk.fr HBZ.out 2
        have f3 := Blk.fr HBZ.out 3
        have f4 := Blk.fr HBZ.out 4
        have f5 := Blk.fr HBZ.out 5
        have f6 := Blk.fr HBZ.out 6
        have f7 := Blk.fr HBZ.out 7
        have f8 := Blk.fr HBZ.out 8
        have f9 := Blk.fr HBZ.out 9
        have f10 := Blk.fr HBZ.out 10
        have f11 := Blk.fr HBZ.out 11
        have f12 := Blk.fr HBZ.out 12
        have f13 := Blk.fr HBZ.out 13
        have f14 := Blk.fr HBZ.out 14
        have f15 := Blk.fr HBZ.out 15
        refine Reg.oneT rfl ?_
        go_wp2_with fail
        clear z0 z1 z2 z3 z4 z5 z6 z7 z8 z9 z10 z11 z12 z13 z14 z15 f0 f1 f2 f3 f4 f5 f6 f7 f8 f9 f10 f11 f12 f13 f14 f15 y0 hbu
        refine ⟨Reg.anew_nil, ?_⟩
        refine Reg.doneT ?_
        simp only [Exit.then]
        obtain ⟨wf, hwf⟩ : ∃ v, sixteen we z (.int .i64 3) (.int .i64 e) (.int .i64 si) (.int .i64 0) (.int .i64 0) (.int .i64 0) (.int .i64 0) (.int .i64 0) (.int .i64 0) (.string { data := #[] }) (.int .i64 0) (.slice none 0 0) (.int .i64 (q : Int)) (.int .i64 0) (.slice none 0 0) (.int .i64 0) = v := ⟨_, rfl⟩
        have hbf := sixteen_blk HBZ.out (.int .i64 3) (.int .i64 e) (.int .i64 si) (.int .i64 0) (.int .i64 0) (.int .i64 0) (.int .i64 0) (.int .i64 0) (.int .i64 0) (.string { data := #[] }) (.int .i64 0) (.slice none 0 0) (.int .i64 (q : Int)) (.int .i64 0) (.slice none 0 0) (.int .i64 0)
        have hkf := sixteen_kp we z (.int .i64 3) (.int .i64 e) (.int .i64 si) (.int .i64 0) (.int .i64 0) (.int .i64 0) (.int .i64 0) (.int .i64 0) (.int .i64 0) (.string { data := #[] }) (.int .i64 0) (.slice none 0 0) (.int .i64 (q : Int)) (.int .i64 0) (.slice none 0 0) (.int .i64 0)
        rw [hwf] at hbf hkf
        have HBZ2 := Lib.hid hbf
        have HKF : Hid (Kp No wc wf) := Lib.hid (HKE.out.trans hkf (fun i hi he => by have := HZW.out; omega))
        have HRZ : Hid (Rp.opl.slice.R wf (fun k => w.heap.size ≤ k ∧ k < z) [.slice A1 n c1] L.ops) := Lib.hid (Rp.opl.slice.keptNo (Rp.opl.slice.more (Rp.opl.slice.bnd HRG.out) (fun k hk => ⟨hk.1.1, Nat.lt_of_lt_of_le hk.2 HZW.out⟩)) HKF.out)
        clear hbf hkf HBZ hke HKD HKE HYE
        unfold sixteen at hwf
        try rw [hwf]
        clear hwf
        obtain ⟨sn, hsn⟩ : ∃ v, sinceAt L.ops q = v := ⟨_, rfl⟩
        have HSN := Lib.hid hsn
        clear hsn
        have y12 : wf.cell? ⟨z, 12, none⟩ = some (.int .i64 (q : Int)) := Blk.cell HBZ2.out rfl
        go_upto_if 61 with fail
        go_cut [11] (fun pv wx => pv = .pointer (some ⟨z, 0, none⟩) ∧ Hid (Blk wx z 44 [.int .i64 3, .int .i64 e, .int .i64 si, .int .i64 0, .int .i64 0, .int .i64 0, .int .i64 0, .int .i64 0, .int .i64 0, .string { data := #[] }, .int .i64 0, .slice none 0 0, .int .i64 (q : Int), .int .i64 sn, .slice none 0 0, .int .i64 0]) ∧ Hid (Kp No wc wx))
        case first =>
          revert yQ
          as_aux_lemma =>
            intros
            by_cases hq0 : q = 0
            · have hsn0 : sn = 0 := by rw [← HSN.out]; unfold sinceAt; rw [if_pos hq0]
              subst hsn0
              have hq0n : ¬ (0 : Int) < (q : Int) := by omega
              have hq0b : decide (0 < q) = false := decide_eq_false (by omega)
              clear hq0
              go_wp2_with fail
              go_meet
              exact ⟨rfl, HBZ2, HKF⟩
            · have hq0n : (0 : Int) < (q : Int) := by omega
              have hq0b : decide (0 < q) = true := decide_eq_true (by omega)
              obtain ⟨j, hj⟩ : ∃ j, q = j + 1 := ⟨q - 1, by omega⟩
              have hro : Rp.opl.slice.R wf (fun k => w.heap.size ≤ k ∧ k < z) [.slice A1 L.ops.length c1] L.ops := by rw [HN.out]; exact HRZ.out
              obtain ⟨o, ho⟩ : ∃ o, L.ops[j]? = some o := ⟨_, List.getElem?_eq_getElem (by have := HN.out; omega)⟩
              obtain ⟨ad, A2, c2, hA, _, hcell, _, _⟩ := Rp.at_opl hro ho
              subst hA
              obtain ⟨_, b1, _, _, _, _, _, _, _⟩ := opl_cells hcell
              have hsn1 : o.epoch = sn := by rw [← HSN.out]; unfold sinceAt; rw [if_neg hq0, hj, Nat.add_sub_cancel, ho]
              rw [hsn1] at b1
              have hij : (q : Int) - 1 = (j : Int) := by omega
              have hjl : (j : Int) < (n : Int) := by omega
              have g13 := Blk.fr HBZ2.out 13
              have y13 : wf.cell? ⟨z, 13, none⟩ = some (.int .i64 0) := Blk.cell HBZ2.out rfl
              have hb13 := Blk.set HBZ2.out 13 (.int .i64 sn)
              have hk13 : Kp (· = z) wf (wf.setCell ⟨z, 13, none⟩ (.int .i64 sn)) := (Kp.refl (· = z) wf).setCell (p := ⟨z, 13, none⟩) (fun _ => rfl) _
              have HB13 := Lib.hid hb13
              have HK13 : Hid (Kp No wc (wf.setCell ⟨z, 13, none⟩ (.int .i64 sn))) := Lib.hid (HKF.out.trans hk13 (fun i hi he => by have := HZW.out; omega))
              clear hq0 hj ho hro hcell hsn1 hb13 hk13
              go_wp2_with fail
              go_meet
              exact ⟨rfl, HB13, HK13⟩
        case rest =>
          obtain ⟨rfl, HBZ3, HKZ⟩ := hcut
          have HRY : Hid (Rp.opl.slice.R wc (fun k => w.heap.size ≤ k ∧ k < z) [.slice A1 L.ops.length c1] L.ops) := Lib.hid (by
            rw [HN.out]
            exact Rp.opl.slice.keptNo (Rp.opl.slice.more (Rp.opl.slice.bnd HRG.out) (fun k hk => ⟨hk.1.1, Nat.lt_of_lt_of_le hk.2 HZW.out⟩)) HKZ.out)
          clear HRZ HBZ2 HKF y12 hw0 hw1 hw2 hm hnz
          obtain ⟨M, hM⟩ : ∃ M, (L.ops.drop q).take r = M := ⟨_, rfl⟩
          have HME := Lib.hid hM
          have hMl : M.length = min (n - q) r := by rw [← hM, List.length_take, List.length_drop, HN.out]; omega
          obtain ⟨m, hm2⟩ : ∃ m, M.length = m := ⟨_, rfl⟩
          have HML := Lib.hid hm2
          go_upto_region 7 with fail
          go_cut [11] (fun pv wx => ∃ Ab cb, pv = .pointer (some ⟨z, 0, none⟩) ∧ Hid (Blk wx z 44 [.int .i64 3, .int .i64 e, .int .i64 si, .int .i64 0, .int .i64 0, .int .i64 0, .int .i64 0, .int .i64 0, .int .i64 0, .string { data := #[] }, .int .i64 0, .slice none 0 0, .int .i64 (q : Int), .int .i64 sn, .slice Ab m cb, .int .i64 0]) ∧ Hid (Rp.opl.slice.R wx (fun k => w.heap.size ≤ k ∧ k < z) [.slice Ab m cb] M) ∧ Hid (Kp (· = z) wc wx))
          case first =>
            revert yQ
            as_aux_lemma =>
              intros
              have y12 : wc.cell? ⟨z, 12, none⟩ = some (.int .i64 (q : Int)) := Blk.cell HBZ3.out rfl
              have y14 : wc.cell? ⟨z, 14, none⟩ = some (.slice none 0 0) := Blk.cell HBZ3.out rfl
              have g14 := Blk.fr HBZ3.out 14
              have hw4 : IntKind.i64.wrap (r : Int) = (r : Int) := by rw [IntKind.wrap_i64]; omega
              have hw5 : IntKind.i64.wrap ((q : Int) + (r : Int)) = (q : Int) + (r : Int) := by rw [IntKind.wrap_i64]; omega
              obtain ⟨hi, hhi⟩ : ∃ hi : Nat, min n (q + r) = hi := ⟨_, rfl⟩
              have hmi : min (n : Int) ((q : Int) + (r : Int)) = (hi : Int) := by omega
              have hqh : q ≤ hi := by omega
              have hhn : hi ≤ n := by omega
              have hmq : hi - q = m := by omega
              have hcn := capS_le HRY.out
              rw [HN.out] at hcn
              clear hM hMl hm2 hhi
              have hcx := capM_le HRY.out
              have HRY2 := Lib.hid HRY.out
              have HMQ := Lib.hid hmq
              rcases A1 with _ | ad
              · have hn0 : n = 0 := by
                  have := nil_of_none HRY2.out
                  rw [← HN.out, this]; rfl
                have hM0 : M = [] := by rw [← HME.out, nil_of_none HRY2.out]; simp
                have hm0 : m = 0 := by rw [← HML.out, hM0]; rfl
                have hq0 : q = 0 := by omega
                have hr0 : (0 : Int) ≤ (r : Int) := by omega
                subst hn0 hm0 hq0 hM0
                clear hmi hqh hhn hmq hql hw5
                go_wp2_with fail
                go_meet
                have hb14 := Blk.set HBZ3.out 14 (.slice (none) 0 (c1))
                have hk14 : Kp (· = z) wc (wc.setCell ⟨z, 14, none⟩ (.slice (none) 0 (c1))) := (Kp.refl (· = z) wc).setCell (p := ⟨z, 14, none⟩) (fun _ => rfl) _
                exact ⟨none, c1, rfl, Lib.hid hb14, Lib.hid (Rp.nil_ _ _ _ _ (by first | exact hcx | simp [maxLen])), Lib.hid hk14⟩
              · by_cases hcq : c1 = q
                · have hnq : n = q := by omega
                  have hm0 : m = 0 := by omega
                  have hM0 : M = [] := List.eq_nil_of_length_eq_zero (by rw [HML.out]; exact hm0)
                  have hr0 : (q : Int) ≤ (q : Int) + (r : Int) := by omega
                  subst hcq hnq hm0 hM0
                  clear hmi hqh hhn hmq hql
                  go_wp2_with fail
                  go_meet
                  have hb14 := Blk.set HBZ3.out 14 (.slice (some ad) 0 (0))
                  have hk14 : Kp (· = z) wc (wc.setCell ⟨z, 14, none⟩ (.slice (some ad) 0 (0))) := (Kp.refl (· = z) wc).setCell (p := ⟨z, 14, none⟩) (fun _ => rfl) _
                  exact ⟨some ad, 0, rfl, Lib.hid hb14, Lib.hid (Rp.nil_ _ _ _ _ (by first | exact hcx | simp [maxLen])), Lib.hid hk14⟩
                · have hcq2 : ¬ q = c1 := fun h => hcq h.symm
                  have hrd : Rp.opl.slice.R wc (fun k => w.heap.size ≤ k ∧ k < z) [.slice (some (ad.add (q * 9))) m (c1 - q)] M := by
                    have h1 : Rp.opl.slice.R wc (fun k => w.heap.size ≤ k ∧ k < z) [.slice (some (ad.add (q * 9))) (L.ops.drop q).length (c1 - q)] (L.ops.drop q) := Rp.cut HRY2.out (by rw [HN.out]; omega)
                    have h2 := Rp.take4 (k := r) h1
                    rw [HME.out, HML.out] at h2
                    exact h2
                  have HRD := Lib.hid hrd
                  by_cases hnr : n ≤ q + r
                  · have hnr2 : (n : Int) ≤ (q : Int) + (r : Int) := by omega
                    have hmq2 : n - q = m := by omega
                    clear hmi hmq hrd
                    go_wp2_with fail
                    go_meet
                    have hb14 := Blk.set HBZ3.out 14 (.slice (some (ad.add (q * 9))) m (c1 - q))
                    have hk14 : Kp (· = z) wc (wc.setCell ⟨z, 14, none⟩ (.slice (some (ad.add (q * 9))) m (c1 - q))) := (Kp.refl (· = z) wc).setCell (p := ⟨z, 14, none⟩) (fun _ => rfl) _
                    exact ⟨some (ad.add (q * 9)), c1 - q, rfl, Lib.hid hb14, Lib.hid (Rp.opl.slice.kept HRD.out hk14 (fun k hk _ he => by have := hk.2; omega)), Lib.hid hk14⟩
                  · have hnr2 : ¬ (n : Int) ≤ (q : Int) + (r : Int) := by omega
                    have hqr : (q : Int) + (r : Int) = ((q + r : Nat) : Int) := by omega
                    have hmq2 : ((q : Int) + (r : Int)).toNat - q = m := by omega
                    have hmq3 : q + r - q = m := by omega
                    have hqn2 : q + r ≤ n := by omega
                    clear hmi hmq hrd hqr
                    go_wp2_with fail
                    go_meet
                    have hb14 := Blk.set HBZ3.out 14 (.slice (some (ad.add (q * 9))) m (c1 - q))
                    have hk14 : Kp (· = z) wc (wc.setCell ⟨z, 14, none⟩ (.slice (some (ad.add (q * 9))) m (c1 - q))) := (Kp.refl (· = z) wc).setCell (p := ⟨z, 14, none⟩) (fun _ => rfl) _
                    exact ⟨some (ad.add (q * 9)), c1 - q, rfl, Lib.hid hb14, Lib.hid (Rp.opl.slice.kept HRD.out hk14 (fun k hk _ he => by have := hk.2; omega)), Lib.hid hk14⟩
          case rest =>
            obtain ⟨Ab, cb, rfl, HB8, HR8, HK8z⟩ := hcut
            have HK8 := Lib.hid ((HKH.out.trans' HKZ.out).trans HK8z.out (fun i hi he => by have := HZW.out; have := HKH.out.size; omega))
            have HZ2 : Hid (w.heap.size ≤ z) := Lib.hid (by have := HZW.out; have := HKH.out.size; omega)
            clear HBZ3 HKZ HK8z HRY HRG HBG HKH HZW HYW hw3 hm9 hyz hyw
            obtain ⟨wb, hwb⟩ : ∃ v, v = wc := ⟨_, rfl⟩
            subst hwb
            have HZL : Hid (z < wb.heap.size) := Lib.hid (Blk.lt HB8.out)
            have HSB : Hid (0 ≤ si ∧ si ≤ 1) := Lib.hid (by rw [← HSI.out]; unfold sI; split <;> omega)
            have HSNB : Hid (0 ≤ sn ∧ sn ≤ 16) := Lib.hid (by
              rw [← HSN.out]
              unfold sinceAt
              split
              · omega
              · split
                · rename_i o ho
                  have h1 := (HOK.out.led s).okOf (o := o) (by rw [HL.out]; exact List.mem_of_getElem? ho)
                  have h2 := h1.1.2.2
                  unfold reignP at h2
                  omega
                · omega)
            have HNU : Hid (CmdL.nums (⟨3, e, si, opZ, (q : Int), sn, M, 0⟩ : CmdL)) := Lib.hid (by
              have h1 := HEB.out
              have h2 := HSB.out
              have h3 := HSNB.out
              have hz : I64 0 := WalkArith.wf_i64 ⟨by omega, by omega⟩
              have i3 : I64 3 := WalkArith.wf_i64 ⟨by omega, by omega⟩
              have ie : I64 e := WalkArith.wf_i64 ⟨by omega, by omega⟩
              have is : I64 si := WalkArith.wf_i64 ⟨by omega, by omega⟩
              have iq : I64 (q : Int) := WalkArith.wf_i64 ⟨by omega, by omega⟩
              have iw : I64 sn := WalkArith.wf_i64 ⟨by omega, by omega⟩
              exact ⟨i3, ie, is, ⟨hz, hz, hz, hz, hz, hz, by show 0 ≤ maxLen; omega, hz⟩, iq, iw, hz⟩)
            have HCC : Hid (sentC L s a k = (⟨3, e, si, opZ, (q : Int), sn, M, 0⟩ : CmdL)) := Lib.hid (by
              unfold sentC shipC
              rw [HE.out, HSI.out, HN.out, HQE.out, HRE9.out, HSN.out, HME.out])
            have HSIN : Hid (sI (!s) = 1 - si) := Lib.hid (by rw [← HSI.out]; cases s <;> rfl)
            have k3 : wb.cell? ⟨t, 3, none⟩ = some sv := (HK8.out.cell HLT.out (fun z => z)).trans HQ3.out
            have k4 : wb.cell? ⟨t, 4, none⟩ = some tv := (HK8.out.cell HLT.out (fun z => z)).trans HQ4.out
            have hsi1 : IntKind.i64.wrap (1 - si) = 1 - si := by have := HSB.out; rw [IntKind.wrap_i64]; omega
            have z0 : wb.cell? ⟨z, 0, none⟩ = some _ := Blk.cell HB8.out rfl
            have z1 : wb.cell? ⟨z, 1, none⟩ = some _ := Blk.cell HB8.out rfl
            have z2 : wb.cell? ⟨z, 2, none⟩ = some _ := Blk.cell HB8.out rfl
            have z3 : wb.cell? ⟨z, 3, none⟩ = some _ := Blk.cell HB8.out rfl
            have z4 : wb.cell? ⟨z, 4, none⟩ = some _ := Blk.cell HB8.out rfl
            have z5 : wb.cell? ⟨z, 5, none⟩ = some _ := Blk.cell HB8.out rfl
            have z6 : wb.cell? ⟨z, 6, none⟩ = some _ := Blk.cell HB8.out rfl
            have z7 : wb.cell? ⟨z, 7, none⟩ = some _ := Blk.cell HB8.out rfl
            have z8 : wb.cell? ⟨z, 8, none⟩ = some _ := Blk.cell HB8.out rfl
            have z9 : wb.cell? ⟨z, 9, none⟩ = some _ := Blk.cell HB8.out rfl
            have z10 : wb.cell? ⟨z, 10, none⟩ = some _ := Blk.cell HB8.out rfl
            have z11 : wb.cell? ⟨z, 11, none⟩ = some _ := Blk.cell HB8.out rfl
            have z12 : wb.cell? ⟨z, 12, none⟩ = some _ := Blk.cell HB8.out rfl
            have z13 : wb.cell? ⟨z, 13, none⟩ = some _ := Blk.cell HB8.out rfl
            have z14 : wb.cell? ⟨z, 14, none⟩ = some _ := Blk.cell HB8.out rfl
            have z15 : wb.cell? ⟨z, 15, none⟩ = some _ := Blk.cell HB8.out rfl
            go_upto_region 8 with fail
            refine Reg.wp_region_tree (.look 0 (.look 1 (.look 2 (.look 3 (.look 4 (.look 5 (.look 6 (.look 9 (.look 10 (.look 11 (.look 12 (.look 13 (.look 14 (.two 7 [3, 4, 5, 10, 11, 12, 14] (.two 8 [10, 11, 12, 14] (.one 15 [10, 11, 12] (.one 16 [] (.look 17 (.look 18 (.one 19 [] (.look 20 (.look 21 (.one 22 [] (.done))))))))) 15 [3, 4, 5, 10, 11, 12] (.one 8 [10, 11, 12] (.one 16 [] (.look 17 (.look 18 (.one 19 [] (.look 20 (.look 21 (.one 22 [] (.done)))))))))) 15 [3, 4, 5, 6, 10, 11, 12] (.one 7 [3, 4, 5, 10, 11, 12] (.one 8 [10, 11, 12] (.one 16 [] (.look 17 (.look 18 (.one 19 [] (.look 20 (.look 21 (.one 22 [] (.done)))))))))))))))))))))))) [7, 8, 15, 16, 19, 22] rfl (by kernel_rfl) ?_
            repeat (first | (refine Reg.lookT rfl rfl rfl (by go_simp; rfl) rfl ?_; go_simp))
            obtain ⟨wd, hwd⟩ : ∃ v, wb.drew = v := ⟨_, rfl⟩
            have HKD : Hid (Kp No wb wd) := Lib.hid (by rw [← hwd]; exact (Kp.refl _ _).drew)
            rw [hwd]
            clear hwd k3 k4 z0 z1 z2 z3 z4 z5 z6 z7 z8 z9 z10 z11 z12 z13 z14 z15
            have k3 : wd.cell? ⟨t, 3, none⟩ = some sv := (((HK8.out.trans' HKD.out)).cell HLT.out (fun z => z)).trans HQ3.out
            have k4 : wd.cell? ⟨t, 4, none⟩ = some tv := (((HK8.out.trans' HKD.out)).cell HLT.out (fun z => z)).trans HQ4.out
            refine Reg.twoT rfl rfl ?_ ?_
            · skip
              obtain ⟨wa, hw2⟩ : ∃ v, wd.alloc (.cells #[.int .i64 3, .int .i64 e, .int .i64 si, .int .i64 0, .int .i64 0, .int .i64 0, .int .i64 0, .int .i64 0, .int .i64 0, .string { data := #[] }, .int .i64 0, .slice none 0 0, .int .i64 (q : Int), .int .i64 sn, .slice Ab m cb, .int .i64 0] 44) = v := ⟨_, rfl⟩
              obtain ⟨g1, hg1⟩ : ∃ v, wd.heap.size = v := ⟨_, rfl⟩
              have hkb : Kp No wd wa := by rw [← hw2]; exact (Kp.refl _ _).alloc _
              have HKa : Hid (Kp No wb wa) := Lib.hid (HKD.out.trans' hkb)
              have hlit : (Instr.buildSlice 27 1 #[(0, .agg #[.int .i64 3, .int .i64 e, .int .i64 si, .int .i64 0, .int .i64 0, .int .i64 0, .int .i64 0, .int .i64 0, .int .i64 0, .string { data := #[] }, .int .i64 0, .slice none 0 0, .int .i64 (q : Int), .int .i64 sn, .slice Ab m cb, .int .i64 0])]).run Try.prog wd = .ok (.slice (some ⟨g1, 0, none⟩) 1 1) wa := by
                rw [← hw2, ← hg1]
                exact run_lit_cmd wd (⟨3, e, si, opZ, (q : Int), sn, M, 0⟩ : CmdL) (.slice none 0 0) (.slice Ab m cb)
              have HG1 : Hid (w.heap.size ≤ g1 ∧ z < g1) := Lib.hid (by have h1 := HK8.out.size; have h2 := HKD.out.size; have h3 := HZL.out; rw [← hg1]; omega)
              have HGL : Hid (g1 < wa.heap.size) := Lib.hid (by rw [← hw2, ← hg1]; simp)
              have HL1 : Hid (Rp.cmd.slice.R wa (fun k => w.heap.size ≤ k ∧ k ≤ g1) [.slice (some ⟨g1, 0, none⟩) 1 1] [(⟨3, e, si, opZ, (q : Int), sn, M, 0⟩ : CmdL)]) := Lib.hid (by
                have h1 := Own.oneC wd (⟨3, e, si, opZ, (q : Int), sn, M, 0⟩ : CmdL) (.slice none 0 0) (.slice Ab m cb) (fun k => w.heap.size ≤ k ∧ k ≤ g1) HNU.out (Rp.none_ _ _ _) (Rp.opl.slice.more (Rp.opl.slice.keptNo HR8.out HKD.out) (fun k hk => ⟨hk.1, by have h1 := hk.2; have h2 := HG1.out.2; omega⟩)) rfl rfl
                have h2 := h1.read (fun k hk => by
                  have hk : wd.heap.size = k := by injection hk
                  have := HG1.out
                  omega)
                rw [hg1] at h2
                rw [← hw2]; exact h2)
              clear k3 k4
              refine wpList_litW (by first | rfl | go_simp) 27 _ rfl _ _ (by go_simp) hlit ?_
              go_wp2_with fail
              clear hw2 hg1 hlit
              have k3 : wa.cell? ⟨t, 3, none⟩ = some sv := (((HK8.out.trans' HKa.out)).cell HLT.out (fun z => z)).trans HQ3.out
              have k4 : wa.cell? ⟨t, 4, none⟩ = some tv := (((HK8.out.trans' HKa.out)).cell HLT.out (fun z => z)).trans HQ4.out
              (refine ⟨?anew, ?_⟩; case anew => ((repeat (refine Reg.anew_cons rfl rfl (fun _ => by go_simp) ?_)); exact Reg.anew_nil))
              repeat (first | (refine Reg.lookT rfl rfl rfl (by go_simp; rfl) rfl ?_; go_simp))
              refine Reg.twoT rfl rfl ?_ ?_
              · revert yQ
                as_aux_lemma =>
                  intros
                  refine wpList_append_rp (E := Rp.cmd) rfl _ (.tmp 90) (.tmp 92) 27 rfl w0.heap.size 44 168 el_cmd (fun k => S k ∨ (w.heap.size ≤ k ∧ k ≤ g1)) sv (T.sent.map (·.1)) rfl ((HIN.out.sent.keptNo (HK8.out.trans' HKa.out)).mono (Nat.le_refl _) (fun k hk => .inl hk)) (some ⟨g1, 0, none⟩) 1 (fun k => w.heap.size ≤ k ∧ k ≤ g1) [(⟨3, e, si, opZ, (q : Int), sn, M, 0⟩ : CmdL)] rfl HL1.out Rp.cmd_one ?hcap ?hby ?hba (fun k hk => .inr hk) ?hsv ?_
                  case hcap => have := HOK.out.many; simp [maxLen]; omega
                  case hby => have := HOK.out.many; simp; omega
                  case hba => exact (HK0.out.trans' (HK8.out.trans' HKa.out)).size
                  case hsv =>
                    intro k hk hs
                    rcases hs with hs | hs
                    · exact (HIN.out.so k hs).1 hk
                    · have := (HIN.out.sent.lt k hk).2; omega
                  intro sv2 w1 hown8 hgr8 hbl8
                  have hk8 : Kp (fun k => sv.ownBlock = some k) wa w1 := (Kp.refl _ _).grown hgr8 (fun g hg _ => hg)
                  have HOW8 := Lib.hid hown8
                  have HKA : Hid (Kp (fun k => sv.ownBlock = some k) w w1) := Lib.hid (((HK8.out.trans' HKa.out).any).trans hk8 (fun _ _ h => h))
                  have HBL8 : Hid (sv2.ownBlock = sv.ownBlock ∨ ∃ g, sv2.ownBlock = some g ∧ w.heap.size ≤ g ∧ g1 < g) := Lib.hid (hbl8.imp id (fun h => ⟨_, h, (HK8.out.trans' HKa.out).size, HGL.out⟩))
                  have HGM : Hid (g1 < w1.heap.size) := Lib.hid (Nat.lt_of_lt_of_le HGL.out hk8.size)
                  clear hown8 hgr8 hbl8 k3 k4
                  have k4 : w1.cell? ⟨t, 4, none⟩ = some tv := (HKA.out.cell HLT.out (HIN.out.st.2.1)).trans HQ4.out
                  go_wp2_with fail
                  (refine ⟨?anew, ?_⟩; case anew => ((repeat (refine Reg.anew_cons rfl rfl (fun _ => by go_simp) ?_)); exact Reg.anew_nil))
                  repeat (first | (refine Reg.lookT rfl rfl rfl (by go_simp; rfl) rfl ?_; go_simp))
                  refine Reg.oneT rfl ?_
                  obtain ⟨w2, hw2⟩ : ∃ v, w1.alloc (.cells #[.int .i64 (1 - si)] 3) = v := ⟨_, rfl⟩
                  obtain ⟨g2, hg2⟩ : ∃ v, w1.heap.size = v := ⟨_, rfl⟩
                  have hkb : Kp No w1 w2 := by rw [← hw2]; exact (Kp.refl _ _).alloc _
                  have HB2 : Hid (Blk w2 g2 3 [.int .i64 (1 - si)]) := Lib.hid (by rw [← hw2, ← hg2]; exact Blk.new w1 _ _)
                  have HG2 : Hid (w.heap.size ≤ g2) := Lib.hid (by rw [← hg2]; exact (HKA.out).size)
                  go_wp2_with fail
                  clear hw2 hg2
                  have k4 : w2.cell? ⟨t, 4, none⟩ = some tv := ((HKA.out.trans hkb (fun _ _ h => h.elim)).cell HLT.out (HIN.out.st.2.1)).trans HQ4.out
                  (refine ⟨?anew, ?_⟩; case anew => ((repeat (refine Reg.anew_cons rfl rfl (fun _ => by go_simp) ?_)); exact Reg.anew_nil))
                  repeat (first | (refine Reg.lookT rfl rfl rfl (by go_simp; rfl) rfl ?_; go_simp))
                  have HKW : Hid (Kp No w1 w2) := Lib.hid hkb
                  have HTO : Hid (Own (Rp.int .i64) w2 No w0.heap.size 3 tv (T.sent.map fun p => sI p.2)) := Lib.hid ((HIN.out.tos.kept HKA.out (fun _ hs _ _ => hs) (fun k hv he => HIN.out.oo k he hv)).keptNo HKW.out)
                  refine Reg.oneT rfl ?_
                  refine wpList_append_rp (E := Rp.int .i64) rfl _ (.tmp 97) (.tmp 100) 28 rfl w0.heap.size 3 8 el_intT (fun k => k = g2) tv (T.sent.map fun p => sI p.2) rfl (HTO.out.mono (Nat.le_refl _) (fun _ hs => hs.elim)) (some ⟨g2, 0, none⟩) 1 (fun k => k = g2) [1 - si] rfl (Rp.of_block HB2.out rfl rfl (Nat.le_refl _) (by simp [maxLen]) (fun a ha => by simp only [List.mem_cons, List.not_mem_nil, or_false] at ha; subst ha; have := HSB.out; exact WalkArith.wf_i64 ⟨by omega, by omega⟩)) Rp.int_one ?hcap2 ?hby2 ?hba2 (fun _ h => h) ?hsv2 ?_
                  case hcap2 => have := HOK.out.many; simp [maxLen]; omega
                  case hby2 => have := HOK.out.many; simp; omega
                  case hba2 => exact Nat.le_trans HK0.out.size (Nat.le_trans HKA.out.size HKW.out.size)
                  case hsv2 => exact fun k hk hs => by have h1 := (HIN.out.tos.lt k hk).2; have h2 := HG2.out; omega
                  intro tv2 wz hown9 hgr9 hbl9
                  have hk9 : Kp (fun k => tv.ownBlock = some k) w2 wz := (Kp.refl _ _).grown hgr9 (fun g hg _ => hg)
                  have hbt := ((HIN.out.blk.kept HKA.out HIN.out.st.2.1).kept HKW.out (fun z => z)).kept hk9 HIN.out.st.2.2
                  obtain ⟨A8, c8, he8⟩ := HOW8.out.shape
                  obtain ⟨A9, c9, he9⟩ := hown9.shape
                  have hwn : w.heap.size ≤ w1.heap.size := HKA.out.size
                  have HFIN : Hid (TNew w0 ((wz.setCell ⟨t, 3, none⟩ sv2).setCell ⟨t, 4, none⟩ tv2) t T') := Lib.hid (by
                    have hg := HIN.out.grown (p := (sentC L s a k, !s)) (S' := fun k => S k ∨ (w.heap.size ≤ k ∧ k ≤ g1)) HKA.out ((HKW.out.any).trans hk9 (fun _ _ h => h))
                      (fun k hk => by
                        rcases hk with hk | hk
                        · have h1 := HIN.out.sb k hk
                          exact ⟨h1.1, by omega, .inl hk⟩
                        · refine ⟨Nat.le_trans HK0.out.size hk.1, by have := HGM.out; omega, .inr ⟨hk.1, fun he => ?_⟩⟩
                          rcases HBL8.out with h1 | ⟨g, h1, h2, h3⟩
                          · rw [h1] at he
                            have := (HIN.out.sent.lt k he).2
                            omega
                          · rw [h1] at he
                            injection he with he
                            omega)
                      (by rw [HCC.out]; exact HOW8.out) (HBL8.out.imp id (fun ⟨g, h1, h2, _⟩ => ⟨g, h1, h2⟩)) (by rw [HSIN.out]; obtain ⟨xs, h1, h2, h3⟩ := hown9; exact ⟨xs, h1, h2, fun i a ha => h3 i a ha⟩) (hbl9.imp id (fun h => ⟨_, h, HKW.out.size⟩))
                    refine ⟨?_, x, F, _, _, _, by rw [HT2.out]; exact hg⟩
                    have h1 : Kp No w0 w1 := HK0.out.trans HKA.out (fun k hk he => by have := (HIN.out.sent.lt k he).1; omega)
                    have h2 : Kp No w0 wz := (h1.trans' HKW.out).trans hk9 (fun k hk he => by have := (HIN.out.tos.lt k he).1; omega)
                    exact h2.trans (((Kp.refl (· = t) wz).setCell (p := ⟨t, 3, none⟩) (fun _ => rfl) _).setCell (p := ⟨t, 4, none⟩) (fun _ => rfl) _) (fun k hk he => by have := HIN.out.tb; omega))
                  have m3 : wz.cell? ⟨t, 3, none⟩ = some sv := Blk.cell hbt rfl
                  have m4 : wz.cell? ⟨t, 4, none⟩ = some tv := Blk.cell hbt rfl
                  have f3 := Blk.fr hbt 3
                  have f4 := Blk.fr hbt 4
                  clear hown9 hgr9 hbl9 hk9 hbt
                  subst he8 he9
                  go_wp2_with fail
                  refine ⟨Reg.anew_nil, ?_⟩
                  repeat (first | (refine Reg.lookT rfl rfl rfl (by go_simp; rfl) rfl ?_; go_simp))
                  refine Reg.oneT rfl ?_
                  go_wp2_with fail
                  refine ⟨Reg.anew_nil, ?_⟩
                  repeat (first | (refine Reg.lookT rfl rfl rfl (by go_simp; rfl) rfl ?_; go_simp))
                  refine Reg.oneT rfl ?_
                  go_wp2_with fail
                  refine ⟨Reg.anew_nil, ?_⟩
                  refine Reg.doneT ?_
                  simp only [Exit.then]
                  go_wp2_with fail
                  go_ret
                  have hff := HFIN.out
                  simp only [List.length_append, List.length_map, List.length_cons, List.length_nil, Nat.zero_add] at hff
                  exact ⟨rfl, hff⟩
              · revert yQ
                as_aux_lemma =>
                  intros
                  obtain ⟨w2, hw2⟩ : ∃ v, wa.alloc (.cells #[.int .i64 (1 - si)] 3) = v := ⟨_, rfl⟩
                  obtain ⟨g2, hg2⟩ : ∃ v, wa.heap.size = v := ⟨_, rfl⟩
                  have hkb : Kp No wa w2 := by rw [← hw2]; exact (Kp.refl _ _).alloc _
                  have HB2 : Hid (Blk w2 g2 3 [.int .i64 (1 - si)]) := Lib.hid (by rw [← hw2, ← hg2]; exact Blk.new wa _ _)
                  have HG2 : Hid (w.heap.size ≤ g2) := Lib.hid (by rw [← hg2]; exact ((HK8.out.trans' HKa.out)).size)
                  go_wp2_with fail
                  clear hw2 hg2
                  have HKc : Hid (Kp No wb w2) := Lib.hid (HKa.out.trans' hkb)
                  have HL1 := Lib.hid (Rp.cmd.slice.keptNo HL1.out hkb)
                  have HGL : Hid (g1 < w2.heap.size) := Lib.hid (Nat.lt_of_lt_of_le HGL.out hkb.size)
                  have k3 : w2.cell? ⟨t, 3, none⟩ = some sv := (((HK8.out.trans' HKc.out)).cell HLT.out (fun z => z)).trans HQ3.out
                  have k4 : w2.cell? ⟨t, 4, none⟩ = some tv := (((HK8.out.trans' HKc.out)).cell HLT.out (fun z => z)).trans HQ4.out
                  (refine ⟨?anew, ?_⟩; case anew => ((repeat (refine Reg.anew_cons rfl rfl (fun _ => by go_simp) ?_)); exact Reg.anew_nil))
                  repeat (first | (refine Reg.lookT rfl rfl rfl (by go_simp; rfl) rfl ?_; go_simp))
                  refine Reg.oneT rfl ?_
                  refine wpList_append_rp (E := Rp.cmd) rfl _ (.tmp 90) (.tmp 92) 27 rfl w0.heap.size 44 168 el_cmd (fun k => S k ∨ (w.heap.size ≤ k ∧ k ≤ g1)) sv (T.sent.map (·.1)) rfl ((HIN.out.sent.keptNo (HK8.out.trans' HKc.out)).mono (Nat.le_refl _) (fun k hk => .inl hk)) (some ⟨g1, 0, none⟩) 1 (fun k => w.heap.size ≤ k ∧ k ≤ g1) [(⟨3, e, si, opZ, (q : Int), sn, M, 0⟩ : CmdL)] rfl HL1.out Rp.cmd_one ?hcap ?hby ?hba (fun k hk => .inr hk) ?hsv ?_
                  case hcap => have := HOK.out.many; simp [maxLen]; omega
                  case hby => have := HOK.out.many; simp; omega
                  case hba => exact (HK0.out.trans' (HK8.out.trans' HKc.out)).size
                  case hsv =>
                    intro k hk hs
                    rcases hs with hs | hs
                    · exact (HIN.out.so k hs).1 hk
                    · have := (HIN.out.sent.lt k hk).2; omega
                  intro sv2 w3 hown8 hgr8 hbl8
                  have hk8 : Kp (fun k => sv.ownBlock = some k) w2 w3 := (Kp.refl _ _).grown hgr8 (fun g hg _ => hg)
                  have HOW8 := Lib.hid hown8
                  have HKA : Hid (Kp (fun k => sv.ownBlock = some k) w w3) := Lib.hid (((HK8.out.trans' HKc.out).any).trans hk8 (fun _ _ h => h))
                  have HBL8 : Hid (sv2.ownBlock = sv.ownBlock ∨ ∃ g, sv2.ownBlock = some g ∧ w.heap.size ≤ g ∧ g1 < g) := Lib.hid (hbl8.imp id (fun h => ⟨_, h, (HK8.out.trans' HKc.out).size, HGL.out⟩))
                  have HGM : Hid (g1 < w3.heap.size) := Lib.hid (Nat.lt_of_lt_of_le HGL.out hk8.size)
                  clear hown8 hgr8 hbl8 k3 k4
                  have k4 : w3.cell? ⟨t, 4, none⟩ = some tv := (HKA.out.cell HLT.out (HIN.out.st.2.1)).trans HQ4.out
                  go_wp2_with fail
                  have HB2 := Lib.hid (HB2.out.kept hk8 (fun he => by have h1 := (HIN.out.sent.lt _ he).2; have h2 := HG2.out; omega))
                  (refine ⟨?anew, ?_⟩; case anew => ((repeat (refine Reg.anew_cons rfl rfl (fun _ => by go_simp) ?_)); exact Reg.anew_nil))
                  repeat (first | (refine Reg.lookT rfl rfl rfl (by go_simp; rfl) rfl ?_; go_simp))
                  have HKW : Hid (Kp No w3 w3) := Lib.hid (Kp.refl No w3)
                  have HTO : Hid (Own (Rp.int .i64) w3 No w0.heap.size 3 tv (T.sent.map fun p => sI p.2)) := Lib.hid ((HIN.out.tos.kept HKA.out (fun _ hs _ _ => hs) (fun k hv he => HIN.out.oo k he hv)).keptNo HKW.out)
                  refine Reg.oneT rfl ?_
                  refine wpList_append_rp (E := Rp.int .i64) rfl _ (.tmp 97) (.tmp 100) 28 rfl w0.heap.size 3 8 el_intT (fun k => k = g2) tv (T.sent.map fun p => sI p.2) rfl (HTO.out.mono (Nat.le_refl _) (fun _ hs => hs.elim)) (some ⟨g2, 0, none⟩) 1 (fun k => k = g2) [1 - si] rfl (Rp.of_block HB2.out rfl rfl (Nat.le_refl _) (by simp [maxLen]) (fun a ha => by simp only [List.mem_cons, List.not_mem_nil, or_false] at ha; subst ha; have := HSB.out; exact WalkArith.wf_i64 ⟨by omega, by omega⟩)) Rp.int_one ?hcap2 ?hby2 ?hba2 (fun _ h => h) ?hsv2 ?_
                  case hcap2 => have := HOK.out.many; simp [maxLen]; omega
                  case hby2 => have := HOK.out.many; simp; omega
                  case hba2 => exact Nat.le_trans HK0.out.size (Nat.le_trans HKA.out.size HKW.out.size)
                  case hsv2 => exact fun k hk hs => by have h1 := (HIN.out.tos.lt k hk).2; have h2 := HG2.out; omega
                  intro tv2 wz hown9 hgr9 hbl9
                  have hk9 : Kp (fun k => tv.ownBlock = some k) w3 wz := (Kp.refl _ _).grown hgr9 (fun g hg _ => hg)
                  have hbt := ((HIN.out.blk.kept HKA.out HIN.out.st.2.1).kept HKW.out (fun z => z)).kept hk9 HIN.out.st.2.2
                  obtain ⟨A8, c8, he8⟩ := HOW8.out.shape
                  obtain ⟨A9, c9, he9⟩ := hown9.shape
                  have hwn : w.heap.size ≤ w3.heap.size := HKA.out.size
                  have HFIN : Hid (TNew w0 ((wz.setCell ⟨t, 3, none⟩ sv2).setCell ⟨t, 4, none⟩ tv2) t T') := Lib.hid (by
                    have hg := HIN.out.grown (p := (sentC L s a k, !s)) (S' := fun k => S k ∨ (w.heap.size ≤ k ∧ k ≤ g1)) HKA.out ((HKW.out.any).trans hk9 (fun _ _ h => h))
                      (fun k hk => by
                        rcases hk with hk | hk
                        · have h1 := HIN.out.sb k hk
                          exact ⟨h1.1, by omega, .inl hk⟩
                        · refine ⟨Nat.le_trans HK0.out.size hk.1, by have := HGM.out; omega, .inr ⟨hk.1, fun he => ?_⟩⟩
                          rcases HBL8.out with h1 | ⟨g, h1, h2, h3⟩
                          · rw [h1] at he
                            have := (HIN.out.sent.lt k he).2
                            omega
                          · rw [h1] at he
                            injection he with he
                            omega)
                      (by rw [HCC.out]; exact HOW8.out) (HBL8.out.imp id (fun ⟨g, h1, h2, _⟩ => ⟨g, h1, h2⟩)) (by rw [HSIN.out]; obtain ⟨xs, h1, h2, h3⟩ := hown9; exact ⟨xs, h1, h2, fun i a ha => h3 i a ha⟩) (hbl9.imp id (fun h => ⟨_, h, HKW.out.size⟩))
                    refine ⟨?_, x, F, _, _, _, by rw [HT2.out]; exact hg⟩
                    have h1 : Kp No w0 w3 := HK0.out.trans HKA.out (fun k hk he => by have := (HIN.out.sent.lt k he).1; omega)
                    have h2 : Kp No w0 wz := (h1.trans' HKW.out).trans hk9 (fun k hk he => by have := (HIN.out.tos.lt k he).1; omega)
                    exact h2.trans (((Kp.refl (· = t) wz).setCell (p := ⟨t, 3, none⟩) (fun _ => rfl) _).setCell (p := ⟨t, 4, none⟩) (fun _ => rfl) _) (fun k hk he => by have := HIN.out.tb; omega))
                  have m3 : wz.cell? ⟨t, 3, none⟩ = some sv := Blk.cell hbt rfl
                  have m4 : wz.cell? ⟨t, 4, none⟩ = some tv := Blk.cell hbt rfl
                  have f3 := Blk.fr hbt 3
                  have f4 := Blk.fr hbt 4
                  clear hown9 hgr9 hbl9 hk9 hbt
                  subst he8 he9
                  go_wp2_with fail
                  refine ⟨Reg.anew_nil, ?_⟩
                  repeat (first | (refine Reg.lookT rfl rfl rfl (by go_simp; rfl) rfl ?_; go_simp))
                  refine Reg.oneT rfl ?_
                  go_wp2_with fail
                  refine ⟨Reg.anew_nil, ?_⟩
                  repeat (first | (refine Reg.lookT rfl rfl rfl (by go_simp; rfl) rfl ?_; go_simp))
                  refine Reg.oneT rfl ?_
                  go_wp2_with fail
                  refine ⟨Reg.anew_nil, ?_⟩
                  refine Reg.doneT ?_
                  simp only [Exit.then]
                  go_wp2_with fail
                  go_ret
                  have hff := HFIN.out
                  simp only [List.length_append, List.length_map, List.length_cons, List.length_nil, Nat.zero_add] at hff
                  exact ⟨rfl, hff⟩
            · revert yQ
              as_aux_lemma =>
                intros
                obtain ⟨wa, hw2⟩ : ∃ v, wd.alloc (.cells #[.int .i64 (1 - si)] 3) = v := ⟨_, rfl⟩
                obtain ⟨g2, hg2⟩ : ∃ v, wd.heap.size = v := ⟨_, rfl⟩
                have hkb : Kp No wd wa := by rw [← hw2]; exact (Kp.refl _ _).alloc _
                have HB2 : Hid (Blk wa g2 3 [.int .i64 (1 - si)]) := Lib.hid (by rw [← hw2, ← hg2]; exact Blk.new wd _ _)
                have HG2 : Hid (w.heap.size ≤ g2) := Lib.hid (by rw [← hg2]; exact ((HK8.out.trans' HKD.out)).size)
                go_wp2_with fail
                clear hw2 hg2
                have HKa : Hid (Kp No wb wa) := Lib.hid (HKD.out.trans' hkb)
                have HB8a := Lib.hid (HB8.out.kept HKa.out (fun z => z))
                have k3 : wa.cell? ⟨t, 3, none⟩ = some sv := (((HK8.out.trans' HKa.out)).cell HLT.out (fun z => z)).trans HQ3.out
                have k4 : wa.cell? ⟨t, 4, none⟩ = some tv := (((HK8.out.trans' HKa.out)).cell HLT.out (fun z => z)).trans HQ4.out
                have z0 : wa.cell? ⟨z, 0, none⟩ = some _ := Blk.cell HB8a.out rfl
                have z1 : wa.cell? ⟨z, 1, none⟩ = some _ := Blk.cell HB8a.out rfl
                have z2 : wa.cell? ⟨z, 2, none⟩ = some _ := Blk.cell HB8a.out rfl
                have z3 : wa.cell? ⟨z, 3, none⟩ = some _ := Blk.cell HB8a.out rfl
                have z4 : wa.cell? ⟨z, 4, none⟩ = some _ := Blk.cell HB8a.out rfl
                have z5 : wa.cell? ⟨z, 5, none⟩ = some _ := Blk.cell HB8a.out rfl
                have z6 : wa.cell? ⟨z, 6, none⟩ = some _ := Blk.cell HB8a.out rfl
                have z7 : wa.cell? ⟨z, 7, none⟩ = some _ := Blk.cell HB8a.out rfl
                have z8 : wa.cell? ⟨z, 8, none⟩ = some _ := Blk.cell HB8a.out rfl
                have z9 : wa.cell? ⟨z, 9, none⟩ = some _ := Blk.cell HB8a.out rfl
                have z10 : wa.cell? ⟨z, 10, none⟩ = some _ := Blk.cell HB8a.out rfl
                have z11 : wa.cell? ⟨z, 11, none⟩ = some _ := Blk.cell HB8a.out rfl
                have z12 : wa.cell? ⟨z, 12, none⟩ = some _ := Blk.cell HB8a.out rfl
                have z13 : wa.cell? ⟨z, 13, none⟩ = some _ := Blk.cell HB8a.out rfl
                have z14 : wa.cell? ⟨z, 14, none⟩ = some _ := Blk.cell HB8a.out rfl
                have z15 : wa.cell? ⟨z, 15, none⟩ = some _ := Blk.cell HB8a.out rfl
                (refine ⟨?anew, ?_⟩; case anew => ((repeat (refine Reg.anew_cons rfl rfl (fun _ => by go_simp) ?_)); exact Reg.anew_nil))
                repeat (first | (refine Reg.lookT rfl rfl rfl (by go_simp; rfl) rfl ?_; go_simp))
                clear z0 z1 z2 z3 z4 z5 z6 z7 z8 z9 z10 z11 z12 z13 z14 z15
                refine Reg.oneT rfl ?_
                obtain ⟨w2, hw2⟩ : ∃ v, wa.alloc (.cells #[.int .i64 3, .int .i64 e, .int .i64 si, .int .i64 0, .int .i64 0, .int .i64 0, .int .i64 0, .int .i64 0, .int .i64 0, .string { data := #[] }, .int .i64 0, .slice none 0 0, .int .i64 (q : Int), .int .i64 sn, .slice Ab m cb, .int .i64 0] 44) = v := ⟨_, rfl⟩
                obtain ⟨g1, hg1⟩ : ∃ v, wa.heap.size = v := ⟨_, rfl⟩
                have hkb : Kp No wa w2 := by rw [← hw2]; exact (Kp.refl _ _).alloc _
                have HKc : Hid (Kp No wb w2) := Lib.hid (HKa.out.trans' hkb)
                have hlit : (Instr.buildSlice 27 1 #[(0, .agg #[.int .i64 3, .int .i64 e, .int .i64 si, .int .i64 0, .int .i64 0, .int .i64 0, .int .i64 0, .int .i64 0, .int .i64 0, .string { data := #[] }, .int .i64 0, .slice none 0 0, .int .i64 (q : Int), .int .i64 sn, .slice Ab m cb, .int .i64 0])]).run Try.prog wa = .ok (.slice (some ⟨g1, 0, none⟩) 1 1) w2 := by
                  rw [← hw2, ← hg1]
                  exact run_lit_cmd wa (⟨3, e, si, opZ, (q : Int), sn, M, 0⟩ : CmdL) (.slice none 0 0) (.slice Ab m cb)
                have HG1 : Hid (w.heap.size ≤ g1 ∧ z < g1) := Lib.hid (by have h1 := HK8.out.size; have h2 := HKa.out.size; have h3 := HZL.out; rw [← hg1]; omega)
                have HGL : Hid (g1 < w2.heap.size) := Lib.hid (by rw [← hw2, ← hg1]; simp)
                have HL1 : Hid (Rp.cmd.slice.R w2 (fun k => w.heap.size ≤ k ∧ k ≤ g1) [.slice (some ⟨g1, 0, none⟩) 1 1] [(⟨3, e, si, opZ, (q : Int), sn, M, 0⟩ : CmdL)]) := Lib.hid (by
                  have h1 := Own.oneC wa (⟨3, e, si, opZ, (q : Int), sn, M, 0⟩ : CmdL) (.slice none 0 0) (.slice Ab m cb) (fun k => w.heap.size ≤ k ∧ k ≤ g1) HNU.out (Rp.none_ _ _ _) (Rp.opl.slice.more (Rp.opl.slice.keptNo HR8.out HKa.out) (fun k hk => ⟨hk.1, by have h1 := hk.2; have h2 := HG1.out.2; omega⟩)) rfl rfl
                  have h2 := h1.read (fun k hk => by
                    have hk : wa.heap.size = k := by injection hk
                    have := HG1.out
                    omega)
                  rw [hg1] at h2
                  rw [← hw2]; exact h2)
                clear k3 k4
                refine wpList_litW (by first | rfl | go_simp) 27 _ rfl _ _ (by go_simp) hlit ?_
                go_wp2_with fail
                clear hw2 hg1 hlit
                have k3 : w2.cell? ⟨t, 3, none⟩ = some sv := (((HK8.out.trans' HKc.out)).cell HLT.out (fun z => z)).trans HQ3.out
                have k4 : w2.cell? ⟨t, 4, none⟩ = some tv := (((HK8.out.trans' HKc.out)).cell HLT.out (fun z => z)).trans HQ4.out
                have HB2 := Lib.hid (HB2.out.kept hkb (fun z => z))
                (refine ⟨?anew, ?_⟩; case anew => ((repeat (refine Reg.anew_cons rfl rfl (fun _ => by go_simp) ?_)); exact Reg.anew_nil))
                repeat (first | (refine Reg.lookT rfl rfl rfl (by go_simp; rfl) rfl ?_; go_simp))
                refine Reg.oneT rfl ?_
                refine wpList_append_rp (E := Rp.cmd) rfl _ (.tmp 90) (.tmp 92) 27 rfl w0.heap.size 44 168 el_cmd (fun k => S k ∨ (w.heap.size ≤ k ∧ k ≤ g1)) sv (T.sent.map (·.1)) rfl ((HIN.out.sent.keptNo (HK8.out.trans' HKc.out)).mono (Nat.le_refl _) (fun k hk => .inl hk)) (some ⟨g1, 0, none⟩) 1 (fun k => w.heap.size ≤ k ∧ k ≤ g1) [(⟨3, e, si, opZ, (q : Int), sn, M, 0⟩ : CmdL)] rfl HL1.out Rp.cmd_one ?hcap ?hby ?hba (fun k hk => .inr hk) ?hsv ?_
                case hcap => have := HOK.out.many; simp [maxLen]; omega
                case hby => have := HOK.out.many; simp; omega
                case hba => exact (HK0.out.trans' (HK8.out.trans' HKc.out)).size
                case hsv =>
                  intro k hk hs
                  rcases hs with hs | hs
                  · exact (HIN.out.so k hs).1 hk
                  · have := (HIN.out.sent.lt k hk).2; omega
                intro sv2 w3 hown8 hgr8 hbl8
                have hk8 : Kp (fun k => sv.ownBlock = some k) w2 w3 := (Kp.refl _ _).grown hgr8 (fun g hg _ => hg)
                have HOW8 := Lib.hid hown8
                have HKA : Hid (Kp (fun k => sv.ownBlock = some k) w w3) := Lib.hid (((HK8.out.trans' HKc.out).any).trans hk8 (fun _ _ h => h))
                have HBL8 : Hid (sv2.ownBlock = sv.ownBlock ∨ ∃ g, sv2.ownBlock = some g ∧ w.heap.size ≤ g ∧ g1 < g) := Lib.hid (hbl8.imp id (fun h => ⟨_, h, (HK8.out.trans' HKc.out).size, HGL.out⟩))
                have HGM : Hid (g1 < w3.heap.size) := Lib.hid (Nat.lt_of_lt_of_le HGL.out hk8.size)
                clear hown8 hgr8 hbl8 k3 k4
                have k4 : w3.cell? ⟨t, 4, none⟩ = some tv := (HKA.out.cell HLT.out (HIN.out.st.2.1)).trans HQ4.out
                go_wp2_with fail
                have HB2 := Lib.hid (HB2.out.kept hk8 (fun he => by have h1 := (HIN.out.sent.lt _ he).2; have h2 := HG2.out; omega))
                (refine ⟨?anew, ?_⟩; case anew => ((repeat (refine Reg.anew_cons rfl rfl (fun _ => by go_simp) ?_)); exact Reg.anew_nil))
                repeat (first | (refine Reg.lookT rfl rfl rfl (by go_simp; rfl) rfl ?_; go_simp))
                have HKW : Hid (Kp No w3 w3) := Lib.hid (Kp.refl No w3)
                have HTO : Hid (Own (Rp.int .i64) w3 No w0.heap.size 3 tv (T.sent.map fun p => sI p.2)) := Lib.hid ((HIN.out.tos.kept HKA.out (fun _ hs _ _ => hs) (fun k hv he => HIN.out.oo k he hv)).keptNo HKW.out)
                refine Reg.oneT rfl ?_
                refine wpList_append_rp (E := Rp.int .i64) rfl _ (.tmp 97) (.tmp 100) 28 rfl w0.heap.size 3 8 el_intT (fun k => k = g2) tv (T.sent.map fun p => sI p.2) rfl (HTO.out.mono (Nat.le_refl _) (fun _ hs => hs.elim)) (some ⟨g2, 0, none⟩) 1 (fun k => k = g2) [1 - si] rfl (Rp.of_block HB2.out rfl rfl (Nat.le_refl _) (by simp [maxLen]) (fun a ha => by simp only [List.mem_cons, List.not_mem_nil, or_false] at ha; subst ha; have := HSB.out; exact WalkArith.wf_i64 ⟨by omega, by omega⟩)) Rp.int_one ?hcap2 ?hby2 ?hba2 (fun _ h => h) ?hsv2 ?_
                case hcap2 => have := HOK.out.many; simp [maxLen]; omega
                case hby2 => have := HOK.out.many; simp; omega
                case hba2 => exact Nat.le_trans HK0.out.size (Nat.le_trans HKA.out.size HKW.out.size)
                case hsv2 => exact fun k hk hs => by have h1 := (HIN.out.tos.lt k hk).2; have h2 := HG2.out; omega
                intro tv2 wz hown9 hgr9 hbl9
                have hk9 : Kp (fun k => tv.ownBlock = some k) w3 wz := (Kp.refl _ _).grown hgr9 (fun g hg _ => hg)
                have hbt := ((HIN.out.blk.kept HKA.out HIN.out.st.2.1).kept HKW.out (fun z => z)).kept hk9 HIN.out.st.2.2
                obtain ⟨A8, c8, he8⟩ := HOW8.out.shape
                obtain ⟨A9, c9, he9⟩ := hown9.shape
                have hwn : w.heap.size ≤ w3.heap.size := HKA.out.size
                have HFIN : Hid (TNew w0 ((wz.setCell ⟨t, 3, none⟩ sv2).setCell ⟨t, 4, none⟩ tv2) t T') := Lib.hid (by
                  have hg := HIN.out.grown (p := (sentC L s a k, !s)) (S' := fun k => S k ∨ (w.heap.size ≤ k ∧ k ≤ g1)) HKA.out ((HKW.out.any).trans hk9 (fun _ _ h => h))
                    (fun k hk => by
                      rcases hk with hk | hk
                      · have h1 := HIN.out.sb k hk
                        exact ⟨h1.1, by omega, .inl hk⟩
                      · refine ⟨Nat.le_trans HK0.out.size hk.1, by have := HGM.out; omega, .inr ⟨hk.1, fun he => ?_⟩⟩
                        rcases HBL8.out with h1 | ⟨g, h1, h2, h3⟩
                        · rw [h1] at he
                          have := (HIN.out.sent.lt k he).2
                          omega
                        · rw [h1] at he
                          injection he with he
                          omega)
                    (by rw [HCC.out]; exact HOW8.out) (HBL8.out.imp id (fun ⟨g, h1, h2, _⟩ => ⟨g, h1, h2⟩)) (by rw [HSIN.out]; obtain ⟨xs, h1, h2, h3⟩ := hown9; exact ⟨xs, h1, h2, fun i a ha => h3 i a ha⟩) (hbl9.imp id (fun h => ⟨_, h, HKW.out.size⟩))
                  refine ⟨?_, x, F, _, _, _, by rw [HT2.out]; exact hg⟩
                  have h1 : Kp No w0 w3 := HK0.out.trans HKA.out (fun k hk he => by have := (HIN.out.sent.lt k he).1; omega)
                  have h2 : Kp No w0 wz := (h1.trans' HKW.out).trans hk9 (fun k hk he => by have := (HIN.out.tos.lt k he).1; omega)
                  exact h2.trans (((Kp.refl (· = t) wz).setCell (p := ⟨t, 3, none⟩) (fun _ => rfl) _).setCell (p := ⟨t, 4, none⟩) (fun _ => rfl) _) (fun k hk he => by have := HIN.out.tb; omega))
                have m3 : wz.cell? ⟨t, 3, none⟩ = some sv := Blk.cell hbt rfl
                have m4 : wz.cell? ⟨t, 4, none⟩ = some tv := Blk.cell hbt rfl
                have f3 := Blk.fr hbt 3
                have f4 := Blk.fr hbt 4
                clear hown9 hgr9 hbl9 hk9 hbt
                subst he8 he9
                go_wp2_with fail
                refine ⟨Reg.anew_nil, ?_⟩
                repeat (first | (refine Reg.lookT rfl rfl rfl (by go_simp; rfl) rfl ?_; go_simp))
                refine Reg.oneT rfl ?_
                go_wp2_with fail
                refine ⟨Reg.anew_nil, ?_⟩
                repeat (first | (refine Reg.lookT rfl rfl rfl (by go_simp; rfl) rfl ?_; go_simp))
                refine Reg.oneT rfl ?_
                go_wp2_with fail
                refine ⟨Reg.anew_nil, ?_⟩
                refine Reg.doneT ?_
                simp only [Exit.then]
                go_wp2_with fail
                go_ret
                have hff := HFIN.out
                simp only [List.length_append, List.length_map, List.length_cons, List.length_nil, Nat.zero_add] at hff
                exact ⟨rfl, hff⟩
end Go.Proofs.Ytbncblnchcmgbaa
