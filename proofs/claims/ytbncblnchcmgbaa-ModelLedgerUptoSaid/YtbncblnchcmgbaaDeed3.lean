/-
  deed.Row.
-/
import Derived.Test.YtbncblnchcmgbaaDeed2
import Derived.Test.YtbncblnchcmgbaaReg
namespace Go.Proofs.Ytbncblnchcmgbaa
open Go.RowKit Go.ChangeShapes Go.WideShapes Go.ChangeAt

/-- a struct's cells, as a walk wants them -/
theorem opl_cells {w : World} {ad : Addr} {o : OpL} {v : Value} (h : ∀ (j : Nat) u, (o.cells v)[j]? = some u → w.cell? (ad.add j) = some u) :
    w.cell? ad = some (.int .i64 o.n) ∧ w.cell? ⟨ad.block, ad.off + 1, none⟩ = some (.int .i64 o.epoch) ∧ w.cell? ⟨ad.block, ad.off + 2, none⟩ = some (.int .i64 o.kind) ∧ w.cell? ⟨ad.block, ad.off + 3, none⟩ = some (.int .i64 o.site) ∧
    w.cell? ⟨ad.block, ad.off + 4, none⟩ = some (.int .i64 o.client) ∧ w.cell? ⟨ad.block, ad.off + 5, none⟩ = some (.int .i64 o.seq) ∧ w.cell? ⟨ad.block, ad.off + 6, none⟩ = some (.string o.name) ∧ w.cell? ⟨ad.block, ad.off + 7, none⟩ = some (.int .i64 o.size) ∧ w.cell? ⟨ad.block, ad.off + 8, none⟩ = some v :=
  ⟨h 0 _ rfl, h 1 _ rfl, h 2 _ rfl, h 3 _ rfl, h 4 _ rfl, h 5 _ rfl, h 6 _ rfl, h 7 _ rfl, h 8 _ rfl⟩
theorem bounds_I64 {x : Int} (h : I64 x) : -9223372036854775808 ≤ x ∧ x < 9223372036854775808 := by
  have := bounds_i64 h
  omega
theorem dropC {α : Type} {l : List α} {i : Nat} {a : α} (h : l[i]? = some a) : l.drop i = a :: l.drop (i + 1) := by
  obtain ⟨e1, e2⟩ := List.getElem?_eq_some_iff.1 h
  rw [List.drop_eq_getElem_cons e1, e2]
set_option maxRecDepth 100000 in
set_option maxHeartbeats 2000000 in
theorem c_row (n e : Int) (l : List OpL) (A : Option Addr) (c : Nat) (w : World) (S : Nat → Prop) (hl : Rp.opl.slice.R w S [.slice A l.length c] l) (hll : l.length ≤ 1000000) (hsm : ∀ o ∈ l, o.hashes.length ≤ 1000000) :
    Calls Try.prog 48 #[.agg #[.int .i64 n, .int .i64 e], .slice A l.length c] w fun x w' => x = .returned (.bool (rowB n e l)) ∧ Kp No w w' := by
  have HL := Lib.hid hl
  have HSM := Lib.hid hsm
  have HK : Hid (Kp No w (w.alloc (.cells #[.int .i64 n, .int .i64 e] 54))) := Lib.hid ((Kp.refl _ _).alloc _)
  clear hl hsm
  by_cases hs : spotP n e
  case neg =>
    have HS : Hid (rowB n e l = false) := Lib.hid (by unfold rowB; rw [decide_eq_false hs]; rfl)
    rw [HS.out]
    unfold spotP at hs
    by_cases h1 : n < 0
    · skip
      clear HS
      go_enter Try.func48, Try.ntmps48
      go_wp2_with fail
      go_ret
      exact ⟨rfl, HK.out⟩
    by_cases h2 : 80 < n
    · skip
      clear HS
      go_enter Try.func48, Try.ntmps48
      go_wp2_with fail
      go_ret
      exact ⟨rfl, HK.out⟩
    by_cases h3 : e < 0
    · skip
      clear HS
      go_enter Try.func48, Try.ntmps48
      go_wp2_with fail
      go_ret
      exact ⟨rfl, HK.out⟩
    by_cases h4 : 16 < e
    · skip
      clear HS
      go_enter Try.func48, Try.ntmps48
      go_wp2_with fail
      go_ret
      exact ⟨rfl, HK.out⟩
    by_cases h5 : n = 0
    · have h6 : (e == 0) = false := beq_eq_false_iff_ne.2 (fun h => hs ⟨by omega, by omega, by omega, by omega, by omega⟩)
      subst h5
      clear hs
      clear HS
      go_enter Try.func48, Try.ntmps48
      go_wp2_with fail
      go_ret
      exact ⟨rfl, HK.out⟩
    · have h6 : e = 0 := by omega
      have h7 : (n == 0) = false := beq_eq_false_iff_ne.2 h5
      subst h6
      clear hs
      clear HS
      go_enter Try.func48, Try.ntmps48
      go_wp2_with fail
      go_ret
      exact ⟨rfl, HK.out⟩
  case pos =>
    have hrow : rowB n e l = rowGo n e (-1) l := by unfold rowB; rw [decide_eq_true hs]; rfl
    rw [hrow]
    obtain ⟨R, hR⟩ : ∃ R, rowGo n e (-1) l = R := ⟨_, rfl⟩
    rw [hR]
    have HR := Lib.hid hR
    obtain ⟨s1, s2, s3, s4, s5⟩ := hs
    have hne : ((n == 0) != (e == 0)) = false := by
      by_cases h : n = 0
      · rw [h, s5.1 h]; rfl
      · rw [beq_eq_false_iff_ne.2 h, beq_eq_false_iff_ne.2 (fun h2 => h (s5.2 h2))]; rfl
    have hne2 : ((n == 0) == (e == 0)) = true := by
      by_cases h : n = 0
      · rw [h, s5.1 h]; rfl
      · rw [beq_eq_false_iff_ne.2 h, beq_eq_false_iff_ne.2 (fun h2 => h (s5.2 h2))]; rfl
    clear hrow hR s5
    go_enter Try.func48, Try.ntmps48
    go_wp2_with fail
    obtain ⟨b, hb⟩ : ∃ b, w.heap.size = b := ⟨_, rfl⟩
    obtain ⟨w1, hw1⟩ : ∃ w1, w.alloc (.cells #[.int .i64 n, .int .i64 e] 54) = w1 := ⟨_, rfl⟩
    have hb1 : Blk w1 b 54 [.int .i64 n, .int .i64 e] := by rw [← hw1, ← hb]; exact Blk.new w _ _
    rw [hw1] at HK
    rw [hw1, hb]
    have HB1 := Lib.hid hb1
    have HBW := Lib.hid (show w.heap.size ≤ b by omega)
    clear hb hw1 hb1 hne hne2
    go_loopw [5, 38] (fun sv iv wr => ∃ (i : Nat) (s pn pe : Int), i ≤ l.length ∧ iv = .int .i64 (i : Int) ∧ sv = .int .i64 s ∧ Hid (Blk wr b 54 [.int .i64 pn, .int .i64 pe]) ∧ 0 ≤ pn ∧ pn ≤ 80 ∧ Hid (R = rowGo pn pe s (l.drop i)) ∧ Hid (Kp No w wr)) (fun _ iv _ => l.length - (intOf iv).toNat)
    case atStart => exact ⟨0, -1, n, e, Nat.zero_le _, rfl, rfl, HB1, s1, s2, Lib.hid (by rw [← HR.out]; rfl), HK⟩
    case round =>
      clear HB1 HK HR
      obtain ⟨i, s, pn, pe, hi, rfl, rfl, HB, hp0, hp1, HR, HK⟩ := hrel
      by_cases hlt : i < l.length
      · have hli : (i : Int) < (l.length : Int) := by omega
        obtain ⟨o, ho⟩ : ∃ o, l[i]? = some o := ⟨_, List.getElem?_eq_getElem hlt⟩
        have hR2 := HR.out
        rw [dropC ho, rowGo] at hR2
        have HR2 := Lib.hid hR2
        have hos := HSM.out o (List.mem_of_getElem? ho)
        obtain ⟨ad, A2, c2, rfl, _, hcell, hnum, hhs⟩ := Rp.at_opl (Rp.opl.slice.keptNo HL.out HK.out) ho
        obtain ⟨z0, z1, z2, z3, z4, z5, z6, z7, z8⟩ := opl_cells hcell
        have hchk := fun w2 (hk : Kp No wr w2) => c_checkop o A2 c2 w2 S (Rp.str.slice.keptNo hhs hk) (bounds_I64 hnum.2.2.2.2.2.2.2) hos
        obtain ⟨K, hK⟩ : ∃ K, okOp o = K := ⟨_, rfl⟩
        have hKP : K = true ↔ okP o := by rw [← hK]; unfold okOp; exact decide_eq_true_iff
        rw [hK] at hchk
        have HCHK := Lib.hid hchk
        have HKP := Lib.hid hKP
        have b0 : wr.cell? ⟨b, 0, none⟩ = some (.int .i64 pn) := Blk.cell HB.out rfl
        have b1 : wr.cell? ⟨b, 1, none⟩ = some (.int .i64 pe) := Blk.cell HB.out rfl
        clear ho hR2 hos hcell hnum hhs hchk hK hKP HR
        unfold opV at HCHK
        obtain ⟨on, oe, ok, os, oc, oq, onm, osz, ohs⟩ := o
        simp only at *
        go_wp2_with fail
        refine (HCHK.out _ ((Kp.refl _ _).alloc _)).mono ?_
        rintro x w2 ⟨rfl, hk2⟩
        have hkk : Kp No wr w2 := ((Kp.refl No wr).alloc _).trans' hk2
        have hop := Blk.kept (Blk.new wr [.int .i64 on, .int .i64 oe, .int .i64 ok, .int .i64 os, .int .i64 oc, .int .i64 oq, .string onm, .int .i64 osz, .slice A2 ohs.length c2] 38) hk2 (fun x => x)
        have HB2 := Lib.hid (Blk.kept HB.out hkk (fun x => x))
        have HK2 := Lib.hid (HK.out.trans' hkk)
        have hbw : b < wr.heap.size := Blk.lt HB.out
        obtain ⟨g, hg⟩ : ∃ g, wr.heap.size = g := ⟨_, rfl⟩
        rw [hg] at hop
        rw [hg]
        have y0 : w2.cell? ⟨g, 0, none⟩ = some _ := Blk.cell hop rfl
        have y1 : w2.cell? ⟨g, 1, none⟩ = some _ := Blk.cell hop rfl
        have y2 : w2.cell? ⟨g, 2, none⟩ = some _ := Blk.cell hop rfl
        have y3 : w2.cell? ⟨g, 3, none⟩ = some _ := Blk.cell hop rfl
        have e0 : w2.cell? ⟨b, 0, none⟩ = some (.int .i64 pn) := Blk.cell HB2.out rfl
        have e1 : w2.cell? ⟨b, 1, none⟩ = some (.int .i64 pe) := Blk.cell HB2.out rfl
        have f0 := Blk.fr HB2.out 0
        have f1 := Blk.fr HB2.out 1
        have hgb : b ≠ g := by omega
        clear hkk hk2 hop hg z0 z1 z2 z3 z4 z5 z6 z7 z8 b0 b1 HB HK HCHK hbw
        have hno : K = false → R = false := fun h => by rw [HR2.out, decide_eq_false (fun h2 => by have := HKP.out.2 h2.1; rw [h] at this; cases this)]; rfl
        cases K with
        | false =>
          have HF := Lib.hid (hno rfl)
          clear hno
          go_wp2_with fail
          go_ret
          exact ⟨by rw [HF.out]; rfl, HK2.out⟩
        | true =>
          obtain ⟨⟨p1, p2, p3, p4, p5, p6⟩, _⟩ := HKP.out.1 rfl
          simp only at p1 p2 p3 p4 p5 p6
          clear hno
          have HOK := Lib.hid (HKP.out.1 rfl)
          clear HKP
          by_cases hn : on = pn + 1
          case neg =>
            have hnb : (on == pn + 1) = false := beq_eq_false_iff_ne.2 hn
            have HF : Hid (R = false) := Lib.hid (by rw [HR2.out, decide_eq_false (fun h2 => hn h2.2.1)]; rfl)
            go_wp2_with fail
            go_ret
            exact ⟨by rw [HF.out]; rfl, HK2.out⟩
          by_cases k3 : ok = 3
          · subst k3
            by_cases he : pe < oe
            · have HG : Hid (R = rowGo on oe os (l.drop (i + 1))) := Lib.hid (by rw [HR2.out, decide_eq_true (show nextP pn pe s _ from ⟨HOK.out, hn, .inl ⟨rfl, he⟩⟩)]; rfl)
              subst hn
              have heb : ¬ oe ≤ pe := by omega
              go_wp2_with fail
              refine Reg.wp_region_plan [⟨0, false, []⟩, ⟨1, false, []⟩, ⟨2, false, []⟩, ⟨3, false, []⟩, ⟨4, false, []⟩, ⟨5, false, []⟩, ⟨6, false, []⟩, ⟨7, true, [5, 6]⟩, ⟨8, false, []⟩] rfl (by kernel_rfl) ?_
              repeat (first | (refine Reg.look rfl rfl rfl (by go_simp; rfl) rfl ?_; go_simp) | (refine Reg.skip rfl rfl rfl ?_; go_simp))
              refine Reg.act rfl ?_
              go_wp2_with fail
              have hk3 : Kp (· = b) w2 (((w2.setCell ⟨b, 0, none⟩ (.int .i64 (pn + 1))).setCell ⟨b, 1, none⟩ (.int .i64 oe)).drew) := (((Kp.refl (· = b) w2).setCell (p := ⟨b, 0, none⟩) (fun _ => rfl) _).setCell (p := ⟨b, 1, none⟩) (fun _ => rfl) _).drew
              have hb3 : Blk (((w2.setCell ⟨b, 0, none⟩ (.int .i64 (pn + 1))).setCell ⟨b, 1, none⟩ (.int .i64 oe)).drew) b 54 [.int .i64 (pn + 1), .int .i64 oe] := Blk.set (Blk.set HB2.out 0 (.int .i64 (pn + 1))) 1 (.int .i64 oe)
              have y3n : (((w2.setCell ⟨b, 0, none⟩ (.int .i64 (pn + 1))).setCell ⟨b, 1, none⟩ (.int .i64 oe)).drew).cell? ⟨g, 3, none⟩ = some (.int .i64 os) := (hk3.cell (lt_of_cell y3) (fun h => hgb h.symm)).trans y3
              have HB3 := Lib.hid hb3
              have HK3 : Hid (Kp No w (((w2.setCell ⟨b, 0, none⟩ (.int .i64 (pn + 1))).setCell ⟨b, 1, none⟩ (.int .i64 oe)).drew)) := Lib.hid (HK2.out.trans hk3 (fun k hk h => absurd HBW.out (by omega)))
              clear hb3 hk3
              (refine ⟨?anew, ?_⟩; case anew => ((repeat (refine Reg.anew_cons rfl rfl (fun _ => by go_simp) ?_)); exact Reg.anew_nil))
              repeat (first | (refine Reg.look rfl rfl rfl (by go_simp; rfl) rfl ?_; go_simp) | (refine Reg.skip rfl rfl rfl ?_; go_simp))
              (refine Reg.done ?_; simp only [Exit.then])
              go_wp2_with fail
              go_roundw
              case rel => exact ⟨i + 1, os, pn + 1, oe, by omega, by go_num, rfl, HB3, by omega, by omega, HG, HK3⟩
              case measure => simp [intOf]; omega
            · have HF : Hid (R = false) := Lib.hid (by
                rw [HR2.out, decide_eq_false (fun h2 => by rcases h2.2.2 with h | h; exact he h.2; exact h.1 rfl)]; rfl)
              have heb : oe ≤ pe := by omega
              subst hn
              go_wp2_with fail
              go_ret
              exact ⟨by rw [HF.out]; rfl, HK2.out⟩
          · have k3b : (ok == 3) = false := beq_eq_false_iff_ne.2 k3
            by_cases he : oe = pe
            · by_cases hs0 : s < 0
              · have HG : Hid (R = rowGo on oe os (l.drop (i + 1))) := Lib.hid (by rw [HR2.out, decide_eq_true (show nextP pn pe s _ from ⟨HOK.out, hn, .inr ⟨k3, he, .inl hs0⟩⟩)]; rfl)
                have hs1 : ¬ 0 ≤ s := by omega
                subst hn he
                go_wp2_with fail
                refine Reg.wp_region_plan [⟨0, false, []⟩, ⟨1, false, []⟩, ⟨2, false, []⟩, ⟨3, false, []⟩, ⟨4, false, []⟩, ⟨5, false, []⟩, ⟨6, false, []⟩, ⟨7, true, [5, 6]⟩, ⟨8, false, []⟩] rfl (by kernel_rfl) ?_
                repeat (first | (refine Reg.look rfl rfl rfl (by go_simp; rfl) rfl ?_; go_simp) | (refine Reg.skip rfl rfl rfl ?_; go_simp))
                refine Reg.act rfl ?_
                go_wp2_with fail
                have hk3 : Kp (· = b) w2 (((w2.setCell ⟨b, 0, none⟩ (.int .i64 (pn + 1))).setCell ⟨b, 1, none⟩ (.int .i64 oe)).drew) := (((Kp.refl (· = b) w2).setCell (p := ⟨b, 0, none⟩) (fun _ => rfl) _).setCell (p := ⟨b, 1, none⟩) (fun _ => rfl) _).drew
                have hb3 : Blk (((w2.setCell ⟨b, 0, none⟩ (.int .i64 (pn + 1))).setCell ⟨b, 1, none⟩ (.int .i64 oe)).drew) b 54 [.int .i64 (pn + 1), .int .i64 oe] := Blk.set (Blk.set HB2.out 0 (.int .i64 (pn + 1))) 1 (.int .i64 oe)
                have y3n : (((w2.setCell ⟨b, 0, none⟩ (.int .i64 (pn + 1))).setCell ⟨b, 1, none⟩ (.int .i64 oe)).drew).cell? ⟨g, 3, none⟩ = some (.int .i64 os) := (hk3.cell (lt_of_cell y3) (fun h => hgb h.symm)).trans y3
                have HB3 := Lib.hid hb3
                have HK3 : Hid (Kp No w (((w2.setCell ⟨b, 0, none⟩ (.int .i64 (pn + 1))).setCell ⟨b, 1, none⟩ (.int .i64 oe)).drew)) := Lib.hid (HK2.out.trans hk3 (fun k hk h => absurd HBW.out (by omega)))
                clear hb3 hk3
                (refine ⟨?anew, ?_⟩; case anew => ((repeat (refine Reg.anew_cons rfl rfl (fun _ => by go_simp) ?_)); exact Reg.anew_nil))
                repeat (first | (refine Reg.look rfl rfl rfl (by go_simp; rfl) rfl ?_; go_simp) | (refine Reg.skip rfl rfl rfl ?_; go_simp))
                (refine Reg.done ?_; simp only [Exit.then])
                go_wp2_with fail
                go_roundw
                case rel => exact ⟨i + 1, os, pn + 1, oe, by omega, by go_num, rfl, HB3, by omega, by omega, HG, HK3⟩
                case measure => simp [intOf]; omega
              · have hs1 : 0 ≤ s := by omega
                by_cases hss : os = s
                · have HG : Hid (R = rowGo on oe os (l.drop (i + 1))) := Lib.hid (by rw [HR2.out, decide_eq_true (show nextP pn pe s _ from ⟨HOK.out, hn, .inr ⟨k3, he, .inr hss⟩⟩)]; rfl)
                  subst hn he hss
                  go_wp2_with fail
                  refine Reg.wp_region_plan [⟨0, false, []⟩, ⟨1, false, []⟩, ⟨2, false, []⟩, ⟨3, false, []⟩, ⟨4, false, []⟩, ⟨5, false, []⟩, ⟨6, false, []⟩, ⟨7, true, [5, 6]⟩, ⟨8, false, []⟩] rfl (by kernel_rfl) ?_
                  repeat (first | (refine Reg.look rfl rfl rfl (by go_simp; rfl) rfl ?_; go_simp) | (refine Reg.skip rfl rfl rfl ?_; go_simp))
                  refine Reg.act rfl ?_
                  go_wp2_with fail
                  have hk3 : Kp (· = b) w2 (((w2.setCell ⟨b, 0, none⟩ (.int .i64 (pn + 1))).setCell ⟨b, 1, none⟩ (.int .i64 oe)).drew) := (((Kp.refl (· = b) w2).setCell (p := ⟨b, 0, none⟩) (fun _ => rfl) _).setCell (p := ⟨b, 1, none⟩) (fun _ => rfl) _).drew
                  have hb3 : Blk (((w2.setCell ⟨b, 0, none⟩ (.int .i64 (pn + 1))).setCell ⟨b, 1, none⟩ (.int .i64 oe)).drew) b 54 [.int .i64 (pn + 1), .int .i64 oe] := Blk.set (Blk.set HB2.out 0 (.int .i64 (pn + 1))) 1 (.int .i64 oe)
                  have y3n : (((w2.setCell ⟨b, 0, none⟩ (.int .i64 (pn + 1))).setCell ⟨b, 1, none⟩ (.int .i64 oe)).drew).cell? ⟨g, 3, none⟩ = some (.int .i64 os) := (hk3.cell (lt_of_cell y3) (fun h => hgb h.symm)).trans y3
                  have HB3 := Lib.hid hb3
                  have HK3 : Hid (Kp No w (((w2.setCell ⟨b, 0, none⟩ (.int .i64 (pn + 1))).setCell ⟨b, 1, none⟩ (.int .i64 oe)).drew)) := Lib.hid (HK2.out.trans hk3 (fun k hk h => absurd HBW.out (by omega)))
                  clear hb3 hk3
                  (refine ⟨?anew, ?_⟩; case anew => ((repeat (refine Reg.anew_cons rfl rfl (fun _ => by go_simp) ?_)); exact Reg.anew_nil))
                  repeat (first | (refine Reg.look rfl rfl rfl (by go_simp; rfl) rfl ?_; go_simp) | (refine Reg.skip rfl rfl rfl ?_; go_simp))
                  (refine Reg.done ?_; simp only [Exit.then])
                  go_wp2_with fail
                  go_roundw
                  case rel => exact ⟨i + 1, os, pn + 1, oe, by omega, by go_num, rfl, HB3, by omega, by omega, HG, HK3⟩
                  case measure => simp [intOf]; omega
                · have hsb : (os == s) = false := beq_eq_false_iff_ne.2 hss
                  have HF : Hid (R = false) := Lib.hid (by
                    rw [HR2.out, decide_eq_false (fun h2 => by rcases h2.2.2 with h | h; exact k3 h.1; rcases h.2.2 with h | h; exact hs0 h; exact hss h)]; rfl)
                  subst hn he
                  go_wp2_with fail
                  go_ret
                  exact ⟨by rw [HF.out]; rfl, HK2.out⟩
            · have heb : (oe == pe) = false := beq_eq_false_iff_ne.2 he
              have HF : Hid (R = false) := Lib.hid (by
                rw [HR2.out, decide_eq_false (fun h2 => by rcases h2.2.2 with h | h; exact k3 h.1; exact he h.2.1)]; rfl)
              subst hn
              go_wp2_with fail
              go_ret
              exact ⟨by rw [HF.out]; rfl, HK2.out⟩
      · obtain rfl : i = l.length := by omega
        have HT : Hid (R = true) := Lib.hid (by rw [HR.out, List.drop_length]; rfl)
        go_wp2_with fail
        go_ret
        exact ⟨by rw [HT.out]; rfl, HK.out⟩
end Go.Proofs.Ytbncblnchcmgbaa
