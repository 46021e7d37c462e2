/-
  fold.take.
-/
import Derived.Test.YtbncblnchcmgbaaFold
namespace Go.Proofs.Ytbncblnchcmgbaa
open Go.RowKit Go.ChangeShapes Go.WideShapes Go.ChangeAt

theorem takeC {α : Type} {l : List α} {i : Nat} {a : α} (h : l[i]? = some a) : l.take (i + 1) = l.take i ++ [a] := by
  rw [List.take_add_one, h]; rfl
set_option maxRecDepth 100000 in
set_option maxHeartbeats 2000000 in
theorem c_take (ops : List OpL) (A : Option Addr) (c : Nat) (l : Nat) (rest : List Value) (b1 b2 : Nat) (S : Nat → Prop) (f : FV) (n base : Nat) (w : World) (hf : FAt w l rest b1 b2 S f) (hok : f.Ok n) (hown : Own Rp.opl w S base 38 (.slice A ops.length c) ops)
    (hsm : ∀ o ∈ ops, o.kind = 1 → Small o.size) (hn : n + ops.length ≤ 1000000) :
    Calls Try.prog 93 #[.pointer (some ⟨l, 0, none⟩), .slice A ops.length c] w fun x w' => x = .returned (.tuple #[]) ∧ FAt w' l rest b1 b2 S (f.take ops) ∧ Own Rp.opl w' S base 38 (.slice A ops.length c) ops ∧ Kp (T3 l b1 b2) w w' := by
  have HF := Lib.hid hf
  have HOK := Lib.hid hok
  have HO := Lib.hid hown
  have HSM := Lib.hid hsm
  have hlw : l < w.heap.size := Blk.lt hf.blk
  have HLW := Lib.hid hlw
  clear hf hok hown hsm hlw
  have hol : ops.length ≤ 9223372036854775807 := by omega
  go_enter Try.func93, Try.ntmps93
  go_wp2_with fail
  go_loopw [8] (fun iv wr => ∃ i : Nat, i ≤ ops.length ∧ iv = .int .i64 (i : Int) ∧ Hid (FAt wr l rest b1 b2 S (f.take (ops.take i))) ∧ Hid (Own Rp.opl wr S base 38 (.slice A ops.length c) ops) ∧ Hid (Kp (T3 l b1 b2) w wr)) (fun iv _ => ops.length - (intOf iv).toNat)
  case atStart => exact ⟨0, Nat.zero_le _, rfl, HF, HO, Lib.hid (Kp.refl _ _)⟩
  case round =>
    clear HF HO
    obtain ⟨i, hi, rfl, HF, HO, HK⟩ := hrel
    by_cases hlt : i < ops.length
    · have hli : (i : Int) < (ops.length : Int) := by omega
      obtain ⟨o, ho⟩ : ∃ o, ops[i]? = some o := ⟨_, List.getElem?_eq_getElem hlt⟩
      obtain ⟨g, A', c', rfl, _, ⟨cs, hcs⟩, hcell, hfr, hnum, hrd⟩ := Own.at_opl HO.out ho
      have z0 : wr.cell? ⟨g, i * 9, none⟩ = some _ := hcell 0 _ rfl
      have z1 : wr.cell? ⟨g, i * 9 + 1, none⟩ = some _ := hcell 1 _ rfl
      have z2 : wr.cell? ⟨g, i * 9 + 2, none⟩ = some _ := hcell 2 _ rfl
      have z3 : wr.cell? ⟨g, i * 9 + 3, none⟩ = some _ := hcell 3 _ rfl
      have z4 : wr.cell? ⟨g, i * 9 + 4, none⟩ = some _ := hcell 4 _ rfl
      have z5 : wr.cell? ⟨g, i * 9 + 5, none⟩ = some _ := hcell 5 _ rfl
      have z6 : wr.cell? ⟨g, i * 9 + 6, none⟩ = some _ := hcell 6 _ rfl
      have z7 : wr.cell? ⟨g, i * 9 + 7, none⟩ = some _ := hcell 7 _ rfl
      have z8 : wr.cell? ⟨g, i * 9 + 8, none⟩ = some _ := hcell 8 _ rfl
      have hgw : Hid (g ≠ l ∧ g ≠ b1 ∧ g ≠ b2) := Lib.hid (by
        have hgb : Blk wr g 38 cs.toList := by unfold Blk; rw [hcs]
        obtain ⟨_, _, e1⟩ := HF.out.live.block
        obtain ⟨_, _, e2⟩ := HF.out.last.block
        refine ⟨?_, Blk.ne_map hgb e1, Blk.ne_map hgb e2⟩
        rintro rfl
        have h3 := HF.out.blk
        unfold Blk at h3 hgb
        rw [h3] at hgb
        injection hgb with hgb
        injection hgb with _ hgb
        exact absurd hgb (by decide))
      have hfn : f.take (ops.take (i + 1)) = (f.take (ops.take i)).take1 o := by rw [takeC ho]; exact FV.take_snoc _ _ _
      have hoki : (f.take (ops.take i)).Ok (n + i) := by
        have := HOK.out.take (ops.take i) (fun x hx => HSM.out x (List.mem_of_mem_take hx))
        rw [List.length_take, Nat.min_eq_left hi] at this
        exact this
      have hso : o.kind = 1 → Small o.size := HSM.out o (List.mem_of_getElem? ho)
      obtain ⟨F, hF⟩ : ∃ F, f.take (ops.take i) = F := ⟨_, rfl⟩
      rw [hF] at HF hfn hoki
      have HFN := Lib.hid hfn
      have HOI := Lib.hid hoki
      have HSO := Lib.hid hso
      have HNUM := Lib.hid hnum
      have HRD := Lib.hid hrd
      have hgl : g < wr.heap.size := (Array.getElem?_eq_some_iff.1 hcs).1
      clear ho hcell hfr hcs hnum hrd hfn hoki hso hF
      obtain ⟨on, oe, ok, os, oc, oq, onm, osz, ohs⟩ := o
      simp only at *
      go_upto_region 3 with fail
      obtain ⟨x, hx⟩ : ∃ x, wr.heap.size = x := ⟨_, rfl⟩
      obtain ⟨wa, hwa⟩ : ∃ wa, wr.alloc (.cells #[.int .i64 on, .int .i64 oe, .int .i64 ok, .int .i64 os, .int .i64 oc, .int .i64 oq, .string onm, .int .i64 osz, .slice A' ohs.length c'] 38) = wa := ⟨_, rfl⟩
      have hka : Kp No wr wa := by rw [← hwa]; exact (Kp.refl _ _).alloc _
      have hba : Blk wa x 38 [.int .i64 on, .int .i64 oe, .int .i64 ok, .int .i64 os, .int .i64 oc, .int .i64 oq, .string onm, .int .i64 osz, .slice A' ohs.length c'] := by rw [← hwa, ← hx]; exact Blk.new wr _ _
      have hlx : l ≠ x := by have := Blk.lt HF.out.blk; omega
      have h1x : b1 ≠ x := by have := HF.out.live.lt; omega
      have h2x : b2 ≠ x := by have := HF.out.last.lt; omega
      have HF2 := Lib.hid (HF.out.keptNo hka)
      have HO2 := Lib.hid (HO.out.keptNo hka)
      have HK2 := Lib.hid (HK.out.trans hka (fun _ _ h => h.elim))
      have HR2 := Lib.hid (Rp.str.slice.keptNo HRD.out hka)
      have HX := Lib.hid hba
      have HNX : Hid (l ≠ x ∧ b1 ≠ x ∧ b2 ≠ x) := Lib.hid ⟨hlx, h1x, h2x⟩
      have hwx : w.heap.size ≤ x := by rw [← hx]; exact HK.out.size
      have HWX := Lib.hid hwx
      rw [hwa, hx]
      clear z0 z1 z2 z3 z4 z5 z6 z7 z8 HF HO HK HRD hwa hx hka h1x h2x hwx hgl
      have y0 : wa.cell? ⟨x, 0, none⟩ = some _ := Blk.cell hba rfl
      have y1 : wa.cell? ⟨x, 1, none⟩ = some _ := Blk.cell hba rfl
      have y2 : wa.cell? ⟨x, 2, none⟩ = some _ := Blk.cell hba rfl
      have y3 : wa.cell? ⟨x, 3, none⟩ = some _ := Blk.cell hba rfl
      have y4 : wa.cell? ⟨x, 4, none⟩ = some _ := Blk.cell hba rfl
      have y5 : wa.cell? ⟨x, 5, none⟩ = some _ := Blk.cell hba rfl
      have y6 : wa.cell? ⟨x, 6, none⟩ = some _ := Blk.cell hba rfl
      have y7 : wa.cell? ⟨x, 7, none⟩ = some _ := Blk.cell hba rfl
      have y8 : wa.cell? ⟨x, 8, none⟩ = some _ := Blk.cell hba rfl
      clear hba
      have k0 : wa.cell? ⟨l, 0, none⟩ = some (.map (some b1)) := Blk.cell HF2.out.blk rfl
      have k1 : wa.cell? ⟨l, 1, none⟩ = some (.int .i64 F.used) := Blk.cell HF2.out.blk rfl
      have k2 : wa.cell? ⟨l, 2, none⟩ = some (.map (some b2)) := Blk.cell HF2.out.blk rfl
      have k3 : wa.cell? ⟨l, 3, none⟩ = some (.int .i64 F.hE) := Blk.cell HF2.out.blk rfl
      have k4 : wa.cell? ⟨l, 4, none⟩ = some (.int .i64 F.hS) := Blk.cell HF2.out.blk rfl
      have f1 := Blk.fr HF2.out.blk 1
      have f3 := Blk.fr HF2.out.blk 3
      have f4 := Blk.fr HF2.out.blk 4
      by_cases hk3 : ok = 3
      · subst hk3
        have HF3 : Hid (FAt ((wa.setCell ⟨l, 3, none⟩ (.int .i64 oe)).setCell ⟨l, 4, none⟩ (.int .i64 os)) l rest b1 b2 S (f.take (ops.take (i + 1)))) := Lib.hid (by
          rw [HFN.out]
          unfold FV.take1
          rw [if_pos rfl]
          exact HF2.out.reign oe os)
        have hks : Kp (· = l) wa ((wa.setCell ⟨l, 3, none⟩ (.int .i64 oe)).setCell ⟨l, 4, none⟩ (.int .i64 os)) := ((Kp.refl (· = l) wa).setCell (p := ⟨l, 3, none⟩) (fun _ => rfl) _).setCell (p := ⟨l, 4, none⟩) (fun _ => rfl) _
        have HO3 := Lib.hid (HO2.out.kept hks (fun k hk _ e => HF2.out.s0 (e ▸ hk)) (fun k hk e => by
          have : g = k := by simpa [Value.ownBlock] using hk
          exact hgw.out.1 (this.trans e)))
        have HK3 := Lib.hid (HK2.out.trans hks (fun _ _ e => .inl e))
        clear hks
        go_wp2_with fail
        go_roundw
        case rel => exact ⟨i + 1, by omega, by go_num, HF3, HO3, HK3⟩
        case measure => simp [intOf]; omega
      · have k3b : (ok == 3) = false := beq_eq_false_iff_ne.2 hk3
        have hks : Kp No wa wa.drew := (Kp.refl _ _).drew
        obtain ⟨hv, hlook⟩ := (HF2.out.keptNo hks).size onm
        obtain ⟨us, hus⟩ : ∃ us, F.used = us := ⟨_, rfl⟩
        obtain ⟨sz, hsz⟩ : ∃ sz, sizeAt onm F.live = sz := ⟨_, rfl⟩
        have hub := HOI.out.bound
        have hsb := HOI.out.sizeAt_small onm
        rw [hus] at hub k1
        rw [hsz] at hsb hlook
        obtain ⟨hub1, hub2⟩ := hub
        obtain ⟨hsb1, hsb2⟩ := hsb
        have HUS : Hid (us = sumS F.live) := Lib.hid hus.symm
        have HSZ := Lib.hid hsz
        have HTS : Hid (TSt l rest b1 b2 S base g c ops x ⟨on, oe, ok, os, oc, oq, onm, osz, ohs⟩ (.slice A' ohs.length c') F.hE F.hS wa us F.live F.lastOf) := Lib.hid ⟨by rw [← hus]; exact HF2.out.blk, HF2.out.live, HF2.out.last, HO2.out, HX.out, HR2.out, HF2.out.ne, HF2.out.l1, HF2.out.l2, hgw.out, HNX.out, HF2.out.s0, HF2.out.s1, HF2.out.s2⟩
        clear hus hsz hks HF2 HO2 HX HR2 HNX hgw
        go_upto_region 5 with fail
        refine Reg.wp_region_plan [⟨0, false, []⟩, ⟨1, false, []⟩, ⟨2, false, []⟩, ⟨3, false, []⟩, ⟨4, false, []⟩, ⟨5, false, []⟩, ⟨6, false, []⟩, ⟨7, false, []⟩, ⟨8, false, []⟩, ⟨9, false, []⟩, ⟨10, false, []⟩, ⟨11, false, []⟩, ⟨12, false, []⟩, ⟨13, false, []⟩, ⟨14, false, []⟩, ⟨15, true, []⟩] rfl (by kernel_rfl) ?_
        repeat (first | (refine Reg.look rfl rfl rfl (by go_simp; rfl) rfl ?_; go_simp) | (refine Reg.skip rfl rfl rfl ?_; go_simp))
        refine Reg.act rfl ?_
        go_wp2_with fail
        have hks : Kp (· = l) wa (wa.setCell ⟨l, 1, none⟩ (.int .i64 (us - sz))).drew := ((Kp.refl (· = l) wa).setCell (p := ⟨l, 1, none⟩) (fun _ => rfl) _).drew
        have HT5 := Lib.hid (HTS.out.used (us - sz)).drew
        have HK5 := Lib.hid (HK2.out.trans hks (fun _ _ e => .inl e))
        clear hlook HTS HK2 hks y0 y1 y2 y3 y4 y5 y6 y7 y8 k0 k1 k2 k3 k4 f1 f3 f4
        (refine ⟨?anew, ?_⟩; case anew => ((repeat (refine Reg.anew_cons rfl rfl (fun _ => by go_simp) ?_)); exact Reg.anew_nil))
        repeat (first | (refine Reg.look rfl rfl rfl (by go_simp; rfl) rfl ?_; go_simp) | (refine Reg.skip rfl rfl rfl ?_; go_simp))
        (refine Reg.done ?_; simp only [Exit.then])
        obtain ⟨w5, hw5⟩ : ∃ w5, (wa.setCell ⟨l, 1, none⟩ (.int .i64 (us - sz))).drew = w5 := ⟨_, rfl⟩
        rw [hw5] at HT5 HK5
        rw [hw5]
        clear hw5
        have y2 : w5.cell? ⟨x, 2, none⟩ = some (.int .i64 ok) := Blk.cell HT5.out.box rfl
        have y6 : w5.cell? ⟨x, 6, none⟩ = some (.string onm) := Blk.cell HT5.out.box rfl
        have k0 : w5.cell? ⟨l, 0, none⟩ = some (.map (some b1)) := Blk.cell HT5.out.blk rfl
        go_upto_region 6 with fail
        refine Reg.wp_region_plan [⟨0, false, []⟩, ⟨1, false, []⟩, ⟨2, false, []⟩, ⟨3, false, []⟩, ⟨4, false, []⟩, ⟨5, false, []⟩, ⟨6, true, []⟩] rfl (by kernel_rfl) ?_
        repeat (first | (refine Reg.look rfl rfl rfl (by go_simp; rfl) rfl ?_; go_simp) | (refine Reg.skip rfl rfl rfl ?_; go_simp))
        refine Reg.act rfl ?_
        obtain ⟨w6, hrun, ht6, hk6⟩ := HT5.out.drew.delete onm
        have HT6 := Lib.hid ht6
        have HK6 := Lib.hid (HK5.out.trans (((Kp.refl (· = b1) w5).drew).trans' hk6) (fun _ _ e => .inr (.inl e)))
        clear ht6 hk6 HT5 HK5 y2 y6 k0
        go_wp2_with fail
        try rw [hrun]
        try go_wp2_with fail
        clear hrun
        refine ⟨Reg.anew_nil, ?_⟩
        (refine Reg.done ?_; simp only [Exit.then])
        have y2 : w6.cell? ⟨x, 2, none⟩ = some (.int .i64 ok) := Blk.cell HT6.out.box rfl
        by_cases hk1 : ok = 1
        · subst hk1
          obtain ⟨hso1, hso2⟩ := HSO.out rfl
          try simp only at hso1 hso2
          have y6 : w6.cell? ⟨x, 6, none⟩ = some (.string onm) := Blk.cell HT6.out.box rfl
          have y7 : w6.cell? ⟨x, 7, none⟩ = some (.int .i64 osz) := Blk.cell HT6.out.box rfl
          have y8 : w6.cell? ⟨x, 8, none⟩ = some (.slice A' ohs.length c') := Blk.cell HT6.out.box rfl
          have k0 : w6.cell? ⟨l, 0, none⟩ = some (.map (some b1)) := Blk.cell HT6.out.blk rfl
          go_upto_region 8 with fail
          refine Reg.wp_region_plan [⟨0, false, []⟩, ⟨1, false, []⟩, ⟨2, false, []⟩, ⟨3, false, []⟩, ⟨4, false, []⟩, ⟨5, false, []⟩, ⟨6, false, []⟩, ⟨7, false, []⟩, ⟨8, true, []⟩] rfl (by kernel_rfl) ?_
          repeat (first | (refine Reg.look rfl rfl rfl (by go_simp; rfl) rfl ?_; go_simp) | (refine Reg.skip rfl rfl rfl ?_; go_simp))
          refine Reg.act rfl ?_
          obtain ⟨w8, hrun, ht8, hk8⟩ := HT6.out.drew.putLive HNUM.out onm
          try simp only at hrun
          have HT8 := Lib.hid ht8
          have HK8 := Lib.hid (HK6.out.trans (((Kp.refl (· = b1) w6).drew).trans' hk8) (fun _ _ e => .inr (.inl e)))
          clear ht8 hk8 HT6 HK6 y2 y6 y7 y8 k0
          go_wp2_with fail
          try rw [hrun]
          try go_wp2_with fail
          clear hrun
          refine ⟨Reg.anew_nil, ?_⟩
          (refine Reg.done ?_; simp only [Exit.then])
          have y7 : w8.cell? ⟨x, 7, none⟩ = some (.int .i64 osz) := Blk.cell HT8.out.box rfl
          have k1 : w8.cell? ⟨l, 1, none⟩ = some (.int .i64 (us - sz)) := Blk.cell HT8.out.blk rfl
          have f1 := Blk.fr HT8.out.blk 1
          go_upto_region 9 with fail
          refine Reg.wp_region_plan [⟨0, false, []⟩, ⟨1, false, []⟩, ⟨2, false, []⟩, ⟨3, false, []⟩, ⟨4, false, []⟩, ⟨5, false, []⟩, ⟨6, false, []⟩, ⟨7, false, []⟩, ⟨8, false, []⟩, ⟨9, false, []⟩, ⟨10, true, []⟩] rfl (by kernel_rfl) ?_
          repeat (first | (refine Reg.look rfl rfl rfl (by go_simp; rfl) rfl ?_; go_simp) | (refine Reg.skip rfl rfl rfl ?_; go_simp))
          refine Reg.act rfl ?_
          go_wp2_with fail
          have hks : Kp (· = l) w8 (w8.setCell ⟨l, 1, none⟩ (.int .i64 (us - sz + osz))).drew := ((Kp.refl (· = l) w8).setCell (p := ⟨l, 1, none⟩) (fun _ => rfl) _).drew
          have HT9 := Lib.hid (HT8.out.used (us - sz + osz)).drew
          have HK9 := Lib.hid (HK8.out.trans hks (fun _ _ e => .inl e))
          clear HT8 HK8 hks y7 k1 f1
          (refine ⟨?anew, ?_⟩; case anew => ((repeat (refine Reg.anew_cons rfl rfl (fun _ => by go_simp) ?_)); exact Reg.anew_nil))
          repeat (first | (refine Reg.look rfl rfl rfl (by go_simp; rfl) rfl ?_; go_simp) | (refine Reg.skip rfl rfl rfl ?_; go_simp))
          (refine Reg.done ?_; simp only [Exit.then])
          obtain ⟨w9, hw9⟩ : ∃ w9, (w8.setCell ⟨l, 1, none⟩ (.int .i64 (us - sz + osz))).drew = w9 := ⟨_, rfl⟩
          rw [hw9] at HT9 HK9
          rw [hw9]
          clear hw9
          have HU : Hid (us - sz + osz = sumS (mput onm (osz, ohs) (mdel onm F.live))) := Lib.hid (by
            rw [sumS_put, sumS_del, HSZ.out, HUS.out]
            rw [mget_del _ _ _ HOI.out.nodup, if_pos rfl])
          have HFQ : Hid (f.take (ops.take (i + 1)) = ⟨mput onm (osz, ohs) (mdel onm F.live), mput oc ⟨on, oe, 1, os, oc, oq, onm, osz, ohs⟩ F.lastOf, F.hE, F.hS⟩) := Lib.hid (by
            rw [HFN.out]; unfold FV.take1; rw [if_neg hk3, if_pos rfl])
          have y0 : w9.cell? ⟨x, 0, none⟩ = some (.int .i64 on) := Blk.cell HT9.out.box rfl
          have y1 : w9.cell? ⟨x, 1, none⟩ = some (.int .i64 oe) := Blk.cell HT9.out.box rfl
          have y2 := Blk.cell HT9.out.box (i := 2) rfl
          have y3 : w9.cell? ⟨x, 3, none⟩ = some (.int .i64 os) := Blk.cell HT9.out.box rfl
          have y4 : w9.cell? ⟨x, 4, none⟩ = some (.int .i64 oc) := Blk.cell HT9.out.box rfl
          have y5 : w9.cell? ⟨x, 5, none⟩ = some (.int .i64 oq) := Blk.cell HT9.out.box rfl
          have y6 : w9.cell? ⟨x, 6, none⟩ = some (.string onm) := Blk.cell HT9.out.box rfl
          have y7 : w9.cell? ⟨x, 7, none⟩ = some (.int .i64 osz) := Blk.cell HT9.out.box rfl
          have y8 : w9.cell? ⟨x, 8, none⟩ = some (.slice A' ohs.length c') := Blk.cell HT9.out.box rfl
          have k2 : w9.cell? ⟨l, 2, none⟩ = some (.map (some b2)) := Blk.cell HT9.out.blk rfl
          try simp only at y2
          go_upto_region 10 with fail
          refine Reg.wp_region_plan [⟨0, false, []⟩, ⟨1, false, []⟩, ⟨2, false, []⟩, ⟨3, false, []⟩, ⟨4, false, []⟩, ⟨5, false, []⟩, ⟨6, false, []⟩, ⟨7, true, []⟩] rfl (by kernel_rfl) ?_
          repeat (first | (refine Reg.look rfl rfl rfl (by go_simp; rfl) rfl ?_; go_simp) | (refine Reg.skip rfl rfl rfl ?_; go_simp))
          refine Reg.act rfl ?_
          obtain ⟨wz, hrun, htz, hkz⟩ := HT9.out.drew.putLast HNUM.out
          unfold OpL.cells at hrun
          try simp only at hrun
          have HTZ := Lib.hid htz
          have HKZ := Lib.hid (HK9.out.trans (((Kp.refl (· = b2) w9).drew).trans' hkz) (fun _ _ e => .inr (.inr e)))
          clear htz hkz y0 y1 y2 y3 y4 y5 y6 y7 y8 k2
          go_wp2_with fail
          try rw [hrun]
          try go_wp2_with fail
          clear hrun
          refine ⟨Reg.anew_nil, ?_⟩
          (refine Reg.done ?_; simp only [Exit.then])
          go_wp2_with fail
          go_roundw
          case rel => exact ⟨i + 1, by omega, by go_num, Lib.hid (by rw [HFQ.out]; exact HTZ.out.fat HU.out), Lib.hid HTZ.out.own, HKZ⟩
          case measure => simp [intOf]; omega
        · have hk1b : (ok == 1) = false := beq_eq_false_iff_ne.2 hk1
          have HU : Hid (us - sz = sumS (mdel onm F.live)) := Lib.hid (by
            rw [sumS_del, HSZ.out, HUS.out])
          have HFQ : Hid (f.take (ops.take (i + 1)) = ⟨mdel onm F.live, mput oc ⟨on, oe, ok, os, oc, oq, onm, osz, ohs⟩ F.lastOf, F.hE, F.hS⟩) := Lib.hid (by
            rw [HFN.out]; unfold FV.take1; rw [if_neg hk3, if_neg hk1])
          have y0 : w6.cell? ⟨x, 0, none⟩ = some (.int .i64 on) := Blk.cell HT6.out.box rfl
          have y1 : w6.cell? ⟨x, 1, none⟩ = some (.int .i64 oe) := Blk.cell HT6.out.box rfl
          have y2 := Blk.cell HT6.out.box (i := 2) rfl
          have y3 : w6.cell? ⟨x, 3, none⟩ = some (.int .i64 os) := Blk.cell HT6.out.box rfl
          have y4 : w6.cell? ⟨x, 4, none⟩ = some (.int .i64 oc) := Blk.cell HT6.out.box rfl
          have y5 : w6.cell? ⟨x, 5, none⟩ = some (.int .i64 oq) := Blk.cell HT6.out.box rfl
          have y6 : w6.cell? ⟨x, 6, none⟩ = some (.string onm) := Blk.cell HT6.out.box rfl
          have y7 : w6.cell? ⟨x, 7, none⟩ = some (.int .i64 osz) := Blk.cell HT6.out.box rfl
          have y8 : w6.cell? ⟨x, 8, none⟩ = some (.slice A' ohs.length c') := Blk.cell HT6.out.box rfl
          have k2 : w6.cell? ⟨l, 2, none⟩ = some (.map (some b2)) := Blk.cell HT6.out.blk rfl
          try simp only at y2
          go_upto_region 10 with fail
          refine Reg.wp_region_plan [⟨0, false, []⟩, ⟨1, false, []⟩, ⟨2, false, []⟩, ⟨3, false, []⟩, ⟨4, false, []⟩, ⟨5, false, []⟩, ⟨6, false, []⟩, ⟨7, true, []⟩] rfl (by kernel_rfl) ?_
          repeat (first | (refine Reg.look rfl rfl rfl (by go_simp; rfl) rfl ?_; go_simp) | (refine Reg.skip rfl rfl rfl ?_; go_simp))
          refine Reg.act rfl ?_
          obtain ⟨wz, hrun, htz, hkz⟩ := HT6.out.drew.putLast HNUM.out
          unfold OpL.cells at hrun
          try simp only at hrun
          have HTZ := Lib.hid htz
          have HKZ := Lib.hid (HK6.out.trans (((Kp.refl (· = b2) w6).drew).trans' hkz) (fun _ _ e => .inr (.inr e)))
          clear htz hkz y0 y1 y2 y3 y4 y5 y6 y7 y8 k2
          go_wp2_with fail
          try rw [hrun]
          try go_wp2_with fail
          clear hrun
          refine ⟨Reg.anew_nil, ?_⟩
          (refine Reg.done ?_; simp only [Exit.then])
          go_wp2_with fail
          go_roundw
          case rel => exact ⟨i + 1, by omega, by go_num, Lib.hid (by rw [HFQ.out]; exact HTZ.out.fat HU.out), Lib.hid HTZ.out.own, HKZ⟩
          case measure => simp [intOf]; omega
    · obtain rfl : i = ops.length := by omega
      go_wp2_with fail
      go_end0
      exact ⟨rfl, by have := HF.out; rw [List.take_length] at this; exact this, HO.out, HK.out⟩
end Go.Proofs.Ytbncblnchcmgbaa
