/-
  Of any sheet and chunks the bytes that the document says are built, or the error; whether the sheet may be, likewise: SheetBuilds answers true for every input whose bulk is at most 1048576. One condition: that one (the row's own).
-/
import Derived.Test.YtejmbbnndagejaaH5
import Derived.Test.YtejmbbnndagejaaH11
import Derived.Test.YtejmbbnndagejaaG1
import Derived.Test.YtejmbbnndagejaaFSheetBuilds
namespace Go.Proofs.Ytejmbbnndagejaa
open Go.RowKit Go.ChangeShapes Go.WideShapes Go.ChangeAt

theorem sum_len (l : List ByteArray) : l.length ≤ Rp.str.slice.μ l := by
  show l.length ≤ 1 + Rp.sumμ Rp.str.μ l
  unfold Rp.sumμ
  induction l with
  | nil => simp
  | cons x l ih => simp only [List.map_cons, List.sum_cons, List.length_cons]; show _ ≤ 1 + (x.size + 1 + _); omega

set_option maxRecDepth 100000 in
set_option maxHeartbeats 2000000 in
theorem sheetBuilds_walk : SheetBuildsUptoWalk := by
  intro W v0 a0 v1 cs h0 h1 hμ
  obtain ⟨n, l⟩ := a0
  obtain ⟨A, c, h0v, hwf, hl⟩ := h0
  obtain ⟨A2, c2, h1v, _⟩ := id h1
  simp only [List.cons.injEq, and_true] at h0v h1v
  subst h0v h1v
  have hln : l.length ≤ 1048576 := by
    have h2 := sum_len l
    have h3 : Rp.str.slice.μ l + Rp.str.slice.μ cs ≤ 1048576 := hμ
    omega
  have hcn : cs.length ≤ 1048576 := by
    have h2 := sum_len cs
    have h3 : Rp.str.slice.μ l + Rp.str.slice.μ cs ≤ 1048576 := hμ
    omega
  have hnb := wf_bounds hwf
  replace hl : Rp.str.slice.R W (fun k => k < W.heap.size) [.slice A l.length c] l := hl
  have HL := Lib.hid hl
  have HC := Lib.hid h1
  clear hl hwf hμ h1
  go_enter Try.func8, Try.ntmps8
  go_wp2_with fail
  obtain ⟨w1, hw1⟩ : ∃ w1, W.alloc (.cells #[.int .i64 n, .slice A l.length c] 34) = w1 := ⟨_, rfl⟩
  have HB1 : Hid (Blk w1 W.heap.size 34 [.int .i64 n, .slice A l.length c]) := Lib.hid (by rw [← hw1]; exact Blk.new W _ _)
  have HK1 : Hid (Kp No W w1) := Lib.hid (by rw [← hw1]; exact (Kp.refl _ _).alloc _)
  rw [hw1]
  clear hw1
  refine (awake08 _).mono ?_
  rintro e w2 ⟨rfl, hk2⟩
  have HB2 := Lib.hid (HB1.out.kept hk2 (fun x => x))
  have HK2 := Lib.hid (HK1.out.trans' hk2)
  have HL2 := Lib.hid (Rp.str.slice.keptNo HL.out HK2.out)
  have HC2 := Lib.hid (Rp.str.slice.keptNo HC.out HK2.out)
  have b0 : w2.cell? ⟨W.heap.size, 0, none⟩ = some (.int .i64 n) := HB2.out.cell rfl
  have b1 : w2.cell? ⟨W.heap.size, 1, none⟩ = some (.slice A l.length c) := HB2.out.cell rfl
  clear hk2
  go_wp2_with fail
  have hgr := h_great n l cs A A2 c c2 w2 _ _ HL2.out HC2.out hln hcn
  refine hgr.mono ?_
  rintro e w3 ⟨rfl, hk3⟩
  have HB3 := Lib.hid (HB2.out.kept hk3 (fun x => x))
  have HK3 := Lib.hid (HK2.out.trans' hk3)
  clear hk3 hgr b0 b1
  cases hgb : greatB l cs with
  | true =>
    go_wp2_with fail
    refine (awake08 _).mono ?_
    rintro e w4 ⟨rfl, hk4⟩
    go_wp2_with fail
    go_ret
    exact ⟨rfl, HK3.out.trans' hk4⟩
  | false =>
    have hgn := great_not hgb
    have hj : (joinB cs).size ≤ 1048576 := by have := wt_join (l := cs) (by omega); omega
    have hcz : ∀ x ∈ cs, x.size ≤ 1048576 := fun x hx => by have := wt_one hx; omega
    have HCZ := Lib.hid hcz
    have HJ := Lib.hid hj
    clear hgb hcz hj
    have b0 : w3.cell? ⟨W.heap.size, 0, none⟩ = some (.int .i64 n) := HB3.out.cell rfl
    have b1 : w3.cell? ⟨W.heap.size, 1, none⟩ = some (.slice A l.length c) := HB3.out.cell rfl
    have HL3 := Lib.hid (Rp.str.slice.keptNo HL.out HK3.out)
    go_wp2_with fail
    refine (h_own n l A c w3 _ HL3.out (by omega)).mono ?_
    rintro e w4 ⟨⟨A4, c4, rfl, ho4⟩, hk4⟩
    have HB4 := Lib.hid (HB3.out.kept hk4 (fun x => x))
    have HK4 := Lib.hid (HK3.out.trans' hk4)
    have HO4 := Lib.hid ((ho4.str_any (fun _ => True)).read (fun _ _ => trivial))
    have HC4 := Lib.hid (Rp.str.slice.keptNo HC.out HK4.out)
    clear ho4 hk4 b0 b1
    go_wp2_with (at_builtin; refine wpList_copy_lit (E := Rp.str) rfl w4 (.tmp 20) (.tmp 21) 22 rfl 9 16 elem_str rfl A2 c2 (fun k => k < W.heap.size) cs rfl HC4.out Rp.str_one (by omega) ?_; intro A5 c5 w5 hown hk5)
    have HO5 := Lib.hid (hown.str_any No)
    have HK5 := Lib.hid (HK4.out.trans' hk5)
    have HB5 := Lib.hid (HB4.out.kept hk5 (fun x => x))
    have HO45 := Lib.hid (Rp.str.slice.keptNo HO4.out hk5)
    clear hown hk5
    obtain ⟨BA, hBA⟩ : ∃ BA, buildA n l cs = BA := ⟨_, rfl⟩
    refine (c_build n l A4 c4 w5 _ HO45.out hnb.1 hnb.2 (by omega) cs A5 c5 _ HO5.out (by omega) HCZ.out HJ.out).mono ?_
    rintro e w6 ⟨hba, hk6⟩
    unfold BuildAns at hba
    rw [hBA] at hba
    have HBA := Lib.hid hBA
    subst hba
    have HB6 := Lib.hid (HB5.out.kept hk6 (fun x => x))
    have HK6 := Lib.hid (HK5.out.trans' hk6)
    have HL6 := Lib.hid (Rp.str.slice.keptNo HL.out HK6.out)
    have HC6 := Lib.hid (Rp.str.slice.keptNo HC.out HK6.out)
    clear hk6 hBA HO4 HO45 HO5 HB4 HB5 HK4 HK5 HC4
    obtain ⟨T, cd⟩ := BA
    have b0 : w6.cell? ⟨W.heap.size, 0, none⟩ = some (.int .i64 n) := HB6.out.cell rfl
    have b1 : w6.cell? ⟨W.heap.size, 1, none⟩ = some (.slice A l.length c) := HB6.out.cell rfl
    go_wp2_with fail
    refine (r_build n l A c w6 _ HL6.out hnb.1 hnb.2 (by omega) cs A2 c2 _ HC6.out (by omega) HCZ.out HJ.out).mono ?_
    rintro e w7 ⟨hba, hk7⟩
    unfold BuildAns at hba
    rw [HBA.out] at hba
    subst hba
    have HB7 := Lib.hid (HB6.out.kept hk7 (fun x => x))
    have HK7 := Lib.hid (HK6.out.trans' hk7)
    have HL7 := Lib.hid (Rp.str.slice.keptNo HL.out HK7.out)
    clear hk7 b0 b1 HL6 HC6 HB6 HK6
    have hTT : (T.toList == T.toList) = true := by rw [bytes_list_beq]; exact decide_eq_true rfl
    have hcd : (cd == cd) = true := by simp
    have b0 : w7.cell? ⟨W.heap.size, 0, none⟩ = some (.int .i64 n) := HB7.out.cell rfl
    have b1 : w7.cell? ⟨W.heap.size, 1, none⟩ = some (.slice A l.length c) := HB7.out.cell rfl
    go_wp2_with fail
    refine Reg.wp_region_plan [⟨0, false, []⟩, ⟨1, false, []⟩, ⟨2, false, []⟩, ⟨3, false, []⟩, ⟨4, false, []⟩, ⟨5, false, []⟩, ⟨6, false, []⟩, ⟨7, false, []⟩, ⟨8, false, []⟩, ⟨9, false, []⟩, ⟨13, false, []⟩, ⟨10, true, [13]⟩, ⟨11, true, [13]⟩, ⟨12, false, []⟩, ⟨14, true, [12]⟩, ⟨15, false, []⟩, ⟨16, false, []⟩, ⟨17, false, []⟩] rfl (by kernel_rfl) ?_
    repeat (first | (refine Reg.look rfl rfl rfl (by go_simp; rfl) rfl ?_; go_simp) | (refine Reg.skip rfl rfl rfl ?_; go_simp))
    refine Reg.act rfl ?_
    go_wp2_with fail
    refine (h_own n l A c w7.drew _ (Rp.str.slice.keptNo HL7.out (Kp.refl _ _).drew) (by omega)).mono ?_
    rintro e w8 ⟨⟨A8, c8, rfl, ho8⟩, hk8⟩
    have hk8' : Kp No w7 w8 := (Kp.refl _ _).drew.trans' hk8
    have HO8 := Lib.hid ((ho8.str_any (fun _ => True)).read (fun _ _ => trivial))
    have HB8 := Lib.hid (HB7.out.kept hk8' (fun x => x))
    have HK8 := Lib.hid (HK7.out.trans' hk8')
    clear ho8 hk8 hk8' b0 b1 HB7 HK7 HL7
    have b0 : w8.cell? ⟨W.heap.size, 0, none⟩ = some (.int .i64 n) := HB8.out.cell rfl
    have b1 : w8.cell? ⟨W.heap.size, 1, none⟩ = some (.slice A l.length c) := HB8.out.cell rfl
    go_wp2_with fail
    (refine ⟨?anew, ?_⟩; case anew => ((repeat (refine Reg.anew_cons rfl rfl (fun _ => by go_simp) ?_)); exact Reg.anew_nil))
    repeat (first | (refine Reg.look rfl rfl rfl (by go_simp; rfl) rfl ?_; go_simp) | (refine Reg.skip rfl rfl rfl ?_; go_simp))
    refine Reg.act rfl ?_
    go_wp2_with fail
    refine (c_check n l A8 c8 w8 _ HO8.out hnb.1 hnb.2 (by omega)).mono ?_
    rintro e w9 ⟨rfl, hk9⟩
    have HB9 := Lib.hid (HB8.out.kept hk9 (fun x => x))
    have HK9 := Lib.hid (HK8.out.trans' hk9)
    have HL9 := Lib.hid (Rp.str.slice.keptNo HL.out HK9.out)
    clear hk9 b0 b1 HB8 HK8 HO8
    have b0 : w9.cell? ⟨W.heap.size, 0, none⟩ = some (.int .i64 n) := HB9.out.cell rfl
    have b1 : w9.cell? ⟨W.heap.size, 1, none⟩ = some (.slice A l.length c) := HB9.out.cell rfl
    cases hok : okSheet n l with
    | true =>
      have hck : chkN n l = 0 := by unfold chkN; rw [hok]; rfl
      rw [hck]
      have HOK := Lib.hid hok
      clear hok hck
      go_wp2_with fail
      (refine ⟨?anew, ?_⟩; case anew => ((repeat (refine Reg.anew_cons rfl rfl (fun _ => by go_simp) ?_)); exact Reg.anew_nil))
      repeat (first | (refine Reg.look rfl rfl rfl (by go_simp; rfl) rfl ?_; go_simp) | (refine Reg.skip rfl rfl rfl ?_; go_simp))
      refine Reg.act rfl ?_
      go_wp2_with fail
      have hrr := r_right n l A c w9 _ HL9.out hnb.1 hnb.2 (by omega)
      rw [HOK.out] at hrr
      refine hrr.mono ?_
      rintro e w10 ⟨rfl, hk10⟩
      have HB10 := Lib.hid (HB9.out.kept hk10 (fun x => x))
      have HK10 := Lib.hid (HK9.out.trans' hk10)
      clear hk10 hrr b0 b1
      have b0 : w10.cell? ⟨W.heap.size, 0, none⟩ = some (.int .i64 n) := HB10.out.cell rfl
      have b1 : w10.cell? ⟨W.heap.size, 1, none⟩ = some (.slice A l.length c) := HB10.out.cell rfl
      go_wp2_with fail
      (refine ⟨?anew, ?_⟩; case anew => ((repeat (refine Reg.anew_cons rfl rfl (fun _ => by go_simp) ?_)); exact Reg.anew_nil))
      repeat (first | (refine Reg.look rfl rfl rfl (by go_simp; rfl) rfl ?_; go_simp) | (refine Reg.skip rfl rfl rfl ?_; go_simp))
      (refine Reg.done ?_; simp only [Exit.then])
      go_wp2_with fail
      go_ret
      exact ⟨rfl, HK10.out⟩
    | false =>
      have hck : chkN n l = 3 := by unfold chkN; rw [hok]; rfl
      rw [hck]
      have HOK := Lib.hid hok
      clear hok hck
      go_wp2_with fail
      (refine ⟨?anew, ?_⟩; case anew => ((repeat (refine Reg.anew_cons rfl rfl (fun _ => by go_simp) ?_)); exact Reg.anew_nil))
      repeat (first | (refine Reg.look rfl rfl rfl (by go_simp; rfl) rfl ?_; go_simp) | (refine Reg.skip rfl rfl rfl ?_; go_simp))
      refine Reg.act rfl ?_
      go_wp2_with fail
      have hrr := r_right n l A c w9 _ HL9.out hnb.1 hnb.2 (by omega)
      rw [HOK.out] at hrr
      refine hrr.mono ?_
      rintro e w10 ⟨rfl, hk10⟩
      have HB10 := Lib.hid (HB9.out.kept hk10 (fun x => x))
      have HK10 := Lib.hid (HK9.out.trans' hk10)
      clear hk10 hrr b0 b1
      have b0 : w10.cell? ⟨W.heap.size, 0, none⟩ = some (.int .i64 n) := HB10.out.cell rfl
      have b1 : w10.cell? ⟨W.heap.size, 1, none⟩ = some (.slice A l.length c) := HB10.out.cell rfl
      go_wp2_with fail
      (refine ⟨?anew, ?_⟩; case anew => ((repeat (refine Reg.anew_cons rfl rfl (fun _ => by go_simp) ?_)); exact Reg.anew_nil))
      repeat (first | (refine Reg.look rfl rfl rfl (by go_simp; rfl) rfl ?_; go_simp) | (refine Reg.skip rfl rfl rfl ?_; go_simp))
      (refine Reg.done ?_; simp only [Exit.then])
      go_wp2_with fail
      go_ret
      exact ⟨rfl, HK10.out⟩
theorem sheetBuilds_holds : Rows.SheetBuildsUptoSaid := sheetBuildsUpto_of sheetBuilds_walk
#print axioms sheetBuilds_holds
end Go.Proofs.Ytejmbbnndagejaa
