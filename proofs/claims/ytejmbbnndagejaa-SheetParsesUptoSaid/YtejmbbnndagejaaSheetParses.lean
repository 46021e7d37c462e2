/-
  Any sheet has the document's bytes; any bytes are the document's sheet, or none: SheetParses answers true for every input whose bulk is at most 1048576. One condition: that one (the row's own).
-/
import Derived.Test.YtejmbbnndagejaaH5
import Derived.Test.YtejmbbnndagejaaH6
import Derived.Test.YtejmbbnndagejaaH7
import Derived.Test.YtejmbbnndagejaaG1
import Derived.Test.YtejmbbnndagejaaV2
import Derived.Test.YtejmbbnndagejaaFSheetParses
namespace Go.Proofs.Ytejmbbnndagejaa
open Go.RowKit Go.ChangeShapes Go.WideShapes Go.ChangeAt

theorem texts_le (l : List ByteArray) (h : wt l ≤ 1000000) : (textsB l).length ≤ 10 * l.length + wt l ∧ ∀ s ∈ l, s.size ≤ 1000000 := by
  induction l with
  | nil => exact ⟨by simp [textsB], by simp⟩
  | cons x l ih =>
    have e : wt (x :: l) = min x.size 1048576 + wt l := by simp [wt]
    rw [e] at h ⊢
    obtain ⟨h1, h2⟩ := ih (by omega)
    have h3 : (textB x).length ≤ 10 + x.size := by
      unfold textB
      rw [List.length_append, data_length]
      have := numB_length (x.size : Int) (by omega) (by omega)
      omega
    refine ⟨?_, fun s hs => ?_⟩
    · have e2 : textsB (x :: l) = textB x ++ textsB l := by unfold textsB; rw [List.flatMap_cons]
      rw [e2, List.length_append, List.length_cons]
      omega
    · rcases List.mem_cons.1 hs with rfl | hs
      · omega
      · exact h2 s hs
theorem sum_slice_len (l : List ByteArray) : l.length ≤ Rp.str.slice.μ l := by
  show l.length ≤ 1 + Rp.sumμ Rp.str.μ l
  unfold Rp.sumμ
  induction l with
  | nil => simp
  | cons x l ih => simp only [List.map_cons, List.sum_cons, List.length_cons]; show _ ≤ 1 + (x.size + 1 + _); omega

/-- what is handed back, and that it reads so -/
theorem SheetOut.parts {base : Nat} {R : Option (Int × List ByteArray)} {okc badc : Value} {e : Ending} {w' : World} (h : SheetOut base R okc badc e w') :
    ∃ A c, e = .returned (.tuple #[.agg #[.int .i64 (R.getD (0, [])).1, .slice A (R.getD (0, [])).2.length c], if R.isSome then okc else badc]) ∧ Rp.str.slice.R w' (fun _ => True) [.slice A (R.getD (0, [])).2.length c] (R.getD (0, [])).2 := by
  cases R with
  | none => exact ⟨none, 0, h, Own.read (Own.nil Rp.str _ (fun _ => True) 0 9) (fun _ _ => trivial)⟩
  | some p =>
    obtain ⟨A, c, h1, h2⟩ := h
    exact ⟨A, c, h1, (h2.str_any (fun _ => True)).read (fun _ _ => trivial)⟩
set_option maxRecDepth 100000 in
set_option maxHeartbeats 2000000 in
theorem sheetParses_walk : SheetParsesUptoWalk := by
  intro W v0 a0 v1 text h0 h1 hμ
  obtain ⟨n, l⟩ := a0
  obtain ⟨A, c, h0v, hwf, hl⟩ := h0
  obtain ⟨h1v, hts⟩ := h1
  simp only [List.cons.injEq, and_true] at h0v h1v
  subst h0v h1v
  have hln : l.length ≤ 1048576 := by
    have h2 := sum_slice_len l
    have h3 : Rp.str.slice.μ l + Rp.str.μ text ≤ 1048576 := hμ
    omega
  have htl : text.size ≤ 1048576 := by
    have h3 : Rp.str.slice.μ l + (text.size + 1) ≤ 1048576 := hμ
    omega
  have hnb := wf_bounds hwf
  replace hl : Rp.str.slice.R W (fun k => k < W.heap.size) [.slice A l.length c] l := hl
  have HL := Lib.hid hl
  clear hl hwf hμ hts
  go_enter Try.func11, Try.ntmps11
  go_wp2_with fail
  obtain ⟨w1, hw1⟩ : ∃ w1, W.alloc (.cells #[.int .i64 n, .slice A l.length c] 34) = w1 := ⟨_, rfl⟩
  have HB1 : Hid (Blk w1 W.heap.size 34 [.int .i64 n, .slice A l.length c]) := Lib.hid (by rw [← hw1]; exact Blk.new W _ _)
  have HK1 : Hid (Kp No W w1) := Lib.hid (by rw [← hw1]; exact (Kp.refl _ _).alloc _)
  have HL1 := Lib.hid (Rp.str.slice.keptNo HL.out HK1.out)
  rw [hw1]
  clear hw1
  refine (awake08 _).mono ?_
  rintro e w2 ⟨rfl, hk2⟩
  have HB2 := Lib.hid (HB1.out.kept hk2 (fun x => x))
  have HK2 := Lib.hid (HK1.out.trans' hk2)
  have HL2 := Lib.hid (Rp.str.slice.keptNo HL1.out hk2)
  have b0 : w2.cell? ⟨W.heap.size, 0, none⟩ = some (.int .i64 n) := HB2.out.cell rfl
  have b1 : w2.cell? ⟨W.heap.size, 1, none⟩ = some (.slice A l.length c) := HB2.out.cell rfl
  clear hk2
  go_wp2_with fail
  have hgr := h_great n l [] A none c 0 w2 _ (fun _ => True) HL2.out (Own.read (Own.nil Rp.str _ (fun _ => True) 0 9) (fun _ _ => trivial)) hln (by simp)
  refine hgr.mono ?_
  rintro e w3 ⟨rfl, hk3⟩
  have HB3 := Lib.hid (HB2.out.kept hk3 (fun x => x))
  have HK3 := Lib.hid (HK2.out.trans' hk3)
  have HL3 := Lib.hid (Rp.str.slice.keptNo HL2.out hk3)
  clear hk3 hgr b0 b1
  by_cases hout : greatB l [] = true ∨ 3000 < text.size
  · have hend : ∀ w9, Kp No W w9 → True := fun _ _ => trivial
    rcases hout with hg | hg
    · rw [hg]
      go_wp2_with fail
      refine (awake08 _).mono ?_
      rintro e w4 ⟨rfl, hk4⟩
      go_wp2_with fail
      go_ret
      exact ⟨rfl, HK3.out.trans' hk4⟩
    · cases hgb : greatB l [] with
      | true =>
        go_wp2_with fail
        refine (awake08 _).mono ?_
        rintro e w4 ⟨rfl, hk4⟩
        go_wp2_with fail
        go_ret
        exact ⟨rfl, HK3.out.trans' hk4⟩
      | false =>
        have hgi : (3000 : Int) < (text.size : Int) := by omega
        go_wp2_with fail
        refine (awake08 _).mono ?_
        rintro e w4 ⟨rfl, hk4⟩
        go_wp2_with fail
        go_ret
        exact ⟨rfl, HK3.out.trans' hk4⟩
  · have hgb : greatB l [] = false := by
      cases h : greatB l [] with
      | true => exact absurd (.inl h) hout
      | false => rfl
    have hti : ¬ (3000 : Int) < (text.size : Int) := fun h => hout (.inr (by omega))
    have hgn := great_not hgb
    rw [hgb]
    have htxt := texts_le l (by omega)
    have HTX := Lib.hid htxt
    clear hout hgb htxt
    go_wp2_with fail
    obtain ⟨R, hR⟩ : ∃ R, parseS text.data.toList = R := ⟨_, rfl⟩
    have hcp := c_parse text w3 (by omega)
    have hrp := fun w => r_parse text w (by omega)
    rw [hR] at hcp hrp
    have HRP := Lib.hid hrp
    clear hR hrp
    cases R with
    | none =>
      refine hcp.mono ?_
      rintro e w4 ⟨ho4, hk4⟩
      obtain ⟨A4, c4, rfl, hr4⟩ := SheetOut.parts ho4
      obtain ⟨⟨m, l4⟩, hpr⟩ : ∃ p : Int × List ByteArray, p = ((0 : Int), ([] : List ByteArray)) := ⟨_, rfl⟩
      simp only [Option.getD_none, ← hpr] at hr4
      simp only [Option.getD_none, ← hpr, Option.isSome_none, Bool.false_eq_true, if_false]
      have HPR := Lib.hid hpr
      have HR4 := Lib.hid hr4
      have HB4 := Lib.hid (HB3.out.kept hk4 (fun x => x))
      have HK4 := Lib.hid (HK3.out.trans' hk4)
      have HL4 := Lib.hid (Rp.str.slice.keptNo HL3.out hk4)
      clear hpr hr4 hk4 ho4 hcp
      go_wp2_with fail
      obtain ⟨w5, hw5⟩ : ∃ w5, w4.alloc (.cells #[.int .i64 m, .slice A4 l4.length c4] 34) = w5 := ⟨_, rfl⟩
      have hk45 : Kp No w4 w5 := by rw [← hw5]; exact (Kp.refl _ _).alloc _
      have HS5 : Hid (Blk w5 w4.heap.size 34 [.int .i64 m, .slice A4 l4.length c4]) := Lib.hid (by rw [← hw5]; exact Blk.new w4 _ _)
      have HR5 := Lib.hid (Rp.str.slice.keptNo HR4.out hk45)
      have HB5 := Lib.hid (HB4.out.kept hk45 (fun x => x))
      have HK5 := Lib.hid (HK4.out.trans' hk45)
      have HL5 := Lib.hid (Rp.str.slice.keptNo HL4.out hk45)
      obtain ⟨ga, hga⟩ : ∃ ga, w4.heap.size = ga := ⟨_, rfl⟩
      rw [hw5, hga]
      rw [hga] at HS5
      clear hw5 hk45 hga HB4 HK4 HL4 HR4
      refine (HRP.out w5).mono ?_
      rintro e w6 ⟨ho6, hk6⟩
      obtain ⟨A6, c6, rfl, hr6⟩ := SheetOut.parts ho6
      simp only [Option.getD_none, ← HPR.out] at hr6
      simp only [Option.getD_none, ← HPR.out, Option.isSome_none, Bool.false_eq_true, if_false]
      have HS6 := Lib.hid (HS5.out.kept hk6 (fun x => x))
      have HRA6 := Lib.hid (Rp.str.slice.keptNo HR5.out hk6)
      have HRB6 := Lib.hid hr6
      have HB6 := Lib.hid (HB5.out.kept hk6 (fun x => x))
      have HK6 := Lib.hid (HK5.out.trans' hk6)
      have HL6 := Lib.hid (Rp.str.slice.keptNo HL5.out hk6)
      clear hr6 hk6 ho6 HRP
      go_wp2_with fail
      obtain ⟨w7, hw7⟩ : ∃ w7, w6.alloc (.cells #[.int .i64 m, .slice A6 l4.length c6] 34) = w7 := ⟨_, rfl⟩
      have hk67 : Kp No w6 w7 := by rw [← hw7]; exact (Kp.refl _ _).alloc _
      have HT7 : Hid (Blk w7 w6.heap.size 34 [.int .i64 m, .slice A6 l4.length c6]) := Lib.hid (by rw [← hw7]; exact Blk.new w6 _ _)
      have HS7 := Lib.hid (HS6.out.kept hk67 (fun x => x))
      have HRA7 := Lib.hid (Rp.str.slice.keptNo HRA6.out hk67)
      have HRB7 := Lib.hid (Rp.str.slice.keptNo HRB6.out hk67)
      have HB7 := Lib.hid (HB6.out.kept hk67 (fun x => x))
      have HK7 := Lib.hid (HK6.out.trans' hk67)
      have HL7 := Lib.hid (Rp.str.slice.keptNo HL6.out hk67)
      obtain ⟨gb, hgb⟩ : ∃ gb, w6.heap.size = gb := ⟨_, rfl⟩
      rw [hw7, hgb]
      rw [hgb] at HT7
      clear hw7 hk67 hgb HB6 HK6 HL6 HRA6 HRB6
      have b0 : w7.cell? ⟨W.heap.size, 0, none⟩ = some (.int .i64 n) := HB7.out.cell rfl
      have b1 : w7.cell? ⟨W.heap.size, 1, none⟩ = some (.slice A l.length c) := HB7.out.cell rfl
      refine Reg.wp_region_plan [⟨0, false, []⟩, ⟨3, false, []⟩, ⟨1, true, [3]⟩, ⟨2, true, [3]⟩, ⟨4, true, []⟩, ⟨5, false, []⟩, ⟨6, false, []⟩, ⟨7, false, []⟩, ⟨8, false, []⟩, ⟨9, true, []⟩, ⟨10, false, []⟩, ⟨11, false, []⟩, ⟨12, false, []⟩, ⟨13, false, []⟩, ⟨14, false, []⟩, ⟨15, false, []⟩, ⟨16, false, []⟩, ⟨17, false, []⟩, ⟨18, false, []⟩, ⟨19, false, []⟩, ⟨20, false, []⟩, ⟨21, false, []⟩, ⟨22, false, []⟩, ⟨23, false, []⟩, ⟨24, false, []⟩] rfl (by kernel_rfl) ?_
      repeat (first | (refine Reg.look rfl rfl rfl (by go_simp; rfl) rfl ?_; go_simp) | (refine Reg.skip rfl rfl rfl ?_; go_simp))
      refine Reg.act rfl ?_
      go_wp2_with fail
      refine (h_own n l A c w7.drew _ (Rp.str.slice.keptNo HL7.out (Kp.refl _ _).drew) (by omega)).mono ?_
      rintro e w8 ⟨⟨A8, c8, rfl, ho8⟩, hk8⟩
      have hk8' : Kp No w7 w8 := (Kp.refl _ _).drew.trans' hk8
      have HO8 := Lib.hid ((ho8.str_any (fun _ => True)).read (fun _ _ => trivial))
      have HT8 := Lib.hid (HT7.out.kept hk8' (fun x => x))
      have HS8 := Lib.hid (HS7.out.kept hk8' (fun x => x))
      have HRA8 := Lib.hid (Rp.str.slice.keptNo HRA7.out hk8')
      have HRB8 := Lib.hid (Rp.str.slice.keptNo HRB7.out hk8')
      have HB8 := Lib.hid (HB7.out.kept hk8' (fun x => x))
      have HK8 := Lib.hid (HK7.out.trans' hk8')
      have HL8 := Lib.hid (Rp.str.slice.keptNo HL7.out hk8')
      clear ho8 hk8 hk8' b0 b1 HT7 HS7 HRA7 HRB7 HB7 HK7 HL7
      have b0 : w8.cell? ⟨W.heap.size, 0, none⟩ = some (.int .i64 n) := HB8.out.cell rfl
      have b1 : w8.cell? ⟨W.heap.size, 1, none⟩ = some (.slice A l.length c) := HB8.out.cell rfl
      go_wp2_with fail
      (refine ⟨?anew, ?_⟩; case anew => ((repeat (refine Reg.anew_cons rfl rfl (fun _ => by go_simp) ?_)); exact Reg.anew_nil))
      repeat (first | (refine Reg.look rfl rfl rfl (by go_simp; rfl) rfl ?_; go_simp) | (refine Reg.skip rfl rfl rfl ?_; go_simp))
      refine Reg.act rfl ?_
      obtain ⟨T, hT⟩ : ∃ T, bs (packB n l) = T := ⟨_, rfl⟩
      have hbn : ∀ s ∈ l, s.size ≤ 1048576 := fun s hs => by have := HTX.out.2 s hs; omega
      have hbl : (textsB l).length ≤ 1000000000 := by have := HTX.out.1; omega
      have hcpk := c_packS n l A8 c8 w8 _ HO8.out hnb.1 hnb.2 hbn hbl (by omega)
      have hrpk := fun w hl => r_packS n l A c w (fun k => k < W.heap.size) hl hnb.1 hnb.2 hbn hbl (by omega)
      rw [hT] at hcpk hrpk
      have HRK := Lib.hid hrpk
      clear hbn hbl hrpk hT
      go_wp2_with fail
      refine hcpk.mono ?_
      rintro e w9 ⟨rfl, hk9⟩
      have HT9 := Lib.hid (HT8.out.kept hk9 (fun x => x))
      have HS9 := Lib.hid (HS8.out.kept hk9 (fun x => x))
      have HRA9 := Lib.hid (Rp.str.slice.keptNo HRA8.out hk9)
      have HRB9 := Lib.hid (Rp.str.slice.keptNo HRB8.out hk9)
      have HB9 := Lib.hid (HB8.out.kept hk9 (fun x => x))
      have HK9 := Lib.hid (HK8.out.trans' hk9)
      have HL9 := Lib.hid (Rp.str.slice.keptNo HL8.out hk9)
      clear hcpk hk9 b0 b1 HO8 HT8 HS8 HRA8 HRB8 HB8 HK8 HL8
      have b0 : w9.cell? ⟨W.heap.size, 0, none⟩ = some (.int .i64 n) := HB9.out.cell rfl
      have b1 : w9.cell? ⟨W.heap.size, 1, none⟩ = some (.slice A l.length c) := HB9.out.cell rfl
      go_wp2_with fail
      (refine ⟨?anew, ?_⟩; case anew => ((repeat (refine Reg.anew_cons rfl rfl (fun _ => by go_simp) ?_)); exact Reg.anew_nil))
      repeat (first | (refine Reg.look rfl rfl rfl (by go_simp; rfl) rfl ?_; go_simp) | (refine Reg.skip rfl rfl rfl ?_; go_simp))
      refine Reg.act rfl ?_
      go_wp2_with fail
      refine (HRK.out w9 HL9.out).mono ?_
      rintro e w10 ⟨rfl, hk10⟩
      have HT10 := Lib.hid (HT9.out.kept hk10 (fun x => x))
      have HS10 := Lib.hid (HS9.out.kept hk10 (fun x => x))
      have HRA10 := Lib.hid (Rp.str.slice.keptNo HRA9.out hk10)
      have HRB10 := Lib.hid (Rp.str.slice.keptNo HRB9.out hk10)
      have HK10 := Lib.hid (HK9.out.trans' hk10)
      clear hk10 b0 b1 HT9 HS9 HRA9 HRB9 HB9 HK9 HL9 HRK
      have s0 : w10.cell? ⟨ga, 0, none⟩ = some (.int .i64 m) := HS10.out.cell rfl
      have s1 : w10.cell? ⟨ga, 1, none⟩ = some (.slice A4 l4.length c4) := HS10.out.cell rfl
      have t0 : w10.cell? ⟨gb, 0, none⟩ = some (.int .i64 m) := HT10.out.cell rfl
      have t1 : w10.cell? ⟨gb, 1, none⟩ = some (.slice A6 l4.length c6) := HT10.out.cell rfl
      have hTT : (T.toList == T.toList) = true := by rw [bytes_list_beq]; exact decide_eq_true rfl
      go_wp2_with fail
      (refine ⟨?anew, ?_⟩; case anew => ((repeat (refine Reg.anew_cons rfl rfl (fun _ => by go_simp) ?_)); exact Reg.anew_nil))
      repeat (first | (refine Reg.look rfl rfl rfl (by go_simp; rfl) rfl ?_; go_simp) | (refine Reg.skip rfl rfl rfl ?_; go_simp))
      refine Reg.act rfl ?_
      have hsame := r_sameS m m l4 l4 A4 A6 c4 c6 w10 _ _ HRA10.out HRB10.out
      rw [show decide (m = m ∧ l4 = l4) = true from by simp] at hsame
      go_wp2_with fail
      refine hsame.mono ?_
      rintro e w11 ⟨rfl, hk11⟩
      have HS11 := Lib.hid (HS10.out.kept hk11 (fun x => x))
      have HT11 := Lib.hid (HT10.out.kept hk11 (fun x => x))
      have HK11 := Lib.hid (HK10.out.trans' hk11)
      clear hk11 hsame s0 s1 t0 t1
      have s0 : w11.cell? ⟨ga, 0, none⟩ = some (.int .i64 m) := HS11.out.cell rfl
      have s1 : w11.cell? ⟨ga, 1, none⟩ = some (.slice A4 l4.length c4) := HS11.out.cell rfl
      have t0 : w11.cell? ⟨gb, 0, none⟩ = some (.int .i64 m) := HT11.out.cell rfl
      have t1 : w11.cell? ⟨gb, 1, none⟩ = some (.slice A6 l4.length c6) := HT11.out.cell rfl
      go_wp2_with fail
      (refine ⟨?anew, ?_⟩; case anew => ((repeat (refine Reg.anew_cons rfl rfl (fun _ => by go_simp) ?_)); exact Reg.anew_nil))
      repeat (first | (refine Reg.look rfl rfl rfl (by go_simp; rfl) rfl ?_; go_simp) | (refine Reg.skip rfl rfl rfl ?_; go_simp))
      (refine Reg.done ?_; simp only [Exit.then])
      go_wp2_with fail
      go_ret
      exact ⟨rfl, HK11.out⟩
    | some q =>
      refine hcp.mono ?_
      rintro e w4 ⟨ho4, hk4⟩
      obtain ⟨A4, c4, rfl, hr4⟩ := SheetOut.parts ho4
      obtain ⟨⟨m, l4⟩, hpr⟩ : ∃ p : Int × List ByteArray, p = q := ⟨_, rfl⟩
      simp only [Option.getD_some, ← hpr] at hr4
      simp only [Option.getD_some, ← hpr, Option.isSome_some, if_true]
      have HPR := Lib.hid hpr
      have HR4 := Lib.hid hr4
      have HB4 := Lib.hid (HB3.out.kept hk4 (fun x => x))
      have HK4 := Lib.hid (HK3.out.trans' hk4)
      have HL4 := Lib.hid (Rp.str.slice.keptNo HL3.out hk4)
      clear hpr hr4 hk4 ho4 hcp
      go_wp2_with fail
      obtain ⟨w5, hw5⟩ : ∃ w5, w4.alloc (.cells #[.int .i64 m, .slice A4 l4.length c4] 34) = w5 := ⟨_, rfl⟩
      have hk45 : Kp No w4 w5 := by rw [← hw5]; exact (Kp.refl _ _).alloc _
      have HS5 : Hid (Blk w5 w4.heap.size 34 [.int .i64 m, .slice A4 l4.length c4]) := Lib.hid (by rw [← hw5]; exact Blk.new w4 _ _)
      have HR5 := Lib.hid (Rp.str.slice.keptNo HR4.out hk45)
      have HB5 := Lib.hid (HB4.out.kept hk45 (fun x => x))
      have HK5 := Lib.hid (HK4.out.trans' hk45)
      have HL5 := Lib.hid (Rp.str.slice.keptNo HL4.out hk45)
      obtain ⟨ga, hga⟩ : ∃ ga, w4.heap.size = ga := ⟨_, rfl⟩
      rw [hw5, hga]
      rw [hga] at HS5
      clear hw5 hk45 hga HB4 HK4 HL4 HR4
      refine (HRP.out w5).mono ?_
      rintro e w6 ⟨ho6, hk6⟩
      obtain ⟨A6, c6, rfl, hr6⟩ := SheetOut.parts ho6
      simp only [Option.getD_some, ← HPR.out] at hr6
      simp only [Option.getD_some, ← HPR.out, Option.isSome_some, if_true]
      have HS6 := Lib.hid (HS5.out.kept hk6 (fun x => x))
      have HRA6 := Lib.hid (Rp.str.slice.keptNo HR5.out hk6)
      have HRB6 := Lib.hid hr6
      have HB6 := Lib.hid (HB5.out.kept hk6 (fun x => x))
      have HK6 := Lib.hid (HK5.out.trans' hk6)
      have HL6 := Lib.hid (Rp.str.slice.keptNo HL5.out hk6)
      clear hr6 hk6 ho6 HRP
      go_wp2_with fail
      obtain ⟨w7, hw7⟩ : ∃ w7, w6.alloc (.cells #[.int .i64 m, .slice A6 l4.length c6] 34) = w7 := ⟨_, rfl⟩
      have hk67 : Kp No w6 w7 := by rw [← hw7]; exact (Kp.refl _ _).alloc _
      have HT7 : Hid (Blk w7 w6.heap.size 34 [.int .i64 m, .slice A6 l4.length c6]) := Lib.hid (by rw [← hw7]; exact Blk.new w6 _ _)
      have HS7 := Lib.hid (HS6.out.kept hk67 (fun x => x))
      have HRA7 := Lib.hid (Rp.str.slice.keptNo HRA6.out hk67)
      have HRB7 := Lib.hid (Rp.str.slice.keptNo HRB6.out hk67)
      have HB7 := Lib.hid (HB6.out.kept hk67 (fun x => x))
      have HK7 := Lib.hid (HK6.out.trans' hk67)
      have HL7 := Lib.hid (Rp.str.slice.keptNo HL6.out hk67)
      obtain ⟨gb, hgb⟩ : ∃ gb, w6.heap.size = gb := ⟨_, rfl⟩
      rw [hw7, hgb]
      rw [hgb] at HT7
      clear hw7 hk67 hgb HB6 HK6 HL6 HRA6 HRB6
      have b0 : w7.cell? ⟨W.heap.size, 0, none⟩ = some (.int .i64 n) := HB7.out.cell rfl
      have b1 : w7.cell? ⟨W.heap.size, 1, none⟩ = some (.slice A l.length c) := HB7.out.cell rfl
      refine Reg.wp_region_plan [⟨0, false, []⟩, ⟨3, false, []⟩, ⟨1, true, [3]⟩, ⟨2, true, [3]⟩, ⟨4, true, []⟩, ⟨5, false, []⟩, ⟨6, false, []⟩, ⟨7, false, []⟩, ⟨8, false, []⟩, ⟨9, true, []⟩, ⟨10, false, []⟩, ⟨11, false, []⟩, ⟨12, false, []⟩, ⟨13, false, []⟩, ⟨14, false, []⟩, ⟨15, false, []⟩, ⟨16, false, []⟩, ⟨17, false, []⟩, ⟨18, false, []⟩, ⟨19, false, []⟩, ⟨20, false, []⟩, ⟨21, false, []⟩, ⟨22, false, []⟩, ⟨23, false, []⟩, ⟨24, false, []⟩] rfl (by kernel_rfl) ?_
      repeat (first | (refine Reg.look rfl rfl rfl (by go_simp; rfl) rfl ?_; go_simp) | (refine Reg.skip rfl rfl rfl ?_; go_simp))
      refine Reg.act rfl ?_
      go_wp2_with fail
      refine (h_own n l A c w7.drew _ (Rp.str.slice.keptNo HL7.out (Kp.refl _ _).drew) (by omega)).mono ?_
      rintro e w8 ⟨⟨A8, c8, rfl, ho8⟩, hk8⟩
      have hk8' : Kp No w7 w8 := (Kp.refl _ _).drew.trans' hk8
      have HO8 := Lib.hid ((ho8.str_any (fun _ => True)).read (fun _ _ => trivial))
      have HT8 := Lib.hid (HT7.out.kept hk8' (fun x => x))
      have HS8 := Lib.hid (HS7.out.kept hk8' (fun x => x))
      have HRA8 := Lib.hid (Rp.str.slice.keptNo HRA7.out hk8')
      have HRB8 := Lib.hid (Rp.str.slice.keptNo HRB7.out hk8')
      have HB8 := Lib.hid (HB7.out.kept hk8' (fun x => x))
      have HK8 := Lib.hid (HK7.out.trans' hk8')
      have HL8 := Lib.hid (Rp.str.slice.keptNo HL7.out hk8')
      clear ho8 hk8 hk8' b0 b1 HT7 HS7 HRA7 HRB7 HB7 HK7 HL7
      have b0 : w8.cell? ⟨W.heap.size, 0, none⟩ = some (.int .i64 n) := HB8.out.cell rfl
      have b1 : w8.cell? ⟨W.heap.size, 1, none⟩ = some (.slice A l.length c) := HB8.out.cell rfl
      go_wp2_with fail
      (refine ⟨?anew, ?_⟩; case anew => ((repeat (refine Reg.anew_cons rfl rfl (fun _ => by go_simp) ?_)); exact Reg.anew_nil))
      repeat (first | (refine Reg.look rfl rfl rfl (by go_simp; rfl) rfl ?_; go_simp) | (refine Reg.skip rfl rfl rfl ?_; go_simp))
      refine Reg.act rfl ?_
      obtain ⟨T, hT⟩ : ∃ T, bs (packB n l) = T := ⟨_, rfl⟩
      have hbn : ∀ s ∈ l, s.size ≤ 1048576 := fun s hs => by have := HTX.out.2 s hs; omega
      have hbl : (textsB l).length ≤ 1000000000 := by have := HTX.out.1; omega
      have hcpk := c_packS n l A8 c8 w8 _ HO8.out hnb.1 hnb.2 hbn hbl (by omega)
      have hrpk := fun w hl => r_packS n l A c w (fun k => k < W.heap.size) hl hnb.1 hnb.2 hbn hbl (by omega)
      rw [hT] at hcpk hrpk
      have HRK := Lib.hid hrpk
      clear hbn hbl hrpk hT
      go_wp2_with fail
      refine hcpk.mono ?_
      rintro e w9 ⟨rfl, hk9⟩
      have HT9 := Lib.hid (HT8.out.kept hk9 (fun x => x))
      have HS9 := Lib.hid (HS8.out.kept hk9 (fun x => x))
      have HRA9 := Lib.hid (Rp.str.slice.keptNo HRA8.out hk9)
      have HRB9 := Lib.hid (Rp.str.slice.keptNo HRB8.out hk9)
      have HB9 := Lib.hid (HB8.out.kept hk9 (fun x => x))
      have HK9 := Lib.hid (HK8.out.trans' hk9)
      have HL9 := Lib.hid (Rp.str.slice.keptNo HL8.out hk9)
      clear hcpk hk9 b0 b1 HO8 HT8 HS8 HRA8 HRB8 HB8 HK8 HL8
      have b0 : w9.cell? ⟨W.heap.size, 0, none⟩ = some (.int .i64 n) := HB9.out.cell rfl
      have b1 : w9.cell? ⟨W.heap.size, 1, none⟩ = some (.slice A l.length c) := HB9.out.cell rfl
      go_wp2_with fail
      (refine ⟨?anew, ?_⟩; case anew => ((repeat (refine Reg.anew_cons rfl rfl (fun _ => by go_simp) ?_)); exact Reg.anew_nil))
      repeat (first | (refine Reg.look rfl rfl rfl (by go_simp; rfl) rfl ?_; go_simp) | (refine Reg.skip rfl rfl rfl ?_; go_simp))
      refine Reg.act rfl ?_
      go_wp2_with fail
      refine (HRK.out w9 HL9.out).mono ?_
      rintro e w10 ⟨rfl, hk10⟩
      have HT10 := Lib.hid (HT9.out.kept hk10 (fun x => x))
      have HS10 := Lib.hid (HS9.out.kept hk10 (fun x => x))
      have HRA10 := Lib.hid (Rp.str.slice.keptNo HRA9.out hk10)
      have HRB10 := Lib.hid (Rp.str.slice.keptNo HRB9.out hk10)
      have HK10 := Lib.hid (HK9.out.trans' hk10)
      clear hk10 b0 b1 HT9 HS9 HRA9 HRB9 HB9 HK9 HL9 HRK
      have s0 : w10.cell? ⟨ga, 0, none⟩ = some (.int .i64 m) := HS10.out.cell rfl
      have s1 : w10.cell? ⟨ga, 1, none⟩ = some (.slice A4 l4.length c4) := HS10.out.cell rfl
      have t0 : w10.cell? ⟨gb, 0, none⟩ = some (.int .i64 m) := HT10.out.cell rfl
      have t1 : w10.cell? ⟨gb, 1, none⟩ = some (.slice A6 l4.length c6) := HT10.out.cell rfl
      have hTT : (T.toList == T.toList) = true := by rw [bytes_list_beq]; exact decide_eq_true rfl
      go_wp2_with fail
      (refine ⟨?anew, ?_⟩; case anew => ((repeat (refine Reg.anew_cons rfl rfl (fun _ => by go_simp) ?_)); exact Reg.anew_nil))
      repeat (first | (refine Reg.look rfl rfl rfl (by go_simp; rfl) rfl ?_; go_simp) | (refine Reg.skip rfl rfl rfl ?_; go_simp))
      refine Reg.act rfl ?_
      have hsame := r_sameS m m l4 l4 A4 A6 c4 c6 w10 _ _ HRA10.out HRB10.out
      rw [show decide (m = m ∧ l4 = l4) = true from by simp] at hsame
      go_wp2_with fail
      refine hsame.mono ?_
      rintro e w11 ⟨rfl, hk11⟩
      have HS11 := Lib.hid (HS10.out.kept hk11 (fun x => x))
      have HT11 := Lib.hid (HT10.out.kept hk11 (fun x => x))
      have HK11 := Lib.hid (HK10.out.trans' hk11)
      clear hk11 hsame s0 s1 t0 t1
      have s0 : w11.cell? ⟨ga, 0, none⟩ = some (.int .i64 m) := HS11.out.cell rfl
      have s1 : w11.cell? ⟨ga, 1, none⟩ = some (.slice A4 l4.length c4) := HS11.out.cell rfl
      have t0 : w11.cell? ⟨gb, 0, none⟩ = some (.int .i64 m) := HT11.out.cell rfl
      have t1 : w11.cell? ⟨gb, 1, none⟩ = some (.slice A6 l4.length c6) := HT11.out.cell rfl
      go_wp2_with fail
      (refine ⟨?anew, ?_⟩; case anew => ((repeat (refine Reg.anew_cons rfl rfl (fun _ => by go_simp) ?_)); exact Reg.anew_nil))
      repeat (first | (refine Reg.look rfl rfl rfl (by go_simp; rfl) rfl ?_; go_simp) | (refine Reg.skip rfl rfl rfl ?_; go_simp))
      (refine Reg.done ?_; simp only [Exit.then])
      go_wp2_with fail
      go_ret
      exact ⟨rfl, HK11.out⟩
theorem sheetParses_holds : Rows.SheetParsesUptoSaid := sheetParsesUpto_of sheetParses_walk
#print axioms sheetParses_holds
end Go.Proofs.Ytejmbbnndagejaa
