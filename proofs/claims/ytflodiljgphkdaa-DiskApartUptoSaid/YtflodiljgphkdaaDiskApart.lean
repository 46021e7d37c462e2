/-
  A copy has what the drive has, and what is done with one is nothing to the other: DiskApart answers true for every input of bulk at most 1048576. (Said is false BY SIZE.)
-/
import Derived.Test.YtflodiljgphkdaaPlay5
import Derived.Test.YtflodiljgphkdaaFDiskApart
namespace Go.Proofs.Ytflodiljgphkdaa
open Go.RowKit Go.ChangeShapes Go.WideShapes Go.ChangeAt

set_option maxRecDepth 100000 in
set_option maxHeartbeats 4000000 in
theorem diskApart_walk : DiskApartUptoWalk := by
  intro W v0 l v1 m h0 h1 hμ
  obtain ⟨A, c, hv0, _⟩ := id h0
  obtain ⟨A1, c1, hv1, _⟩ := id h1
  simp only [List.cons.injEq, and_true] at hv0 hv1
  subst hv0 hv1
  have hμ0 : Rp.op.slice.μ l + Rp.op.slice.μ m ≤ 1048576 := hμ
  have HMU : Hid (Rp.op.slice.μ l ≤ 1048576) := Lib.hid (by omega)
  have HMM : Hid (Rp.op.slice.μ m ≤ 1048576) := Lib.hid (by omega)
  have HL := Lib.hid h0
  have HM := Lib.hid h1
  clear hμ hμ0 h0 h1
  go_enter Try.func7, Try.ntmps7
  go_wp2_with fail
  refine (awake05 W).mono ?_
  rintro e w1 ⟨rfl, hk1⟩
  have HK := Lib.hid hk1
  clear hk1
  go_wp2_with fail
  have hg := h_great5 l A c w1 _ (Rp.op.slice.keptNo HL.out HK.out) HMU.out
  obtain ⟨B, hB⟩ : ∃ B, (greatB l 0 || decide (200 < l.length)) = B := ⟨_, rfl⟩
  rw [hB] at hg
  have HB := Lib.hid hB
  clear hB
  refine hg.mono ?_
  rintro e w2 ⟨rfl, hk2⟩
  have HK := Lib.hid (HK.out.trans' hk2)
  clear hk2 hg
  cases B with
  | true =>
    go_wp2_with fail
    refine (awake05 _).mono ?_
    rintro e wz ⟨rfl, hkz⟩
    have HKZ := Lib.hid (HK.out.trans' hkz)
    clear hkz
    go_wp2_with fail
    go_ret
    exact ⟨rfl, HKZ.out⟩
  | false =>
    have hgb : greatB l 0 = false ∧ l.length ≤ 200 := by have := HB.out; simp at this; exact this
    have HSZ := Lib.hid (greatB_sizes hgb.1)
    have hll := hgb.2
    clear hgb HB
    go_wp2_with fail
    have hg := h_great5 m A1 c1 w2 _ (Rp.op.slice.keptNo HM.out HK.out) HMM.out
    obtain ⟨B, hB⟩ : ∃ B, (greatB m 0 || decide (200 < m.length)) = B := ⟨_, rfl⟩
    rw [hB] at hg
    have HB := Lib.hid hB
    clear hB
    refine hg.mono ?_
    rintro e w3 ⟨rfl, hk3⟩
    have HK := Lib.hid (HK.out.trans' hk3)
    clear hk3 hg
    cases B with
    | true =>
      go_wp2_with fail
      refine (awake05 _).mono ?_
      rintro e wz ⟨rfl, hkz⟩
      have HKZ := Lib.hid (HK.out.trans' hkz)
      clear hkz
      go_wp2_with fail
      go_ret
      exact ⟨rfl, HKZ.out⟩
    | false =>
      have hgb : greatB m 0 = false ∧ m.length ≤ 200 := by have := HB.out; simp at this; exact this
      have HSM := Lib.hid (greatB_sizes hgb.1)
      have hml := hgb.2
      clear hgb HB
      go_wp2_with fail
      refine (n_new w3).mono ?_
      rintro e w4 ⟨d, rfl, hd, _⟩
      have HD := Lib.hid (hd.mono HK.out)
      clear hd
      go_wp2_with fail
      refine (m_new w4).mono ?_
      rintro e w5 ⟨r, rfl, hr, hk5⟩
      have HR := Lib.hid (hr.mono HD.out.kp)
      have HD := Lib.hid (HD.out.kept hk5)
      clear hr hk5
      go_wp2_with fail
      go_loopw [28] (fun iv wr => ∃ (i : Nat) (x : DV), i ≤ l.length ∧ iv = .int .i64 (i : Int) ∧ DNew W wr d x ∧ RNew W wr r x ∧ x.files.length ≤ i + 0) (fun iv _ => l.length - (intOf iv).toNat)
      case atStart => exact ⟨0, newD, Nat.zero_le _, rfl, HD.out, HR.out, Nat.le_refl _⟩
      case round =>
        obtain ⟨i, x, hi, rfl, hd, hr, hfl⟩ := hrel
        have HD := Lib.hid hd
        have HR := Lib.hid hr
        have HF := Lib.hid hfl
        have hfi : x.files.length ≤ 200 := by omega
        clear hd hr hfl
        by_cases hlt : i < l.length
        · skip
          have hli : (i : Int) < (l.length : Int) := by omega
          obtain ⟨o, ho⟩ : ∃ o, l[i]? = some o := ⟨_, List.getElem?_eq_getElem hlt⟩
          have hso := HSZ.out o (List.mem_of_getElem? ho)
          obtain ⟨ad, A', c', rfl, hcell, hwf, hks⟩ := Rp.at_op (Rp.op.slice.keptNo HL.out ((Kp.refl No W).trans' HD.out.kp)) ho
          have z0 : wr.cell? (ad.add (i * 5)) = some _ := hcell 0 _ rfl
          have z1 : wr.cell? ⟨(ad.add (i * 5)).block, (ad.add (i * 5)).off + 1, none⟩ = some _ := hcell 1 _ rfl
          have z2 : wr.cell? ⟨(ad.add (i * 5)).block, (ad.add (i * 5)).off + 2, none⟩ = some _ := hcell 2 _ rfl
          have z3 : wr.cell? ⟨(ad.add (i * 5)).block, (ad.add (i * 5)).off + 3, none⟩ = some _ := hcell 3 _ rfl
          have z4 : wr.cell? ⟨(ad.add (i * 5)).block, (ad.add (i * 5)).off + 4, none⟩ = some _ := hcell 4 _ rfl
          have hk4 : Kp No wr (wr.alloc (.cells #[.int .i64 o.kind, .string o.name, .string o.data, .int .i64 o.n, .slice A' o.keeps.length c'] 37)) := (Kp.refl _ _).alloc _
          have HB4 := Lib.hid (Blk.new wr [.int .i64 o.kind, .string o.name, .string o.data, .int .i64 o.n, .slice A' o.keeps.length c'] 37)
          have HD4 := Lib.hid (HD.out.kept hk4)
          have HR4 := Lib.hid (HR.out.kept hk4)
          have HKS := Lib.hid hks
          have HWF := Lib.hid hwf
          have HSO := Lib.hid hso
          clear hcell hwf hks hso hk4 ho
          by_cases h7 : o.kind < 7
          · go_wp2_with fail
            have hc := n_did HD4.out o A' c' _ (Rp.old _ HKS.out ((Kp.refl No W).trans' HD.out.kp) ((Kp.refl No W).trans' HD4.out.kp)) HWF.out (by omega) (by omega) (by have := HSO.out; unfold sizeO at this; omega)
            obtain ⟨Z, hZ⟩ : ∃ Z, doD o x = Z := ⟨_, rfl⟩
            rw [hZ] at hc
            have HZ := Lib.hid hZ
            have hfl : Z.2.files.length ≤ i + 1 + 0 := by rw [← hZ]; have := doD_files o x; have := HF.out; omega
            unfold opAgg at hc
            clear hZ
            refine hc.mono ?_
            rintro e w5 ⟨rfl, hd5, ht5⟩
            have HD5 := Lib.hid hd5
            have HR5 := Lib.hid (HR4.out.keptT ht5 hd5.kp)
            have hb5 := ht5.blk HB4.out (by decide) (by decide) (by decide)
            have y0 : w5.cell? ⟨wr.heap.size, 0, none⟩ = some (.int .i64 o.kind) := hb5.cell rfl
            have y1 : w5.cell? ⟨wr.heap.size, 1, none⟩ = some (.string o.name) := hb5.cell rfl
            have y2 : w5.cell? ⟨wr.heap.size, 2, none⟩ = some (.string o.data) := hb5.cell rfl
            have y3 : w5.cell? ⟨wr.heap.size, 3, none⟩ = some (.int .i64 o.n) := hb5.cell rfl
            have y4 : w5.cell? ⟨wr.heap.size, 4, none⟩ = some (.slice A' o.keeps.length c') := hb5.cell rfl
            clear hc hd5 ht5 hb5 z0 z1 z2 z3 z4
            go_wp2_with fail
            have hm := m_want HR5.out o A' c' _ (Rp.old _ HKS.out ((Kp.refl No W).trans' HD.out.kp) ((Kp.refl No W).trans' HD5.out.kp)) (fun _ h => Nat.lt_of_lt_of_le h ((Kp.refl No W)).size) HWF.out (by omega) (by have := HSO.out; unfold sizeO at this; unfold maxLen; omega)
            rw [HZ.out] at hm
            unfold opAgg at hm
            refine hm.mono ?_
            rintro e w6 ⟨rfl, hr6, hkd⟩
            have HR6 := Lib.hid hr6
            have HD6 := Lib.hid (hkd _ _ HD5.out)
            clear hm hr6 hkd y0 y1 y2 y3 y4
            go_wp2_with fail
            go_roundw
            case rel => exact ⟨i + 1, Z.2, by omega, by go_num, HD6.out, HR6.out, hfl⟩
            case measure => simp [intOf]; omega
          · go_wp2_with fail
            go_roundw
            case rel => exact ⟨i + 1, x, by omega, by go_num, HD4.out, HR4.out, by have := HF.out; omega⟩
            case measure => simp [intOf]; omega
        · obtain rfl : i = l.length := by omega
          go_wp2_with fail
          refine (n_copy HD.out).mono ?_
          rintro e w6 ⟨c6, rfl, hc6⟩
          have HC6 := Lib.hid hc6
          have HR6 := Lib.hid (HR.out.kept hc6.kp)
          clear hc6
          go_wp2_with fail
          refine (m_copy w6 HR6.out (by omega)).mono ?_
          rintro e w7 ⟨r7, rfl, hr7⟩
          have HC7 := Lib.hid (HC6.out.kept hr7.kp)
          have HQ7 := Lib.hid (hr7.mono HC6.out.kp)
          have HDW := Lib.hid HD.out
          have HRW := Lib.hid HR.out
          have HKW := Lib.hid HD.out.kp
          clear hr7 HD HR HF
          obtain ⟨w8, hw8⟩ : ∃ w8, wr = w8 := ⟨_, rfl⟩
          rw [hw8] at HC7 HQ7 HDW HRW HKW
          clear hw8
          go_wp2_with fail
          go_loopw [48] (fun iv wr => ∃ (i : Nat) (x : DV), i ≤ m.length ∧ iv = .int .i64 (i : Int) ∧ DNew w8 wr c6 x ∧ RNew w8 wr r7 x ∧ x.files.length ≤ i + 200) (fun iv _ => m.length - (intOf iv).toNat)
          case atStart => exact ⟨0, x, Nat.zero_le _, rfl, HC7.out, HQ7.out, by omega⟩
          case round =>
            obtain ⟨i, x, hi, rfl, hd, hr, hfl⟩ := hrel
            have HD := Lib.hid hd
            have HR := Lib.hid hr
            have HF := Lib.hid hfl
            have hfi : x.files.length ≤ 400 := by omega
            clear hd hr hfl
            by_cases hlt : i < m.length
            · skip
              have hli : (i : Int) < (m.length : Int) := by omega
              obtain ⟨o, ho⟩ : ∃ o, m[i]? = some o := ⟨_, List.getElem?_eq_getElem hlt⟩
              have hso := HSM.out o (List.mem_of_getElem? ho)
              obtain ⟨ad, A', c', rfl, hcell, hwf, hks⟩ := Rp.at_op (Rp.op.slice.keptNo HM.out (HKW.out.trans' HD.out.kp)) ho
              have z0 : wr.cell? (ad.add (i * 5)) = some _ := hcell 0 _ rfl
              have z1 : wr.cell? ⟨(ad.add (i * 5)).block, (ad.add (i * 5)).off + 1, none⟩ = some _ := hcell 1 _ rfl
              have z2 : wr.cell? ⟨(ad.add (i * 5)).block, (ad.add (i * 5)).off + 2, none⟩ = some _ := hcell 2 _ rfl
              have z3 : wr.cell? ⟨(ad.add (i * 5)).block, (ad.add (i * 5)).off + 3, none⟩ = some _ := hcell 3 _ rfl
              have z4 : wr.cell? ⟨(ad.add (i * 5)).block, (ad.add (i * 5)).off + 4, none⟩ = some _ := hcell 4 _ rfl
              have hk4 : Kp No wr (wr.alloc (.cells #[.int .i64 o.kind, .string o.name, .string o.data, .int .i64 o.n, .slice A' o.keeps.length c'] 37)) := (Kp.refl _ _).alloc _
              have HB4 := Lib.hid (Blk.new wr [.int .i64 o.kind, .string o.name, .string o.data, .int .i64 o.n, .slice A' o.keeps.length c'] 37)
              have HD4 := Lib.hid (HD.out.kept hk4)
              have HR4 := Lib.hid (HR.out.kept hk4)
              have HKS := Lib.hid hks
              have HWF := Lib.hid hwf
              have HSO := Lib.hid hso
              clear hcell hwf hks hso hk4 ho
              by_cases h7 : o.kind < 7
              · go_wp2_with fail
                have hc := n_did HD4.out o A' c' _ (Rp.old _ HKS.out (HKW.out.trans' HD.out.kp) (HKW.out.trans' HD4.out.kp)) HWF.out (by omega) (by omega) (by have := HSO.out; unfold sizeO at this; omega)
                obtain ⟨Z, hZ⟩ : ∃ Z, doD o x = Z := ⟨_, rfl⟩
                rw [hZ] at hc
                have HZ := Lib.hid hZ
                have hfl : Z.2.files.length ≤ i + 1 + 200 := by rw [← hZ]; have := doD_files o x; have := HF.out; omega
                unfold opAgg at hc
                clear hZ
                refine hc.mono ?_
                rintro e w5 ⟨rfl, hd5, ht5⟩
                have HD5 := Lib.hid hd5
                have HR5 := Lib.hid (HR4.out.keptT ht5 hd5.kp)
                have hb5 := ht5.blk HB4.out (by decide) (by decide) (by decide)
                have y0 : w5.cell? ⟨wr.heap.size, 0, none⟩ = some (.int .i64 o.kind) := hb5.cell rfl
                have y1 : w5.cell? ⟨wr.heap.size, 1, none⟩ = some (.string o.name) := hb5.cell rfl
                have y2 : w5.cell? ⟨wr.heap.size, 2, none⟩ = some (.string o.data) := hb5.cell rfl
                have y3 : w5.cell? ⟨wr.heap.size, 3, none⟩ = some (.int .i64 o.n) := hb5.cell rfl
                have y4 : w5.cell? ⟨wr.heap.size, 4, none⟩ = some (.slice A' o.keeps.length c') := hb5.cell rfl
                clear hc hd5 ht5 hb5 z0 z1 z2 z3 z4
                go_wp2_with fail
                have hm := m_want HR5.out o A' c' _ (Rp.old _ HKS.out (HKW.out.trans' HD.out.kp) (HKW.out.trans' HD5.out.kp)) (fun _ h => Nat.lt_of_lt_of_le h (HKW.out).size) HWF.out (by omega) (by have := HSO.out; unfold sizeO at this; unfold maxLen; omega)
                rw [HZ.out] at hm
                unfold opAgg at hm
                refine hm.mono ?_
                rintro e w6 ⟨rfl, hr6, hkd⟩
                have HR6 := Lib.hid hr6
                have HD6 := Lib.hid (hkd _ _ HD5.out)
                clear hm hr6 hkd y0 y1 y2 y3 y4
                go_wp2_with fail
                go_roundw
                case rel => exact ⟨i + 1, Z.2, by omega, by go_num, HD6.out, HR6.out, hfl⟩
                case measure => simp [intOf]; omega
              · go_wp2_with fail
                go_roundw
                case rel => exact ⟨i + 1, x, by omega, by go_num, HD4.out, HR4.out, by have := HF.out; omega⟩
                case measure => simp [intOf]; omega
            · obtain rfl : i = m.length := by omega
              have HD9 := Lib.hid (HDW.out.kept HD.out.kp)
              have HR9 := Lib.hid (HRW.out.kept HD.out.kp)
              go_wp2_with fail
              refine (h_alike HD9.out HR9.out (by omega)).mono ?_
              rintro e w10 ⟨rfl, hk10⟩
              have HD10 := Lib.hid (HD.out.kept hk10)
              have HR10 := Lib.hid (HR.out.kept hk10)
              clear hk10
              go_wp2_with fail
              refine (h_alike HD10.out HR10.out (by have := HF.out; omega)).mono ?_
              rintro e w11 ⟨rfl, hk11⟩
              have HK11 := Lib.hid (HKW.out.trans' (HD10.out.kp.trans' hk11))
              clear hk11
              go_wp2_with fail
              go_ret
              exact ⟨rfl, HK11.out⟩
theorem diskApart_holds : Rows.DiskApartUptoSaid := diskApartUpto_of diskApart_walk
#print axioms diskApart_holds
end Go.Proofs.Ytflodiljgphkdaa
