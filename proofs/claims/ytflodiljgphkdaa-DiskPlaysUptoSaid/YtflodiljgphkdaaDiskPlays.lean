/-
  In every order of calls a drive answers as the document's does: DiskPlays answers true for every input of bulk at most 1048576. (Said is false BY SIZE.)
-/
import Derived.Test.YtflodiljgphkdaaPlay5
import Derived.Test.YtflodiljgphkdaaFDiskPlays
namespace Go.Proofs.Ytflodiljgphkdaa
open Go.RowKit Go.ChangeShapes Go.WideShapes Go.ChangeAt

set_option maxRecDepth 100000 in
set_option maxHeartbeats 4000000 in
theorem diskPlays_walk : DiskPlaysUptoWalk := by
  intro W v0 l v1 nm h0 h1 hμ
  obtain ⟨A, c, hv0, hlc, hcm, _⟩ := id h0
  obtain ⟨hv1, _⟩ := h1
  simp only [List.cons.injEq, and_true] at hv0 hv1
  subst hv0 hv1
  have hμ1 : Rp.op.slice.μ l ≤ 1048576 := by have : Rp.op.slice.μ l + Rp.str.μ nm ≤ 1048576 := hμ; omega
  have HMU := Lib.hid hμ1
  have HL := Lib.hid h0
  clear hμ hμ1 h0 hlc hcm
  go_enter Try.func5, Try.ntmps5
  go_wp2_with fail
  refine (awake05 W).mono ?_
  rintro e w1 ⟨rfl, hk1⟩
  have HK := Lib.hid hk1
  clear hk1
  go_wp2_with fail
  have hg := h_great5 l A c w1 _ (Rp.op.slice.keptNo HL.out HK.out) HMU.out
  obtain ⟨B, hB⟩ : ∃ B, (greatB l 0 || decide (200 < l.length)) = B := ⟨_, rfl⟩
  rw [hB] at hg
  have HB := Lib.hid hB
  clear hB
  refine hg.mono ?_
  rintro e w2 ⟨rfl, hk2⟩
  have HK := Lib.hid (HK.out.trans' hk2)
  clear hk2 hg
  cases B with
  | true =>
    go_wp2_with fail
    refine (awake05 _).mono ?_
    rintro e wz ⟨rfl, hkz⟩
    have HKZ := Lib.hid (HK.out.trans' hkz)
    clear hkz
    go_wp2_with fail
    go_ret
    exact ⟨rfl, HKZ.out⟩
  | false =>
    have hgb : greatB l 0 = false ∧ l.length ≤ 200 := by have := HB.out; simp at this; exact this
    have HSZ := Lib.hid (greatB_sizes hgb.1)
    have hll := hgb.2
    clear hgb HB
    by_cases hn2 : (200 : Int) < (nm.size : Int)
    · go_wp2_with fail
      refine (awake05 _).mono ?_
      rintro e wz ⟨rfl, hkz⟩
      have HKZ := Lib.hid (HK.out.trans' hkz)
      clear hkz
      go_wp2_with fail
      go_ret
      exact ⟨rfl, HKZ.out⟩
    go_wp2_with fail
    refine (n_new w2).mono ?_
    rintro e w3 ⟨d, rfl, hd, _⟩
    have HD := Lib.hid (hd.mono HK.out)
    clear hd
    go_wp2_with fail
    refine (m_new w3).mono ?_
    rintro e w4 ⟨r, rfl, hr, hk4⟩
    have HR := Lib.hid (hr.mono HD.out.kp)
    have HD := Lib.hid (HD.out.kept hk4)
    clear hr hk4
    go_wp2_with fail
    go_loopw [5, 31] (fun dv iv wr => ∃ (i d : Nat) (x : DV), i ≤ l.length ∧ iv = .int .i64 (i : Int) ∧ dv = .pointer (some ⟨d, 0, none⟩) ∧ DNew W wr d x ∧ RNew W wr r x ∧ x.files.length ≤ i) (fun _ iv _ => l.length - (intOf iv).toNat)
    case atStart => exact ⟨0, d, newD, Nat.zero_le _, rfl, rfl, HD.out, HR.out, Nat.le_refl _⟩
    case round =>
      obtain ⟨i, d, x, hi, rfl, rfl, hd, hr, hfl⟩ := hrel
      have HD := Lib.hid hd
      have HR := Lib.hid hr
      have HF := Lib.hid hfl
      clear hd hr hfl
      by_cases hlt : i < l.length
      · have hli : (i : Int) < (l.length : Int) := by omega
        obtain ⟨o, ho⟩ : ∃ o, l[i]? = some o := ⟨_, List.getElem?_eq_getElem hlt⟩
        have hso := HSZ.out o (List.mem_of_getElem? ho)
        obtain ⟨ad, A', c', rfl, hcell, hwf, hks⟩ := Rp.at_op (Rp.op.slice.keptNo HL.out HD.out.kp) ho
        have z0 : wr.cell? (ad.add (i * 5)) = some _ := hcell 0 _ rfl
        have z1 : wr.cell? ⟨(ad.add (i * 5)).block, (ad.add (i * 5)).off + 1, none⟩ = some _ := hcell 1 _ rfl
        have z2 : wr.cell? ⟨(ad.add (i * 5)).block, (ad.add (i * 5)).off + 2, none⟩ = some _ := hcell 2 _ rfl
        have z3 : wr.cell? ⟨(ad.add (i * 5)).block, (ad.add (i * 5)).off + 3, none⟩ = some _ := hcell 3 _ rfl
        have z4 : wr.cell? ⟨(ad.add (i * 5)).block, (ad.add (i * 5)).off + 4, none⟩ = some _ := hcell 4 _ rfl
        have hk4 : Kp No wr (wr.alloc (.cells #[.int .i64 o.kind, .string o.name, .string o.data, .int .i64 o.n, .slice A' o.keeps.length c'] 37)) := (Kp.refl _ _).alloc _
        have HB4 := Lib.hid (Blk.new wr [.int .i64 o.kind, .string o.name, .string o.data, .int .i64 o.n, .slice A' o.keeps.length c'] 37)
        have HD4 := Lib.hid (HD.out.kept hk4)
        have HR4 := Lib.hid (HR.out.kept hk4)
        have HKS := Lib.hid hks
        have HWF := Lib.hid hwf
        have HSO := Lib.hid hso
        have hfi : x.files.length ≤ 200 := by have := HF.out; omega
        clear hcell hwf hks hso hk4 ho
        go_wp2_with fail
        have hc := n_didA HD4.out o A' c' _ (Rp.old _ HKS.out HD.out.kp HD4.out.kp) HWF.out (by omega) (by have := HSO.out; unfold sizeO at this; omega)
        obtain ⟨Z, hZ⟩ : ∃ Z, doD o x = Z := ⟨_, rfl⟩
        rw [hZ] at hc
        have HZ := Lib.hid hZ
        have hfl : Z.2.files.length ≤ i + 1 := by rw [← hZ]; have := doD_files o x; have := HF.out; omega
        unfold opAgg at hc
        clear hZ
        refine hc.mono ?_
        rintro e w5 ⟨d5, rfl, hd5, ht5⟩
        have HD5 := Lib.hid hd5
        have HR5 := Lib.hid (HR4.out.keptT ht5 hd5.kp)
        have hb5 := ht5.blk HB4.out (by decide) (by decide) (by decide)
        have y0 : w5.cell? ⟨wr.heap.size, 0, none⟩ = some (.int .i64 o.kind) := hb5.cell rfl
        have y1 : w5.cell? ⟨wr.heap.size, 1, none⟩ = some (.string o.name) := hb5.cell rfl
        have y2 : w5.cell? ⟨wr.heap.size, 2, none⟩ = some (.string o.data) := hb5.cell rfl
        have y3 : w5.cell? ⟨wr.heap.size, 3, none⟩ = some (.int .i64 o.n) := hb5.cell rfl
        have y4 : w5.cell? ⟨wr.heap.size, 4, none⟩ = some (.slice A' o.keeps.length c') := hb5.cell rfl
        clear hc hd5 ht5 hb5 z0 z1 z2 z3 z4
        go_wp2_with fail
        have hm := m_want HR5.out o A' c' _ (Rp.old _ HKS.out HD.out.kp HD5.out.kp) (fun _ h => h) HWF.out (by omega) (by have := HSO.out; unfold sizeO at this; unfold maxLen; omega)
        rw [HZ.out] at hm
        unfold opAgg at hm
        refine hm.mono ?_
        rintro e w6 ⟨rfl, hr6, hkd⟩
        have HR6 := Lib.hid hr6
        have HD6 := Lib.hid (hkd _ _ HD5.out)
        clear hm hr6 hkd y0 y1 y2 y3 y4
        obtain ⟨⟨z1, y⟩, hZZ⟩ : ∃ z : Int × DV, Z = z := ⟨_, rfl⟩
        subst hZZ
        have HD6 : Hid (DNew W w6 d5 y) := HD6
        have HR6 : Hid (RNew W w6 r y) := HR6
        have hfl : y.files.length ≤ i + 1 := hfl
        go_wp2_with fail
        refine (h_alike HD6.out HR6.out (by omega)).mono ?_
        rintro e w7 ⟨rfl, hk7⟩
        have HD7 := Lib.hid (HD6.out.kept hk7)
        have HR7 := Lib.hid (HR6.out.kept hk7)
        clear hk7
        go_wp2_with fail
        refine (n_names nm w7 HD7.out (by omega)).mono ?_
        rintro e w8 ⟨A8, c8, rfl, hown, hk8⟩
        have HD8 := Lib.hid (HD7.out.kept hk8)
        have HR8 := Lib.hid (HR7.out.kept hk8)
        have HN8 := Lib.hid hown.readFrom
        clear hown hk8
        go_wp2_with fail
        refine (m_names nm w8 HR8.out (by omega)).mono ?_
        rintro e w9 ⟨A9, c9, rfl, hown, hk9⟩
        have HD9 := Lib.hid (HD8.out.kept hk9)
        have HR9 := Lib.hid (HR8.out.kept hk9)
        have HM9 := Lib.hid (Rp.str.slice.keptNo HN8.out hk9)
        have HN9 := Lib.hid hown.readFrom
        clear hown hk9
        go_wp2_with fail
        have hsm := r_same _ _ A8 A9 c8 c9 w9 _ _ HM9.out HN9.out
        rw [decide_eq_true rfl] at hsm
        refine hsm.mono ?_
        rintro e w10 ⟨rfl, q, rfl⟩
        have hkq : Kp No w9 (w9.drewN q) := (Kp.refl _ _).drewN q
        have HD10 := Lib.hid (HD9.out.kept hkq)
        have HR10 := Lib.hid (HR9.out.kept hkq)
        obtain ⟨w10, hw10⟩ : ∃ w10, w9.drewN q = w10 := ⟨_, rfl⟩
        rw [hw10] at HD10 HR10
        rw [hw10]
        clear hsm hkq hw10
        go_wp2_with fail
        obtain ⟨R, hR⟩ : ∃ R, readD nm y = R := ⟨_, rfl⟩
        have hr1 := n_read nm w10 HD10.out
        rw [hR] at hr1
        refine hr1.mono ?_
        rintro e w11 ⟨rfl, rfl⟩
        clear hr1
        go_wp2_with fail
        have hr2 := m_read nm w11 HR10.out
        rw [hR] at hr2
        refine hr2.mono ?_
        rintro e w12 ⟨rfl, hk12⟩
        have HD12 := Lib.hid (HD10.out.kept hk12)
        have HR12 := Lib.hid (HR10.out.kept hk12)
        clear hr2 hk12
        go_wp2_with fail
        go_roundw
        case rel => exact ⟨i + 1, d5, y, by omega, by go_num, rfl, HD12.out, HR12.out, hfl⟩
        case measure => simp [intOf]; omega
      · obtain rfl : i = l.length := by omega
        go_wp2_with fail
        go_ret
        exact ⟨rfl, HD.out.kp⟩
theorem diskPlays_holds : Rows.DiskPlaysUptoSaid := diskPlaysUpto_of diskPlays_walk
#print axioms diskPlays_holds
end Go.Proofs.Ytflodiljgphkdaa
