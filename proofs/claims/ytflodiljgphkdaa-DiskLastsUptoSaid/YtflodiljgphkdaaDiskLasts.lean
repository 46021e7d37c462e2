/-
  What a Sync that was answered OK found is there behind any loss of power: DiskLasts answers true for every input of bulk at most 1048576. (Said is false BY SIZE.)
-/
import Derived.Test.YtflodiljgphkdaaDid5
import Derived.Test.YtflodiljgphkdaaDskQ
import Derived.Test.YtflodiljgphkdaaSame
import Derived.Test.YtflodiljgphkdaaFDiskLasts
namespace Go.Proofs.Ytflodiljgphkdaa
open Go.RowKit Go.ChangeShapes Go.WideShapes Go.ChangeAt

theorem lasts_do {n : ByteArray} {s : List UInt8} {x : DV} (hx : OkD x) (o : OpV) (h6 : o.kind < 6) (h : Lasts n s x) (hn : o.kind ≠ 3 ∨ n ≠ o.name ∨ (doD o x).1 ≠ 0) : Lasts n s (doD o x).2 := by
  unfold doD at hn ⊢
  by_cases k1 : o.kind = 1
  · simp only [k1, if_true]; exact lasts_append hx h
  by_cases k2 : o.kind = 2
  · simp only [k2, if_true, show ¬ (2 : Int) = 1 by omega, if_false]; exact lasts_sync h
  by_cases k3 : o.kind = 3
  · simp only [k3, if_true, show ¬ (3 : Int) = 1 by omega, show ¬ (3 : Int) = 2 by omega, if_false] at hn ⊢
    refine lasts_remove hx h ?_
    rcases hn with h | h
    · exact absurd rfl h
    · exact h
  simp only [k1, k2, k3, if_false] at hn ⊢
  split
  · exact lasts_of_files h rfl
  split
  · exact lasts_crash hx _ h
  split
  · omega
  · exact h
/-- what the law remembers -/
def Rem (name : ByteArray) (sv : ByteArray) (tb : Bool) (x : DV) : Prop := tb = true → Lasts name sv.data.toList x
theorem Rem.step {name sv : ByteArray} {tb : Bool} {x : DV} (h : Rem name sv tb x) (hx : OkD x) (o : OpV) (h6 : o.kind < 6) (hn : o.kind ≠ 3 ∨ name ≠ o.name ∨ (doD o x).1 ≠ 0) : Rem name sv tb (doD o x).2 := fun ht => lasts_do hx o h6 (h ht) hn
theorem Rem.sync {name : ByteArray} {x : DV} {o : OpV} (hk : o.kind = 2) (hn : o.name = name) (h0 : (doD o x).1 = 0) : ∃ t, readD name (doD o x).2 = some t ∧ Rem name t true (doD o x).2 := by
  have e : doD o x = syncD name x := by unfold doD; simp [hk, hn]
  rw [e] at h0 ⊢
  obtain ⟨b, h1, h2⟩ := lasts_sync_ok h0
  exact ⟨bs b, h1, fun _ => h2⟩
theorem readD_end {name sv : ByteArray} {x : DV} (hx : OkD x) (ks : List Int) (h : Lasts name sv.data.toList x) : ∃ t : ByteArray, readD name (crashD ks x) = some t ∧ sv.size ≤ t.size ∧ t.extract 0 sv.size = sv := by
  obtain ⟨t, h1, h2⟩ := lasts_read (lasts_crash hx ks h) rfl
  refine ⟨bs t, h1, ?_, ?_⟩
  · have := h2.length_le; rw [data_length] at this; rw [bs_size]; exact this
  · rw [bs_extract, List.drop_zero, Nat.sub_zero]
    rw [List.prefix_iff_eq_take, data_length] at h2
    rw [← h2, bs_of]

set_option maxRecDepth 100000 in
set_option maxHeartbeats 4000000 in
theorem diskLasts_walk : DiskLastsUptoWalk := by
  intro W v0 l v1 name v2 ks h0 h1 h2 hμ
  obtain ⟨A, c, hv0, hlc, hcm, _⟩ := id h0
  obtain ⟨hv1, hnm⟩ := h1
  obtain ⟨A2, c2, hv2, _⟩ := id h2
  simp only [List.cons.injEq, and_true] at hv0 hv1 hv2
  subst hv0 hv1 hv2
  have hμ1 : Rp.op.slice.μ l ≤ 1048576 := by have : Rp.op.slice.μ l + Rp.str.μ name + (Rp.int .i64).slice.μ ks ≤ 1048576 := hμ; omega
  have hkl : ks.length ≤ 1048576 := by
    have h3 : Rp.op.slice.μ l + Rp.str.μ name + (1 + Rp.sumμ (Rp.int .i64).μ ks) ≤ 1048576 := hμ
    have := sumμ_length (f := (Rp.int .i64).μ) (fun _ => Nat.le_refl _) ks
    omega
  have HMU := Lib.hid hμ1
  have HL := Lib.hid h0
  have HKS := Lib.hid h2
  clear hμ hμ1 h0 h2 hnm hlc hcm
  go_enter Try.func4, Try.ntmps4
  go_wp2_with fail
  refine (awake05 W).mono ?_
  rintro e w1 ⟨rfl, hk1⟩
  have HK := Lib.hid hk1
  clear hk1
  go_wp2_with fail
  have hg := h_great5 l A c w1 _ (Rp.op.slice.keptNo HL.out HK.out) HMU.out
  obtain ⟨B, hB⟩ : ∃ B, (greatB l 0 || decide (200 < l.length)) = B := ⟨_, rfl⟩
  rw [hB] at hg
  have HB := Lib.hid hB
  clear hB
  refine hg.mono ?_
  rintro e w2 ⟨rfl, hk2⟩
  have HK := Lib.hid (HK.out.trans' hk2)
  clear hk2 hg
  cases B with
  | true =>
    go_wp2_with fail
    refine (awake05 _).mono ?_
    rintro e wz ⟨rfl, hkz⟩
    have HKZ := Lib.hid (HK.out.trans' hkz)
    clear hkz
    go_wp2_with fail
    go_ret
    exact ⟨rfl, HKZ.out⟩
  | false =>
    have hgb : greatB l 0 = false ∧ l.length ≤ 200 := by have := HB.out; simp at this; exact this
    have HSZ := Lib.hid (greatB_sizes hgb.1)
    have hll := hgb.2
    clear hgb HB
    by_cases hn2 : (200 : Int) < (name.size : Int)
    · go_wp2_with fail
      refine (awake05 _).mono ?_
      rintro e wz ⟨rfl, hkz⟩
      have HKZ := Lib.hid (HK.out.trans' hkz)
      clear hkz
      go_wp2_with fail
      go_ret
      exact ⟨rfl, HKZ.out⟩
    by_cases hk3 : (1000 : Int) < (ks.length : Int)
    · go_wp2_with fail
      refine (awake05 _).mono ?_
      rintro e wz ⟨rfl, hkz⟩
      have HKZ := Lib.hid (HK.out.trans' hkz)
      clear hkz
      go_wp2_with fail
      go_ret
      exact ⟨rfl, HKZ.out⟩
    go_wp2_with fail
    refine (n_new w2).mono ?_
    rintro e w3 ⟨d, rfl, hd, _⟩
    have HD : Hid (DNew W w3 d newD) := Lib.hid (by obtain ⟨F, g1, g2, g3⟩ := hd; exact ⟨F, g1, HK.out.trans' g2, fun k hk => Nat.le_trans HK.out.size (g3 k hk)⟩)
    clear hd
    go_wp2_with fail
    go_loopw [8, 9, 36] (fun sv tv iv wr => ∃ (i : Nat) (x : DV) (s : ByteArray) (tb : Bool), i ≤ l.length ∧ iv = .int .i64 (i : Int) ∧ sv = .string s ∧ tv = .bool tb ∧ DNew W wr d x ∧ x.files.length ≤ i ∧ Rem name s tb x) (fun _ _ iv _ => l.length - (intOf iv).toNat)
    case atStart => exact ⟨0, newD, _, _, Nat.zero_le _, rfl, rfl, rfl, HD.out, Nat.le_refl _, fun h => by cases h⟩
    case round =>
      obtain ⟨i, x, s, tb, hi, rfl, rfl, rfl, hd, hfl, hrm⟩ := hrel
      have HD := Lib.hid hd
      have HF := Lib.hid hfl
      have HRM := Lib.hid hrm
      clear hd hfl hrm
      by_cases hlt : i < l.length
      · have hli : (i : Int) < (l.length : Int) := by omega
        obtain ⟨o, ho⟩ : ∃ o, l[i]? = some o := ⟨_, List.getElem?_eq_getElem hlt⟩
        have hso := HSZ.out o (List.mem_of_getElem? ho)
        obtain ⟨ad, A', c', rfl, hcell, hwf, hks⟩ := Rp.at_op (Rp.op.slice.keptNo HL.out HD.out.kp) ho
        have z0 : wr.cell? (ad.add (i * 5)) = some _ := hcell 0 _ rfl
        have z1 : wr.cell? ⟨(ad.add (i * 5)).block, (ad.add (i * 5)).off + 1, none⟩ = some _ := hcell 1 _ rfl
        have z2 : wr.cell? ⟨(ad.add (i * 5)).block, (ad.add (i * 5)).off + 2, none⟩ = some _ := hcell 2 _ rfl
        have z3 : wr.cell? ⟨(ad.add (i * 5)).block, (ad.add (i * 5)).off + 3, none⟩ = some _ := hcell 3 _ rfl
        have z4 : wr.cell? ⟨(ad.add (i * 5)).block, (ad.add (i * 5)).off + 4, none⟩ = some _ := hcell 4 _ rfl
        obtain ⟨w4, hw4⟩ : ∃ w4, wr.alloc (.cells #[.int .i64 o.kind, .string o.name, .string o.data, .int .i64 o.n, .slice A' o.keeps.length c'] 37) = w4 := ⟨_, rfl⟩
        have hb4 : Blk w4 wr.heap.size 37 [.int .i64 o.kind, .string o.name, .string o.data, .int .i64 o.n, .slice A' o.keeps.length c'] := by rw [← hw4]; exact Blk.new wr [_, _, _, _, _] _
        have hk4 : Kp No wr w4 := by rw [← hw4]; exact (Kp.refl _ _).alloc _
        have HB4 := Lib.hid hb4
        have HD4 := Lib.hid (HD.out.kept hk4)
        have HKS4 := Lib.hid ((Rp.slice _).keptNo hks hk4)
        have HWF := Lib.hid hwf
        have HSO := Lib.hid hso
        have y0 : w4.cell? ⟨wr.heap.size, 0, none⟩ = some _ := hb4.cell rfl
        have y1 : w4.cell? ⟨wr.heap.size, 1, none⟩ = some _ := hb4.cell rfl
        have y2 : w4.cell? ⟨wr.heap.size, 2, none⟩ = some _ := hb4.cell rfl
        have y3 : w4.cell? ⟨wr.heap.size, 3, none⟩ = some _ := hb4.cell rfl
        have y4 : w4.cell? ⟨wr.heap.size, 4, none⟩ = some _ := hb4.cell rfl
        obtain ⟨K, hK⟩ : ∃ K, o.kind = K := ⟨_, rfl⟩
        rw [hK] at z0 y0 hw4
        have HKK := Lib.hid hK
        clear hcell hwf hks hso hb4 hk4 hK ho
        by_cases h6 : 6 ≤ K
        · go_wp2_with fail
          go_roundw
          case rel => exact ⟨i + 1, x, s, tb, by omega, by go_num, rfl, rfl, HD4.out, by have := HF.out; omega, HRM.out⟩
          case measure => simp [intOf]; omega
        · have h6i : K < 6 := by omega
          go_wp2_with fail
          have hc := n_did HD4.out o A' c' _ HKS4.out HWF.out (by rw [HKK.out]; omega) (by have := HF.out; omega) (by have := HSO.out; unfold sizeO at this; omega)
          unfold opAgg at hc
          rw [HKK.out] at hc
          obtain ⟨E, hE⟩ : ∃ E, (doD o x).1 = E := ⟨_, rfl⟩
          rw [hE] at hc
          refine hc.mono ?_
          rintro e w5 ⟨rfl, hd5, ht5⟩
          have HB5 := Lib.hid (ht5.blk HB4.out (by decide) (by decide) (by decide))
          have HD2 := Lib.hid hd5
          have HFL : Hid ((doD o x).2.files.length ≤ i + 1) := Lib.hid (by have := doD_files o x; have := HF.out; omega)
          have HE := Lib.hid hE
          have HH6 : Hid (o.kind < 6) := Lib.hid (by rw [HKK.out]; exact h6i)
          clear hc hd5 ht5 hE z0 z1 z2 z3 z4 y0 y1 y2 y3 y4 hw4
          have y0 : w5.cell? ⟨wr.heap.size, 0, none⟩ = some _ := HB5.out.cell rfl
          have y1 : w5.cell? ⟨wr.heap.size, 1, none⟩ = some _ := HB5.out.cell rfl
          rw [HKK.out] at y0
          by_cases k2 : K = 2
          · by_cases kn : o.name = name
            · by_cases k0 : E = 0
              · obtain ⟨t, ht, hrm⟩ := Rem.sync (x := x) (by rw [HKK.out, k2]) kn (by rw [HE.out, k0])
                have hrd := n_read name w5 HD2.out
                rw [ht] at hrd
                simp only [textOr, Option.getD_some, Option.isSome_some] at hrd
                have HRM2 := Lib.hid hrm
                have hns : (o.name.toList == name.toList) = true := by rw [bytes_list_beq, kn]; simp
                rw [kn] at y1 hns
                subst k2 k0
                clear ht hrm kn HRM
                go_wp2_with fail
                refine hrd.mono ?_
                rintro e w6 ⟨rfl, rfl⟩
                clear hrd
                go_wp2_with fail
                go_roundw
                case rel => exact ⟨i + 1, _, t, true, by omega, by go_num, rfl, rfl, HD2.out, HFL.out, HRM2.out⟩
                case measure => simp [intOf]; omega
              · have HRM2 := Lib.hid (HRM.out.step HD.out.ok o HH6.out (.inl (by rw [HKK.out, k2]; decide)))
                have hns : (o.name.toList == name.toList) = true := by rw [bytes_list_beq, kn]; simp
                subst k2
                clear HRM
                go_wp2_with fail
                all_goals
                  go_roundw
                  case rel => exact ⟨i + 1, _, s, tb, by omega, by go_num, rfl, rfl, HD2.out, HFL.out, HRM2.out⟩
                  case measure => simp [intOf]; omega
            · have HRM2 := Lib.hid (HRM.out.step HD.out.ok o HH6.out (.inl (by rw [HKK.out, k2]; decide)))
              have hns : (o.name.toList == name.toList) = false := by rw [bytes_list_beq]; simp [kn]
              subst k2
              clear HRM
              go_wp2_with fail
              all_goals
                go_roundw
                case rel => exact ⟨i + 1, _, s, tb, by omega, by go_num, rfl, rfl, HD2.out, HFL.out, HRM2.out⟩
                case measure => simp [intOf]; omega
          by_cases k3 : K = 3
          · by_cases kn : o.name = name
            · by_cases k0 : E = 0
              · have HRM2 : Hid (Rem name ByteArray.empty false (doD o x).2) := Lib.hid (fun h => by cases h)
                have hns : (o.name.toList == name.toList) = true := by rw [bytes_list_beq, kn]; simp
                subst k3 k0
                clear HRM kn
                go_wp2_with fail
                go_roundw
                case rel => exact ⟨i + 1, _, _, false, by omega, by go_num, rfl, rfl, HD2.out, HFL.out, HRM2.out⟩
                case measure => simp [intOf]; omega
              · have HRM2 := Lib.hid (HRM.out.step HD.out.ok o HH6.out (.inr (.inr (by rw [HE.out]; exact k0))))
                have hns : (o.name.toList == name.toList) = true := by rw [bytes_list_beq, kn]; simp
                subst k3
                clear HRM
                go_wp2_with fail
                all_goals
                  go_roundw
                  case rel => exact ⟨i + 1, _, s, tb, by omega, by go_num, rfl, rfl, HD2.out, HFL.out, HRM2.out⟩
                  case measure => simp [intOf]; omega
            · have HRM2 := Lib.hid (HRM.out.step HD.out.ok o HH6.out (.inr (.inl (fun e => kn e.symm))))
              have hns : (o.name.toList == name.toList) = false := by rw [bytes_list_beq]; simp [kn]
              subst k3
              clear HRM
              go_wp2_with fail
              all_goals
                go_roundw
                case rel => exact ⟨i + 1, _, s, tb, by omega, by go_num, rfl, rfl, HD2.out, HFL.out, HRM2.out⟩
                case measure => simp [intOf]; omega
          · have HRM2 := Lib.hid (HRM.out.step HD.out.ok o HH6.out (.inl (by rw [HKK.out]; exact k3)))
            clear HRM
            go_wp2_with fail
            all_goals
              go_roundw
              case rel => exact ⟨i + 1, _, s, tb, by omega, by go_num, rfl, rfl, HD2.out, HFL.out, HRM2.out⟩
              case measure => simp [intOf]; omega
      · obtain rfl : i = l.length := by omega
        go_wp2_with (at_builtin; refine wpList_copy_lit (E := Rp.int .i64) rfl wr (.tmp 85) (.tmp 86) 34 rfl 3 8 el_ints rfl A2 c2 (fun k => k < W.heap.size) ks rfl ((Rp.slice _).keptNo HKS.out HD.out.kp) Rp.int_one (by omega) ?_; intro A' c' w2 hown hk2)
        have hc := n_crash wr HD.out w2 hk2 A' c' ks (fun k => wr.heap.size ≤ k) (by have := HF.out; omega) ((hown.int_any (fun k => wr.heap.size ≤ k)).read (fun k hk => (hown.lt k hk).1)) (fun k hk => .inl hk)
        have HC := Lib.hid hc
        clear hown hk2 hc
        refine HC.out.mono ?_
        rintro e w3 ⟨rfl, hd, _⟩
        have HD3 := Lib.hid hd
        clear hd HC
        have hdn := n_down w3 HD3.out
        rw [show (crashD ks x).off = false from rfl] at hdn
        cases tb with
        | true =>
          obtain ⟨t, ht, hs1, hs2⟩ := readD_end (name := name) (sv := s) HD.out.ok ks (HRM.out rfl)
          have hrd := n_read name w3 HD3.out
          rw [ht] at hrd
          simp only [textOr, Option.getD_some, Option.isSome_some] at hrd
          have hle : (s.size : Int) ≤ (t.size : Int) := by omega
          have heq : ((t.extract 0 s.size).toList == s.toList) = true := by rw [hs2]; simp
          clear ht hs2 HRM
          go_wp2_with fail
          refine hrd.mono ?_
          rintro e w6 ⟨rfl, rfl⟩
          clear hrd
          go_wp2_with fail
          refine hdn.mono ?_
          rintro e w7 ⟨rfl, rfl⟩
          clear hdn
          go_wp2_with fail
          go_ret
          exact ⟨by first | rfl | exact congrArg (fun b => Ending.returned (Value.bool b)) heq, HD3.out.kp⟩
        | false =>
          have hrd := n_read name w3 HD3.out
          obtain ⟨T, hT⟩ : ∃ T, textOr (readD name (crashD ks x)) = T := ⟨_, rfl⟩
          obtain ⟨Bo, hBo⟩ : ∃ Bo, (readD name (crashD ks x)).isSome = Bo := ⟨_, rfl⟩
          rw [hT, hBo] at hrd
          clear hT hBo HRM
          go_wp2_with fail
          refine hrd.mono ?_
          rintro e w6 ⟨rfl, rfl⟩
          clear hrd
          go_wp2_with fail
          refine hdn.mono ?_
          rintro e w7 ⟨rfl, rfl⟩
          clear hdn
          go_wp2_with fail
          go_ret
          exact ⟨rfl, HD3.out.kp⟩
theorem diskLasts_holds : Rows.DiskLastsUptoSaid := diskLastsUpto_of diskLasts_walk
#print axioms diskLasts_holds
end Go.Proofs.Ytflodiljgphkdaa
