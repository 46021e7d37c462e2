/-
  What is left by a loss of power is left by the next one, too: DiskAgain answers true for every input of bulk at most 1048576. (Said is false BY SIZE.)
-/
import Derived.Test.YtflodiljgphkdaaDid5
import Derived.Test.YtflodiljgphkdaaDskQ
import Derived.Test.YtflodiljgphkdaaSame
import Derived.Test.YtflodiljgphkdaaFDiskAgain
namespace Go.Proofs.Ytflodiljgphkdaa
open Go.RowKit Go.ChangeShapes Go.WideShapes Go.ChangeAt

theorem n_copy {w0 w : World} {d : Nat} {x : DV} (h : DNew w0 w d x) : Calls Try.prog 30 #[.pointer (some ⟨d, 0, none⟩)] w fun e w' => ∃ d', e = .returned (.pointer (some ⟨d', 0, none⟩)) ∧ DNew w w' d' x := by
  obtain ⟨F, h1, _⟩ := h
  exact (d_copy d x F w h1).mono fun _ _ ⟨d', F', he, h2, h3, h4⟩ => ⟨d', he, F', h2, h3, h4⟩
theorem prefixed_empty (s : ByteArray) : prefixed ⟨#[]⟩ s = true := by unfold prefixed; rfl
theorem namesD_all {x : DV} (h : x.off = false) : namesD ⟨#[]⟩ x = x.files.map (·.1) := by
  unfold namesD
  rw [h]
  simp only [Bool.false_eq_true, if_false]
  exact List.filter_eq_self.2 fun s _ => prefixed_empty s
theorem readD_name {x : DV} (hx : OkD x) (h : x.off = false) {n : ByteArray} (hn : n ∈ x.files.map (·.1)) : ∃ t, readD n x = some t := by
  obtain ⟨p, hp, rfl⟩ := List.mem_map.1 hn
  refine ⟨bs p.2.bytes, ?_⟩
  unfold readD fileD
  rw [h, mget_of_mem hx.rising.nodup (show (p.1, p.2) ∈ x.files from hp)]; rfl

set_option maxRecDepth 100000 in
set_option maxHeartbeats 4000000 in
theorem diskAgain_walk : DiskAgainUptoWalk := by
  intro W v0 l v1 ks v2 ms h0 h1 h2 hμ
  obtain ⟨A, c, hv0, hlc, hcm, _⟩ := id h0
  obtain ⟨A1, c1, hv1, _⟩ := id h1
  obtain ⟨A2, c2, hv2, _⟩ := id h2
  simp only [List.cons.injEq, and_true] at hv0 hv1 hv2
  subst hv0 hv1 hv2
  have hμ0 : Rp.op.slice.μ l + (1 + Rp.sumμ (Rp.int .i64).μ ks) + (1 + Rp.sumμ (Rp.int .i64).μ ms) ≤ 1048576 := hμ
  have hμ1 : Rp.op.slice.μ l ≤ 1048576 := by omega
  have hkl : ks.length ≤ 1048576 := by have := sumμ_length (f := (Rp.int .i64).μ) (fun _ => Nat.le_refl _) ks; omega
  have hml : ms.length ≤ 1048576 := by have := sumμ_length (f := (Rp.int .i64).μ) (fun _ => Nat.le_refl _) ms; omega
  have HMU := Lib.hid hμ1
  have HL := Lib.hid h0
  have HKS := Lib.hid h1
  have HMS := Lib.hid h2
  clear hμ hμ0 hμ1 h0 h1 h2 hlc hcm
  go_enter Try.func6, Try.ntmps6
  go_wp2_with fail
  refine (awake05 W).mono ?_
  rintro e w1 ⟨rfl, hk1⟩
  have HK := Lib.hid hk1
  clear hk1
  go_wp2_with fail
  have hg := h_great5 l A c w1 _ (Rp.op.slice.keptNo HL.out HK.out) HMU.out
  obtain ⟨B, hB⟩ : ∃ B, (greatB l 0 || decide (200 < l.length)) = B := ⟨_, rfl⟩
  rw [hB] at hg
  have HB := Lib.hid hB
  clear hB
  refine hg.mono ?_
  rintro e w2 ⟨rfl, hk2⟩
  have HK := Lib.hid (HK.out.trans' hk2)
  clear hk2 hg
  cases B with
  | true =>
    go_wp2_with fail
    refine (awake05 _).mono ?_
    rintro e wz ⟨rfl, hkz⟩
    have HKZ := Lib.hid (HK.out.trans' hkz)
    clear hkz
    go_wp2_with fail
    go_ret
    exact ⟨rfl, HKZ.out⟩
  | false =>
    have hgb : greatB l 0 = false ∧ l.length ≤ 200 := by have := HB.out; simp at this; exact this
    have HSZ := Lib.hid (greatB_sizes hgb.1)
    have hll := hgb.2
    clear hgb HB
    by_cases hn2 : (1000 : Int) < (ks.length : Int)
    · go_wp2_with fail
      refine (awake05 _).mono ?_
      rintro e wz ⟨rfl, hkz⟩
      have HKZ := Lib.hid (HK.out.trans' hkz)
      clear hkz
      go_wp2_with fail
      go_ret
      exact ⟨rfl, HKZ.out⟩
    by_cases hk3 : (1000 : Int) < (ms.length : Int)
    · go_wp2_with fail
      refine (awake05 _).mono ?_
      rintro e wz ⟨rfl, hkz⟩
      have HKZ := Lib.hid (HK.out.trans' hkz)
      clear hkz
      go_wp2_with fail
      go_ret
      exact ⟨rfl, HKZ.out⟩
    go_wp2_with fail
    refine (n_new w2).mono ?_
    rintro e w3 ⟨d, rfl, hd, _⟩
    have HD : Hid (DNew W w3 d newD) := Lib.hid (by obtain ⟨F, g1, g2, g3⟩ := hd; exact ⟨F, g1, HK.out.trans' g2, fun k hk => Nat.le_trans HK.out.size (g3 k hk)⟩)
    clear hd
    go_wp2_with fail
    go_loopw [38] (fun iv wr => ∃ (i : Nat) (x : DV), i ≤ l.length ∧ iv = .int .i64 (i : Int) ∧ DNew W wr d x ∧ x.files.length ≤ i) (fun iv _ => l.length - (intOf iv).toNat)
    case atStart => exact ⟨0, newD, Nat.zero_le _, rfl, HD.out, Nat.le_refl _⟩
    case round =>
      obtain ⟨i, x, hi, rfl, hd, hfl⟩ := hrel
      have HD := Lib.hid hd
      have HF := Lib.hid hfl
      clear hd hfl
      by_cases hlt : i < l.length
      · have hli : (i : Int) < (l.length : Int) := by omega
        obtain ⟨o, ho⟩ : ∃ o, l[i]? = some o := ⟨_, List.getElem?_eq_getElem hlt⟩
        have hso := HSZ.out o (List.mem_of_getElem? ho)
        obtain ⟨ad, A', c', rfl, hcell, hwf, hks⟩ := Rp.at_op (Rp.op.slice.keptNo HL.out HD.out.kp) ho
        have z0 : wr.cell? (ad.add (i * 5)) = some _ := hcell 0 _ rfl
        have z1 : wr.cell? ⟨(ad.add (i * 5)).block, (ad.add (i * 5)).off + 1, none⟩ = some _ := hcell 1 _ rfl
        have z2 : wr.cell? ⟨(ad.add (i * 5)).block, (ad.add (i * 5)).off + 2, none⟩ = some _ := hcell 2 _ rfl
        have z3 : wr.cell? ⟨(ad.add (i * 5)).block, (ad.add (i * 5)).off + 3, none⟩ = some _ := hcell 3 _ rfl
        have z4 : wr.cell? ⟨(ad.add (i * 5)).block, (ad.add (i * 5)).off + 4, none⟩ = some _ := hcell 4 _ rfl
        have hk4 : Kp No wr (wr.alloc (.cells #[.int .i64 o.kind, .string o.name, .string o.data, .int .i64 o.n, .slice A' o.keeps.length c'] 37)) := (Kp.refl _ _).alloc _
        have HD4 := Lib.hid (HD.out.kept hk4)
        have HKS4 := Lib.hid ((Rp.slice _).keptNo hks hk4)
        have HWF := Lib.hid hwf
        have HSO := Lib.hid hso
        obtain ⟨K, hK⟩ : ∃ K, o.kind = K := ⟨_, rfl⟩
        rw [hK] at z0 HD4 HKS4
        have HKK := Lib.hid hK
        clear hcell hwf hks hso hk4 hK ho
        by_cases h7 : K < 7
        · go_wp2_with fail
          have hc := n_did HD4.out o A' c' _ HKS4.out HWF.out (by rw [HKK.out]; omega) (by have := HF.out; omega) (by have := HSO.out; unfold sizeO at this; omega)
          unfold opAgg at hc
          rw [HKK.out] at hc
          refine hc.mono ?_
          rintro e w5 ⟨rfl, hd5, _⟩
          have HD2 := Lib.hid hd5
          have HFL : Hid ((doD o x).2.files.length ≤ i + 1) := Lib.hid (by have := doD_files o x; have := HF.out; omega)
          clear hc hd5 z0 z1 z2 z3 z4
          go_wp2_with fail
          go_roundw
          case rel => exact ⟨i + 1, _, by omega, by go_num, HD2.out, HFL.out⟩
          case measure => simp [intOf]; omega
        · go_wp2_with fail
          go_roundw
          case rel => exact ⟨i + 1, x, by omega, by go_num, HD4.out, by have := HF.out; omega⟩
          case measure => simp [intOf]; omega
      · obtain rfl : i = l.length := by omega
        go_wp2_with (at_builtin; refine wpList_copy_lit (E := Rp.int .i64) rfl wr (.tmp 50) (.tmp 51) 34 rfl 3 8 el_ints rfl A1 c1 (fun k => k < W.heap.size) ks rfl ((Rp.slice _).keptNo HKS.out HD.out.kp) Rp.int_one (by omega) ?_; intro A' c' w2 hown hk2)
        have hc := n_crash wr HD.out w2 hk2 A' c' ks (fun k => wr.heap.size ≤ k) (by have := HF.out; omega) ((hown.int_any (fun k => wr.heap.size ≤ k)).read (fun k hk => (hown.lt k hk).1)) (fun k hk => .inl hk)
        have HC := Lib.hid hc
        clear hown hk2 hc
        refine HC.out.mono ?_
        rintro e w3 ⟨rfl, hd, _⟩
        have HD3 := Lib.hid hd
        clear hd HC
        have hyl : (crashD ks x).files.length ≤ 200 := by have := crashF_length x.files ks; have := HF.out; show (crashF x.files ks).length ≤ _; omega
        have hoff : (crashD ks x).off = false := rfl
        have hag : ∀ more, crashD more (crashD ks x) = crashD ks x := fun more => crash_again HD.out.ok ks more
        have HAG := Lib.hid hag
        obtain ⟨y, hy⟩ : ∃ y, crashD ks x = y := ⟨_, rfl⟩
        rw [hy] at HD3 HAG hyl hoff
        have HOFF := Lib.hid hoff
        clear hag hy hoff
        go_wp2_with fail
        refine (n_copy HD3.out).mono ?_
        rintro e w4 ⟨c', rfl, hc⟩
        have HC4 := Lib.hid hc
        clear hc
        go_wp2_with (at_builtin; refine wpList_copy_lit (E := Rp.int .i64) rfl w4 (.tmp 57) (.tmp 58) 34 rfl 3 8 el_ints rfl A2 c2 (fun k => k < W.heap.size) ms rfl ((Rp.slice _).keptNo HMS.out (HD3.out.kp.trans' HC4.out.kp)) Rp.int_one (by omega) ?_; intro A5 c5 w5 hown hk5)
        have hc := n_crash w4 HC4.out w5 hk5 A5 c5 ms (fun k => w4.heap.size ≤ k) (by omega) ((hown.int_any (fun k => w4.heap.size ≤ k)).read (fun k hk => (hown.lt k hk).1)) (fun k hk => .inl hk)
        rw [HAG.out] at hc
        have HC := Lib.hid hc
        clear hown hk5 hc
        refine HC.out.mono ?_
        rintro e w6 ⟨rfl, hd, _⟩
        have HC6 := Lib.hid hd
        have HD6 := Lib.hid (HD3.out.kept hd.kp)
        clear hd HC
        go_wp2_with fail
        refine (n_names ⟨#[]⟩ w6 HD6.out (by omega)).mono ?_
        rintro e w7 ⟨A7, c7, rfl, hown, hk7⟩
        have HC7 := Lib.hid (HC6.out.kept hk7)
        have HD7 := Lib.hid (HD6.out.kept hk7)
        have HN7 := Lib.hid hown.readFrom
        clear hown hk7
        go_wp2_with fail
        refine (n_names ⟨#[]⟩ w7 HC7.out (by omega)).mono ?_
        rintro e w8 ⟨A8, c8, rfl, hown, hk8⟩
        have HC8 := Lib.hid (HC7.out.kept hk8)
        have HD8 := Lib.hid (HD7.out.kept hk8)
        have HN8 := Lib.hid hown.readFrom
        have HM8 := Lib.hid (Rp.str.slice.keptNo HN7.out hk8)
        clear hown hk8
        go_wp2_with fail
        have hsm := r_same _ _ A7 A8 c7 c8 w8 _ _ HM8.out HN8.out
        rw [decide_eq_true rfl] at hsm
        refine hsm.mono ?_
        rintro e w9 ⟨rfl, q, rfl⟩
        have hkq : Kp No w8 (w8.drewN q) := (Kp.refl _ _).drewN q
        have HC9 := Lib.hid (HC8.out.kept hkq)
        have HD9 := Lib.hid (HD8.out.kept hkq)
        have HM9 := Lib.hid (Rp.str.slice.keptNo HM8.out hkq)
        obtain ⟨w9, hw9⟩ : ∃ w9, w8.drewN q = w9 := ⟨_, rfl⟩
        rw [hw9] at HC9 HD9 HM9
        rw [hw9]
        obtain ⟨N, hN⟩ : ∃ N, namesD ⟨#[]⟩ y = N := ⟨_, rfl⟩
        rw [hN] at HM9
        rw [hN]
        have HNN := Lib.hid hN
        have hNl : N.length ≤ 200 := by rw [← hN, namesD_all HOFF.out, List.length_map]; exact hyl
        clear hsm hkq hw9 hN
        go_wp2_with fail
        go_loopw [70] (fun iv wr => ∃ i : Nat, i ≤ N.length ∧ iv = .int .i64 (i : Int) ∧ wr = w9) (fun iv _ => N.length - (intOf iv).toNat)
        case atStart => exact ⟨0, Nat.zero_le _, rfl, by first | trivial | rfl⟩
        case round =>
          obtain ⟨i, hi, rfl, rfl⟩ := hrel
          by_cases hlt : i < N.length
          · have hli : (i : Int) < (N.length : Int) := by omega
            obtain ⟨n, hn⟩ : ∃ n, N[i]? = some n := ⟨_, List.getElem?_eq_getElem hlt⟩
            obtain ⟨ad, rfl, _, hcell, _⟩ := Rp.at_str HM9.out hn
            obtain ⟨t, ht⟩ := readD_name HD9.out.ok HOFF.out (n := n) (by rw [← namesD_all HOFF.out, HNN.out]; exact List.mem_of_getElem? hn)
            have hr1 := n_read n wr HD9.out
            have hr2 := n_read n wr HC9.out
            rw [ht] at hr1 hr2
            simp only [textOr, Option.getD_some, Option.isSome_some] at hr1 hr2
            clear hn ht
            go_wp2_with fail
            refine hr1.mono ?_
            rintro e w10 ⟨rfl, rfl⟩
            clear hr1
            go_wp2_with fail
            refine hr2.mono ?_
            rintro e w11 ⟨rfl, rfl⟩
            clear hr2
            go_wp2_with fail
            go_roundw
            case rel => exact ⟨i + 1, by omega, by go_num, by first | trivial | rfl⟩
            case measure => simp [intOf]; omega
          · obtain rfl : i = N.length := by omega
            go_wp2_with fail
            go_ret
            exact ⟨rfl, HD9.out.kp⟩
theorem diskAgain_holds : Rows.DiskAgainUptoSaid := diskAgainUpto_of diskAgain_walk
#print axioms diskAgain_holds
end Go.Proofs.Ytflodiljgphkdaa
