/-
  What goes out, of whatever is kept, whatever bits have turned, with a bucket or without one, is what the document says: HuntServes answers true for every input. No condition.
-/
import Derived.Test.YtflodiljgphkdaaGreatServ2
import Derived.Test.YtflodiljgphkdaaGreatVD5
import Derived.Test.YtflodiljgphkdaaGreatHnt
import Derived.Test.YtflodiljgphkdaaGreatSame
import Derived.Test.YtflodiljgphkdaaGreatM4
import Derived.Test.YtflodiljgphkdaaGreatFHuntServes
namespace Go.Proofs.YtflodiljgphkdaaGreat
open Go.RowKit Go.ChangeShapes Go.WideShapes Go.ChangeAt

theorem sum1S (s : ByteArray) (hs : s.size ≤ 1048576) (w : World) (ty : TypeId) : Calls Tryz.prog 12 #[.slice (some ⟨w.heap.size, 0, none⟩) 1 1] (w.alloc (.cells #[.string s] ty)) fun e w' => e = .returned (.string (digest s)) ∧ Kp No w w' :=
  (t_sum1 s (w.alloc (.cells #[.string s] ty)) (g := w.heap.size) (heap_alloc_new w _) hs).mono fun _ _ ⟨h1, h2⟩ => ⟨h1, ((Kp.refl No w).alloc _).trans' h2⟩
theorem manyB_sizesS {l : List ByteArray} (h : manyB l = false) : ∀ x ∈ l, x.size ≤ 4096 := by
  intro x hx
  unfold manyB at h
  simp only [decide_eq_false_iff_not] at h
  have h1 : 1 + min x.size 1048576 ≤ (l.map fun s => 1 + min s.size 1048576).sum := by
    clear h
    induction l with
    | nil => cases hx
    | cons y l ih =>
      rw [List.map_cons, List.sum_cons]
      rcases List.mem_cons.1 hx with rfl | hx
      · omega
      · have := ih hx; omega
  omega
theorem dropV_files (h : ByteArray) (X : VV) : (dropV h X).2.d.files.length ≤ X.d.files.length := by
  unfold dropV
  split
  · exact removeD_files _ _
  · exact removeD_files _ _
theorem writeV_files (c h : ByteArray) (X : VV) : (writeV c h X).2.d.files.length ≤ X.d.files.length + 2 := by
  have h1 := appendD_files (fileN h) c X.d
  have h2 := syncD_files (fileN h) (appendD (fileN h) c X.d).2
  unfold writeV
  split
  · exact Nat.le_add_right _ _
  split
  · exact Nat.le_trans h1 (Nat.le_succ _)
  split
  · exact Nat.le_trans h2 (Nat.succ_le_succ h1)
  · exact Nat.le_trans h2 (Nat.succ_le_succ h1)
theorem putV_files (c : ByteArray) (X : VV) : (putV c X).2.d.files.length ≤ X.d.files.length + 2 := by
  unfold putV
  split
  · exact Nat.le_add_right _ _
  split
  · exact Nat.le_add_right _ _
  split
  · exact Nat.le_add_right _ _
  split
  · split
    · exact Nat.le_trans (writeV_files _ _ _) (Nat.add_le_add_right (dropV_files _ _) 2)
    · exact Nat.le_trans (dropV_files _ _) (Nat.le_add_right _ _)
  · exact writeV_files _ _ _
theorem serve0_files : ∀ (l : List ByteArray) (X : VV), Loose X → Loose (serve0 l X).2 ∧ (serve0 l X).2.d.files.length ≤ X.d.files.length
  | [], X, h => ⟨h, Nat.le_refl _⟩
  | x :: t, X, h => by
    obtain ⟨h1, h2⟩ := serve0_files t (getV x X).2 (h.get x)
    unfold serve0
    split
    · exact ⟨h1, Nat.le_trans h2 (getV_files x X)⟩
    · exact ⟨h1, Nat.le_trans h2 (getV_files x X)⟩
theorem serveV_files : ∀ (l : List ByteArray) (X : VV) (n : Int), Loose X → Loose (serveV l X n).2.1 ∧ (serveV l X n).2.1.d.files.length ≤ X.d.files.length
  | [], X, n, h => ⟨h, Nat.le_refl _⟩
  | x :: t, X, n, h => by
    unfold serveV
    split
    · obtain ⟨h1, h2⟩ := serveV_files t (getV x X).2 n (h.get x)
      exact ⟨h1, Nat.le_trans h2 (getV_files x X)⟩
    split
    · exact ⟨h.get x, getV_files x X⟩
    · obtain ⟨h1, h2⟩ := serveV_files t (getV x X).2 (n - ((getV x X).1.1.size : Int)) (h.get x)
      exact ⟨h1, Nat.le_trans h2 (getV_files x X)⟩
theorem serveO_files (l : List ByteArray) (X : VV) (b : Option Int) (h : Loose X) : Loose (serveO l X b).2.1 ∧ (serveO l X b).2.1.d.files.length ≤ X.d.files.length := by
  cases b with
  | none => exact serve0_files l X h
  | some n => exact serveV_files l X n h
theorem listV_names {X : VV} (h : Loose X) : listV X = names X := by unfold listV; rw [h.off]; rfl

set_option maxRecDepth 100000 in
set_option maxHeartbeats 4000000 in
theorem huntServes_walk : HuntServesWalk := by
  intro W v0 l v1 fs v2 hs v3 r v4 u v5 fr h0 h1 h2 h3 h4 h5
  obtain ⟨A, c, hv0, hlc, hcm, _⟩ := id h0
  obtain ⟨Af, cf, hv1, hfc, hfm, _⟩ := id h1
  obtain ⟨Ah, ch, hv2, hhc, hhm, _⟩ := id h2
  obtain ⟨hv3, _⟩ := h3
  obtain ⟨hv4, _⟩ := h4
  have hv5 : [v5] = [Value.bool fr] := h5
  simp only [List.cons.injEq, and_true] at hv0 hv1 hv2 hv3 hv4 hv5
  subst hv0 hv1 hv2 hv3 hv4 hv5
  have HL := Lib.hid h0
  have HF := Lib.hid h1
  have HH := Lib.hid h2
  have hll : (l.length : Int) ≤ 9223372036854775807 := by unfold maxLen at hcm; omega
  have hfl : (fs.length : Int) ≤ 9223372036854775807 := by unfold maxLen at hfm; omega
  have hhl : (hs.length : Int) ≤ 9223372036854775807 := by unfold maxLen at hhm; omega
  clear h0 h1 h2 h5 hlc hcm hfc hfm hhc hhm
  go_enter Tryz.func3, Tryz.ntmps3
  go_wp2_with fail
  refine (awake19 W).mono ?_
  rintro e w1 ⟨rfl, hk1⟩
  have HK := Lib.hid hk1
  clear hk1
  go_wp2_with fail
  obtain ⟨B, hB⟩ : ∃ B, manyB l = B := ⟨_, rfl⟩
  have hmn := h_many l A c w1 _ (Rp.str.slice.keptNo HL.out HK.out)
  rw [hB] at hmn
  have HB := Lib.hid hB
  refine hmn.mono ?_
  rintro e w2 ⟨rfl, rfl⟩
  clear hmn hB
  cases B with
  | true =>
    go_wp2_with fail
    refine (awake19 _).mono ?_
    rintro e wz ⟨rfl, hkz⟩
    have HKZ := Lib.hid (HK.out.trans' hkz)
    clear hkz
    go_wp2_with fail
    go_ret
    exact ⟨rfl, HKZ.out⟩
  | false =>
  go_wp2_with fail
  obtain ⟨B2, hB2⟩ : ∃ B, manyB hs = B := ⟨_, rfl⟩
  have hmn := h_many hs Ah ch w1 _ (Rp.str.slice.keptNo HH.out HK.out)
  rw [hB2] at hmn
  have HB2 := Lib.hid hB2
  refine hmn.mono ?_
  rintro e w2 ⟨rfl, rfl⟩
  clear hmn hB2
  cases B2 with
  | true =>
    go_wp2_with fail
    refine (awake19 _).mono ?_
    rintro e wz ⟨rfl, hkz⟩
    have HKZ := Lib.hid (HK.out.trans' hkz)
    clear hkz
    go_wp2_with fail
    go_ret
    exact ⟨rfl, HKZ.out⟩
  | false =>
  by_cases hf1 : (100 : Int) < (fs.length : Int)
  · go_wp2_with fail
    refine (awake19 _).mono ?_
    rintro e wz ⟨rfl, hkz⟩
    have HKZ := Lib.hid (HK.out.trans' hkz)
    clear hkz
    go_wp2_with fail
    go_ret
    exact ⟨rfl, HKZ.out⟩
  have HMS := Lib.hid (manyB_sizesS HB.out)
  have hml := manyB_length HB.out
  have HMH := Lib.hid (manyB_sizesS HB2.out)
  have hmh := manyB_length HB2.out
  clear HB HB2
  go_wp2_with fail
  refine (n_new w1).mono ?_
  rintro e w3 ⟨d, rfl, hd, hk3⟩
  have HD := Lib.hid (show DNew W w3 d newD by obtain ⟨F, g1, g2, g3⟩ := hd; exact ⟨F, g1, HK.out.trans' g2, fun k hk => Nat.le_trans HK.out.size (g3 k hk)⟩)
  have HK := Lib.hid (HK.out.trans' hk3)
  clear hd hk3
  go_wp2_with fail
  refine (m_new w3).mono ?_
  rintro e w4 ⟨rr, rfl, hr, hk4⟩
  have HR := Lib.hid (show RNew W w4 rr newD by obtain ⟨F, g1, g2, g3⟩ := hr; exact ⟨F, g1, HK.out.trans' g2, fun k hk => Nat.le_trans HK.out.size (g3 k hk)⟩)
  have HD := Lib.hid (HD.out.kept hk4)
  clear hr hk4
  go_wp2_with fail
  refine (g_open HD.out 1048576 rfl rfl (by omega) (by omega)).mono ?_
  rintro e w5 ⟨v, rfl, hv, hk5⟩
  have HV := Lib.hid hv
  have HR := Lib.hid (HR.out.kept hk5)
  clear hv hk5
  go_wp2_with fail
  refine (e_open w5 HR.out).mono ?_
  rintro e w6 ⟨m, rfl, hm, hk6⟩
  have HM : Hid (RVn W w6 m rr (.slice none 0 0) (openV newD 1048576)) := Lib.hid hm
  have HX : Hid (Loose (openV newD 1048576)) := Lib.hid (Loose.open 1048576 (by omega) (by omega) HD.out.ok)
  have HV := Lib.hid (HV.out.kept hk6)
  have HW6 := Lib.hid HV.out.kp.size
  clear hm hk6
  obtain ⟨D, hD⟩ : ∃ D, l.map digest = D := ⟨_, rfl⟩
  have hDl : D.length = l.length := by rw [← hD, List.length_map]
  have HDD := Lib.hid hD
  have HDL := Lib.hid hDl
  clear hD hDl
  go_wp2_with fail
  go_loopw [19, 59] (fun av iv wr => ∃ (i : Nat) (X : VV) (kv : Value), i ≤ l.length ∧ iv = .int .i64 (i : Int) ∧ Own Rp.str wr No w6.heap.size 9 av (D.take i) ∧ VNew W wr v d X ∧ RVn W wr m rr kv X ∧ Hid (Apart av kv) ∧ Hid (Loose X) ∧ X.kept.length ≤ i ∧ X.d.files.length ≤ 2 * i ∧ Hid (w6.heap.size ≤ wr.heap.size)) (fun _ iv _ => l.length - (intOf iv).toNat)
  case atStart => exact ⟨0, openV newD 1048576, .slice none 0 0, Nat.zero_le _, rfl, Own.nil _ _ _ _ _, HV.out, HM.out, Lib.hid (fun k hk => by cases hk), HX, Nat.le_refl _, Nat.le_refl _, Lib.hid (Nat.le_refl _)⟩
  case round =>
    clear HV HM HX HK HD HR
    obtain ⟨i, X, kv, hi, rfl, hown, hv, hm, HAP, HX, hkl, hfx, HWR⟩ := hrel
    obtain ⟨Av, cv, rfl⟩ := hown.shape
    have hDi : (D.take i).length = i := by rw [List.length_take, HDL.out]; omega
    have HO := Lib.hid hown
    have HV := Lib.hid hv
    have HM := Lib.hid hm
    have HKL := Lib.hid hkl
    have HFX := Lib.hid hfx
    clear hown hv hm hkl hfx
    by_cases hlt : i < l.length
    · have hli : (i : Int) < (l.length : Int) := by omega
      obtain ⟨s, hs'⟩ : ∃ s, l[i]? = some s := ⟨_, List.getElem?_eq_getElem hlt⟩
      obtain ⟨ad, rfl, _, hcell, _⟩ := Rp.at_str (Rp.str.slice.keptNo HL.out HV.out.kp) hs'
      have hss := HMS.out s (List.mem_of_getElem? hs')
      have hDx : D[i]? = some (digest s) := by rw [← HDD.out, List.getElem?_map, hs']; rfl
      have hst : D.take (i + 1) = D.take i ++ [digest s] := by
        obtain ⟨e1, e2⟩ := List.getElem?_eq_some_iff.1 hDx
        rw [List.take_succ_eq_append_getElem e1, e2]
      have hgp := g_put s wr HV.out (by have := HKL.out; omega)
      have hep := fun w1 kv (hv : RVn W w1 m rr kv X) => e_put s (by omega) w1 hv HX.out (by have := HKL.out; omega) (by have := HFX.out; omega)
      have hlo := HX.out.put s (by have := HKL.out; omega)
      have hp1 := putV_len s X
      have hp2 := putV_files s X
      obtain ⟨R, hR⟩ : ∃ R, putV s X = R := ⟨_, rfl⟩
      rw [hR] at hgp hlo hp1 hp2
      simp only [hR] at hep
      have hsum := fun (w' : World) => sum1S s (by omega) w' 9
      obtain ⟨Y, hY⟩ : ∃ Y, digest s = Y := ⟨_, rfl⟩
      have hYs : Y.size = 32 := by rw [← hY]; exact digest_size s
      rw [hY] at hsum hst
      have HGP := Lib.hid hgp
      have HEP := Lib.hid hep
      have HLO := Lib.hid hlo
      have HP1 : Hid (R.2.kept.length ≤ i + 1) := Lib.hid (by have := HKL.out; omega)
      have HP2 : Hid (R.2.d.files.length ≤ 2 * (i + 1)) := Lib.hid (by have := HFX.out; omega)
      have HSUM := Lib.hid hsum
      have HST := Lib.hid hst
      have HYS : Hid (Y.size ≤ maxLen) := Lib.hid (by rw [hYs]; decide)
      obtain ⟨E, hE⟩ : ∃ E, D.take i = E := ⟨_, rfl⟩
      rw [hE] at HO HST hDi
      rw [hE] at HAP ⊢
      have HDI := Lib.hid hDi
      clear hs' hss hDx hst hgp hep hlo hp1 hp2 hR hsum hY hYs hE hDi
      go_wp2_with fail
      refine HGP.out.mono ?_
      rintro e w7 ⟨rfl, hv7, hk7⟩
      have HV7 := Lib.hid hv7
      have HM7 := Lib.hid (HM.out.keptV hk7 hv7.kp)
      have HO7 := Lib.hid (hk7.own HO.out (by decide))
      have HW7 := Lib.hid (Nat.le_trans HWR.out hk7.size)
      clear hv7 hk7 HGP HV HM HO hcell
      go_wp2_with fail
      refine (HEP.out w7 kv HM7.out).mono ?_
      rintro e w8 ⟨rfl, ⟨kv8, hm8, hf8⟩, hk8⟩
      have HM8 := Lib.hid hm8
      have HV8 := Lib.hid (hk8.vault HV7.out)
      have HAP8 := Lib.hid (HAP.out.fr hf8 (fun k hk => (HO7.out.lt k hk).2))
      have HO8 := Lib.hid (hk8.own HO7.out (by decide))
      have HW8 := Lib.hid (Nat.le_trans HW7.out hk8.size)
      clear hm8 hf8 hk8 HEP HV7 HM7 HO7 HAP
      go_wp2_with fail
      refine (HSUM.out w8).mono ?_
      rintro e w9 ⟨rfl, hk9⟩
      have HM9 := Lib.hid (HM8.out.kept hk9)
      have HV9 := Lib.hid (HV8.out.kept hk9)
      have HO9 := Lib.hid (HO8.out.keptNo hk9)
      have HW9 := Lib.hid (Nat.le_trans HW8.out hk9.size)
      have hEl : E.length ≤ 1000000 := by have := HDI.out; omega
      clear hk9 HM8 HV8 HO8
      go_wp2_with (at_builtin; refine wpList_append_lit2 Rp.str_by rfl _ (.tmp 69) (.tmp 73) 22 rfl w6.heap.size 9 16 el_strS (.slice Av E.length cv) E rfl No ?d0 w9.heap.size [Y] rfl _ _ _ (heap_alloc_new _ _) ?d1 ?d2 ?d3 ?d4 ?d5 ?d6 ?_)
      case d0 => exact HO9.out.alloc _
      case d2 => intro a ha; simp only [List.mem_cons, List.not_mem_nil, or_false] at ha; subst ha; exact HYS.out
      case d3 => simp [maxLen]; omega
      case d4 => simp; omega
      case d5 => have := HW9.out; simp; omega
      case d6 => intro h; have := (HO9.out.lt _ h).2; omega
      intro A3 c3 w10 hown hk10 hbl
      have HO10 := Lib.hid hown
      have hk11 : Kp (fun k => (Value.slice Av E.length cv).ownBlock = some k) w9 w10 := ((Kp.refl _ w9).alloc _).trans hk10 (fun i hi hv => hv)
      have HV10 := Lib.hid (HV9.out.others hk11 (fun k hk => by have := (HO9.out.lt k hk).1; have := HW6.out; omega) (fun k hk => by obtain ⟨cs, hc⟩ := HO9.out.block hk; exact ⟨cs, _, _, hc, by decide⟩))
      have HM10 := Lib.hid (HM9.out.keptS hk11 (fun k hk => by have := (HO9.out.lt k hk).1; have := HW6.out; omega) (fun k hk => ⟨HAP8.out k hk, by obtain ⟨cs, hc⟩ := HO9.out.block hk; exact ⟨cs, _, hc⟩⟩))
      have hap := Apart.grow HAP8.out hbl (fun k hk => by have := (HM9.out.own.lt k hk).2; simp; omega)
      have HW10 := Lib.hid (Nat.le_trans HW9.out hk11.size)
      rw [← HST.out] at HO10
      have HAP10 := Lib.hid hap
      clear hown hk10 hk11 hbl hap HO9 HV9 HM9 HAP8
      go_wp2_with fail
      go_roundw
      case rel => exact ⟨i + 1, R.2, kv8, by omega, by go_num, HO10.out, HV10.out, HM10.out, HAP10, HLO, HP1.out, HP2.out, HW10⟩
      case measure => simp [intOf]; omega
    · obtain rfl : i = l.length := by omega
      have hall : D.take l.length = D := by rw [← HDL.out, List.take_length]
      rw [hall] at HO
      have hlD : (D.take l.length).length = D.length := by rw [hall]
      rw [hlD] at HAP ⊢
      have HDZ : Hid (∀ x ∈ D, x.size = 32) := Lib.hid (by
        intro x hx
        rw [← HDD.out] at hx
        obtain ⟨k, _, rfl⟩ := List.mem_map.1 hx
        exact digest_size _)
      have hDM : D.length ≤ 4096 := by rw [HDL.out]; exact hml
      clear hall hlD hDi hlt HDD HDL
      obtain ⟨kl, hkl2⟩ : ∃ kl, 2 * l.length = kl := ⟨_, rfl⟩
      have HFX : Hid (X.d.files.length ≤ 8192) := Lib.hid (by have := HFX.out; omega)
      clear hkl2 HKL
      go_wp2_with fail
      generalize wr = w11 at *
      generalize X = X11 at *
      generalize kv = kv11 at *
      go_loopw [78] (fun iv wr => ∃ (i : Nat) (X : VV) (kv : Value), i ≤ fs.length ∧ iv = .int .i64 (i : Int) ∧ Own Rp.str wr No w6.heap.size 9 (.slice Av D.length cv) D ∧ VNew W wr v d X ∧ RVn W wr m rr kv X ∧ Hid (Apart (.slice Av D.length cv) kv) ∧ Hid (Loose X) ∧ X.d.files.length ≤ 8192 + i ∧ Hid (w6.heap.size ≤ wr.heap.size)) (fun iv _ => fs.length - (intOf iv).toNat)
      case atStart => exact ⟨0, X11, kv11, Nat.zero_le _, rfl, HO.out, HV.out, HM.out, HAP, HX, HFX.out, HWR⟩
      case round =>
        clear HO HV HM HAP HX HFX HWR
        obtain ⟨i, X, kv, hi, rfl, hown, hv, hm, HAP, HX, hfx, HWR⟩ := hrel
        have HO := Lib.hid hown
        have HV := Lib.hid hv
        have HM := Lib.hid hm
        have HFX := Lib.hid hfx
        clear hown hv hm hfx
        by_cases hlt : i < fs.length
        · have hli : (i : Int) < (fs.length : Int) := by omega
          obtain ⟨f, hf'⟩ : ∃ f, fs[i]? = some f := ⟨_, List.getElem?_eq_getElem hlt⟩
          obtain ⟨adf, rfl, _, hcf, hwf⟩ := Rp.at_int ((Rp.int .i64).slice.keptNo HF.out HV.out.kp) hf'
          by_cases hD0 : D.length = 0
          · have hD0i : ¬ (0 : Int) < (D.length : Int) := by omega
            clear hf'
            go_wp2_with fail
            go_roundw
            case rel => exact ⟨i + 1, X, kv, by omega, by go_num, HO.out, HV.out, HM.out, HAP, HX, by have := HFX.out; omega, HWR⟩
            case measure => simp [intOf]; omega
          have hD0i : (0 : Int) < (D.length : Int) := by omega
          have hD0n : ¬ (D.length : Int) = 0 := by omega
          obtain ⟨q, hq⟩ : ∃ q, i % D.length = q := ⟨_, rfl⟩
          have hql : q < D.length := by rw [← hq]; exact Nat.mod_lt _ (by omega)
          have hqi : (q : Int) < (D.length : Int) := by omega
          have hkq : Int.tmod (i : Int) (D.length : Int) = (q : Int) := by rw [← hq, Int.tmod_eq_emod_of_nonneg (by omega), Int.natCast_emod]
          obtain ⟨x, hx⟩ : ∃ x, D[q]? = some x := ⟨_, List.getElem?_eq_getElem hql⟩
          obtain ⟨adD, hA, _, hcD, _⟩ := Rp.at_str HO.out.readFrom hx
          subst hA
          have hxs := HDZ.out x (List.mem_of_getElem? hx)
          have hef := fun w1 => e_file x (by omega) w1
          have HEF := Lib.hid hef
          have HWF := Lib.hid hwf
          have HLO := Lib.hid (HX.out.flip x f)
          have hfl2 := flipD_files (fileN x) f X.d
          obtain ⟨R, hR⟩ : ∃ R, flipD (fileN x) f X.d = R := ⟨_, rfl⟩
          have hgf := fun w1 (hv : VNew W w1 v d X) => g_flip (fileN x) w1 hv f hwf
          have hmf := fun w1 (hv : RNew W w1 rr X.d) => m_flip (fileN x) w1 hv f hwf
          simp only [hR] at hgf hmf
          rw [hR] at HLO hfl2
          have HGF := Lib.hid hgf
          have HMF := Lib.hid hmf
          have HFL : Hid (R.2.files.length ≤ 8192 + (i + 1)) := Lib.hid (by have := HFX.out; omega)
          clear hf' hq hql hx hxs hef hfl2 hR hgf hmf hwf
          go_wp2_with fail
          refine (HEF.out _).mono ?_
          rintro e w12 ⟨rfl, hk⟩
          have HO12 := Lib.hid (HO.out.keptNo hk)
          have HW12 := Lib.hid (Nat.le_trans HWR.out hk.size)
          have HV12 := Lib.hid (HV.out.kept hk)
          have HM12 := Lib.hid (HM.out.kept hk)
          clear hk HO HV HM hcf hcD
          go_wp2_with fail
          refine (HGF.out w12 HV12.out).mono ?_
          rintro e w13 ⟨rfl, hv, hk⟩
          have HV13 := Lib.hid hv
          have HW13 := Lib.hid (Nat.le_trans HW12.out hk.size)
          have HO13 := Lib.hid (hk.own HO12.out (by decide))
          have HM13 := Lib.hid (HM12.out.keptV hk hv.kp)
          clear hv hk HO12 HV12 HM12 HGF
          go_wp2_with fail
          refine (HMF.out w13 HM13.out.disk).mono ?_
          rintro e w14 ⟨rfl, hr, hk⟩
          have HM14 := Lib.hid (HM13.out.turned hr hk)
          have HW14 := Lib.hid (Nat.le_trans HW13.out hk.size)
          have HO14 := Lib.hid (hk.own HO13.out (by decide))
          have HV14 := Lib.hid ((hk.mono fun _ => RD.rt).vault HV13.out)
          clear hr hk HO13 HV13 HM13 HMF
          go_wp2_with fail
          go_roundw
          case rel => exact ⟨i + 1, { X with d := R.2 }, kv, by omega, by go_num, HO14.out, HV14.out, HM14.out, HAP, HLO, HFL.out, HW14⟩
          case measure => simp [intOf]; omega
        · obtain rfl : i = fs.length := by omega
          have HFX : Hid (X.d.files.length ≤ 9000) := Lib.hid (by have := HFX.out; omega)
          clear hlt
          by_cases hbad : r < 1 ∨ 4096 < r ∨ u < 64 ∨ 16384 < u
          · have hb1 := b_new_bad r u wr hbad
            have hb2 := r_new_bad r u wr hbad
            have HB1 := Lib.hid hb1
            have HB2 := Lib.hid hb2
            clear hb1 hb2 hbad
            go_wp2_with fail
            refine HB1.out.mono ?_
            rintro e w15 ⟨rfl, rfl⟩
            go_wp2_with fail
            refine HB2.out.mono ?_
            rintro e w15 ⟨rfl, rfl⟩
            have HBO : Hid (BO W wr (.pointer none) none r u) := Lib.hid (.inl ⟨rfl, rfl⟩)
            have HRO : Hid (RO W wr (.pointer none) none r u) := Lib.hid (.inl ⟨rfl, rfl⟩)
            cases fr with
            | true =>
              skip
              go_wp2_with (at_builtin; refine wpList_append_rp (E := Rp.str) rfl wr (.tmp 123) (.tmp 124) 22 rfl w6.heap.size 9 16 el_strS (fun k => k < W.heap.size) (.slice Av D.length cv) D rfl ?h0 Ah ch (fun k => k < W.heap.size) hs rfl ?hsrc Rp.str_one ?hcap ?hby ?hbase (fun _ h => h) ?hsv ?_)
              case h0 => exact HO.out.str_any _
              case hsrc => exact Rp.str.slice.keptNo HH.out HV.out.kp
              case hcap => simp [maxLen]; omega
              case hby => omega
              case hbase => exact HWR.out
              case hsv => intro k hk hk2; have := (HO.out.lt k hk).1; have := HW6.out; omega
              intro v16 w16 hown hgr hbl
              obtain ⟨A2, c2, rfl⟩ := hown.shape
              obtain ⟨E2, hE2⟩ : ∃ E2, D ++ hs = E2 := ⟨_, rfl⟩
              rw [hE2] at hown hbl ⊢
              have hE2l : E2.length ≤ 10000 := by rw [← hE2, List.length_append]; omega
              have HE2 : Hid (∀ x ∈ E2, x.size ≤ 1048576) := Lib.hid (by
                intro x hx
                rw [← hE2] at hx
                rcases List.mem_append.1 hx with hx | hx
                · rw [HDZ.out x hx]; decide
                · have := HMH.out x hx; omega)
              have hk16 : Kp (fun k => (Value.slice Av D.length cv).ownBlock = some k) wr w16 := (Kp.refl _ wr).grown hgr (fun g hg _ => hg)
              have HO16 := Lib.hid (hown.str_any No)
              have HV16 := Lib.hid (HV.out.others hk16 (fun k hk => by have := (HO.out.lt k hk).1; have := HW6.out; omega) (fun k hk => by obtain ⟨cs, hc⟩ := HO.out.block hk; exact ⟨cs, _, _, hc, by decide⟩))
              have HM16 := Lib.hid (HM.out.keptS hk16 (fun k hk => by have := (HO.out.lt k hk).1; have := HW6.out; omega) (fun k hk => ⟨HAP.out k hk, by obtain ⟨cs, hc⟩ := HO.out.block hk; exact ⟨cs, _, hc⟩⟩))
              have hq16 : KpQ (fun e => e = 9) wr w16 := ⟨_, hk16, fun g cs e fr hg hk => by
                obtain ⟨cs', hc⟩ := HO.out.block hk
                rw [hg] at hc; injection hc with hc; injection hc with _ hc⟩
              have HBO16 := Lib.hid (HBO.out.keptQ hq16 (by decide))
              have HRO16 := Lib.hid (HRO.out.keptQ hq16 (by decide))
              clear hown hgr hbl hE2 hk16 hq16 HO HV HM HAP HBO HRO HWR
              go_wp2_with fail
              generalize X = X16 at *
              generalize kv = kv16 at *
              go_loopw [126] (fun jv wr => ∃ (j : Nat) (X : VV) (kv : Value) (b : Option Int), j ≤ 2 ∧ jv = .int .i64 (j : Int) ∧ VNew W wr v d X ∧ RVn W wr m rr kv X ∧ Hid (Loose X) ∧ X.d.files.length ≤ 9000 ∧ Hid (BO W wr (.pointer none) b r u) ∧ Hid (RO W wr (.pointer none) b r u) ∧ Hid (Own Rp.str wr No w6.heap.size 9 (.slice A2 E2.length c2) E2)) (fun jv _ => 2 - (intOf jv).toNat)
              case atStart => exact ⟨0, X16, kv16, none, by omega, rfl, HV16.out, HM16.out, HX, HFX.out, HBO16, HRO16, HO16⟩
              case round =>
                clear HV16 HM16 HX HFX HBO16 HRO16 HO16
                obtain ⟨j, X, kv, b, hj, rfl, hv, hm, HX, hfx, HBO, HRO, HO⟩ := hrel
                have HV := Lib.hid hv
                have HM := Lib.hid hm
                have HFX := Lib.hid hfx
                clear hv hm hfx
                by_cases hj2 : j < 2
                · have hji : (j : Int) < 2 := by omega
                  go_wp2_with fail
                  refine Reg.wp_region_plan [⟨0, false, []⟩, ⟨1, false, []⟩, ⟨3, false, []⟩, ⟨6, false, []⟩, ⟨7, false, []⟩, ⟨8, false, []⟩, ⟨2, true, []⟩, ⟨4, true, []⟩, ⟨5, true, []⟩, ⟨9, true, []⟩, ⟨10, true, []⟩, ⟨11, false, []⟩, ⟨12, false, []⟩, ⟨13, false, []⟩, ⟨15, false, []⟩, ⟨16, false, []⟩, ⟨17, false, []⟩, ⟨18, false, []⟩, ⟨14, true, [16, 17, 18]⟩, ⟨19, true, []⟩, ⟨20, false, []⟩, ⟨21, false, []⟩] rfl (by kernel_rfl) ?_
                  repeat (first | (refine Reg.look rfl rfl rfl (by go_simp; rfl) rfl ?_; go_simp) | (refine Reg.skip rfl rfl rfl ?_; go_simp))
                  refine Reg.act rfl ?_
                  go_wp2
                  refine ⟨Reg.anew_nil, ?_⟩
                  refine Reg.act rfl ?_
                  refine wpList_copy_at (E := Rp.str) rfl wr _ wr.heap.size (.tmp 130) (.tmp 131) 22 rfl 9 16 el_strS rfl (heap_alloc_new wr _) (Nat.le_refl _) ((Kp.refl _ wr).alloc _).drew A2 c2 _ E2 rfl HO.out.readFrom Rp.str_one (by omega) ?_
                  intro A7 c7 w17 hown hk17
                  have HC17 := Lib.hid (hown.str_any No)
                  have HV17 := Lib.hid (HV.out.kept hk17)
                  have HM17 := Lib.hid (HM.out.kept hk17)
                  have HBO17 := Lib.hid (HBO.out.keptQ (KpQ.ofNo (Ty := fun _ => False) hk17) id)
                  have HRO17 := Lib.hid (HRO.out.keptQ (KpQ.ofNo (Ty := fun _ => False) hk17) id)
                  have HO17 := Lib.hid (HO.out.keptNo hk17)
                  have hLF := serveO_files E2 X b HX.out
                  have HLF := Lib.hid hLF
                  clear hown hk17 HV HM HBO HRO HO hLF
                  go_wp2
                  refine ⟨Reg.anew_nil, ?_⟩
                  refine Reg.act rfl ?_
                  go_wp2_with fail
                  refine (h_serveO E2 A7 c7 w17 (fun k => (Value.slice A7 E2.length c7).ownBlock = some k) HV17.out HBO17.out ((HC17.out.str_any _).read (fun k hk => hk)) (fun k hk => by obtain ⟨cs, hc⟩ := HC17.out.block hk; exact ⟨cs, _, _, hc, by decide⟩) (by omega) HE2.out).mono ?_
                  rintro e w18 ⟨Ao, co, O, Z, b', hso, rfl, ho18, hv18, hb18, hq18⟩
                  have HSO := Lib.hid hso
                  have HV18 := Lib.hid hv18
                  have HBO18 := Lib.hid hb18
                  have HM18 := Lib.hid (hq18.rvn HM17.out hv18.kp (by decide) (by decide) (by decide) (by decide))
                  have HRO18 := Lib.hid (HRO17.out.keptQ hq18 (by decide))
                  have HO18 := Lib.hid (hq18.own HO17.out (by decide))
                  have HP18 := Lib.hid ho18
                  clear hso ho18 hv18 hb18 hq18 HC17 HV17 HM17 HBO17 HRO17 HO17
                  go_wp2_with fail
                  refine ⟨Reg.anew_nil, ?_⟩
                  repeat (first | (refine Reg.look rfl rfl rfl (by go_simp; rfl) rfl ?_; go_simp) | (refine Reg.skip rfl rfl rfl ?_; go_simp))
                  refine Reg.act rfl ?_
                  go_wp2_with fail
                  refine (e_serveO E2 A2 c2 w18 (fun k => (Value.slice A2 E2.length c2).ownBlock = some k) HM18.out HX.out (Nat.le_trans HFX.out (by decide)) HRO18.out ((HO18.out.str_any _).read (fun k hk => hk)) (fun k hk => by obtain ⟨cs, hc⟩ := HO18.out.block hk; exact ⟨cs, _, _, hc, by decide⟩) (by omega) HE2.out).mono ?_
                  rintro e w19 ⟨Ao2, co2, O2, Z2, b2, kv2, hso2, rfl, ho19, hm19, hf19, hr19, hk19⟩
                  rw [HSO.out] at hso2
                  simp only [Prod.mk.injEq] at hso2
                  obtain ⟨rfl, rfl, rfl⟩ := hso2
                  obtain ⟨A8, c8, rfl⟩ := hm19.shape
                  have HV19 := Lib.hid (hk19.vaultD HV18.out)
                  have HBO19 := Lib.hid (HBO18.out.keptQ hk19.q (by decide))
                  have HO19 := Lib.hid (hk19.own HO18.out (by decide))
                  have HP19 := Lib.hid (hk19.own HP18.out (by decide))
                  have HM19 := Lib.hid hm19
                  have HRO19 := Lib.hid hr19
                  have hsm := r_same O O Ao Ao2 co co2 w19 _ _ HP19.out.readFrom ho19.readFrom
                  rw [decide_eq_true rfl] at hsm
                  have HSM := Lib.hid hsm
                  have hlf := HLF.out
                  rw [HSO.out] at hlf
                  have HLZ : Hid (Loose Z) := Lib.hid hlf.1
                  have HFZ : Hid (Z.d.files.length ≤ 9000) := Lib.hid (Nat.le_trans hlf.2 HFX.out)
                  clear hlf HLF HX HFX HSO ho19 hm19 hf19 hr19 hk19 hsm HV18 HBO18 HM18 HRO18 HO18 HP18
                  go_wp2_with fail
                  refine ⟨Reg.anew_nil, ?_⟩
                  refine Reg.act rfl ?_
                  go_wp2_with fail
                  refine HSM.out.mono ?_
                  rintro e w20 ⟨rfl, qn, hqn⟩
                  have hk20 : Kp No w19 w20 := by rw [hqn]; exact (Kp.refl _ _).drewN qn
                  have HV20 := Lib.hid (HV19.out.kept hk20)
                  have HBO20 := Lib.hid (HBO19.out.keptQ (KpQ.ofNo (Ty := fun _ => False) hk20) id)
                  have HRO20 := Lib.hid (HRO19.out.keptQ (KpQ.ofNo (Ty := fun _ => False) hk20) id)
                  have HO20 := Lib.hid (HO19.out.keptNo hk20)
                  have HM20 := Lib.hid (HM19.out.kept hk20)
                  have c20 : w20.cell? ⟨m, 2, none⟩ = some (.slice A8 (names Z).length c8) := Blk.cell HM20.out.blk rfl
                  clear hk20 hqn HSM HV19 HBO19 HRO19 HO19 HM19 HP19
                  go_wp2_with fail
                  refine ⟨Reg.anew_nil, ?_⟩
                  repeat (first | (refine Reg.look rfl rfl rfl (by go_simp; rfl) rfl ?_; go_simp) | (refine Reg.skip rfl rfl rfl ?_; go_simp))
                  refine Reg.act rfl ?_
                  go_wp2_with fail
                  refine (u_list w20 HV20.out (fun p hp => by rw [HLZ.out.keys p hp]; decide)).mono ?_
                  rintro e w21 ⟨A9, c9, rfl, hown21, hk21⟩
                  have hln := listV_names HLZ.out
                  rw [hln] at hown21
                  rw [hln]
                  have HV21 := Lib.hid (HV20.out.kept hk21)
                  have HBO21 := Lib.hid (HBO20.out.keptQ (KpQ.ofNo (Ty := fun _ => False) hk21) id)
                  have HRO21 := Lib.hid (HRO20.out.keptQ (KpQ.ofNo (Ty := fun _ => False) hk21) id)
                  have HO21 := Lib.hid (HO20.out.keptNo hk21)
                  have HM21 := Lib.hid (HM20.out.kept hk21)
                  have c21 : w21.cell? ⟨m, 2, none⟩ = some (.slice A8 (names Z).length c8) := Blk.cell HM21.out.blk rfl
                  have hsm := r_same (names Z) (names Z) A9 A8 c9 c8 w21 _ _ hown21.readFrom HM21.out.own.readFrom
                  rw [decide_eq_true rfl] at hsm
                  have HSM := Lib.hid hsm
                  clear hown21 hk21 hln hsm HV20 HBO20 HRO20 HO20 HM20
                  go_wp2_with fail
                  (refine ⟨?anew, ?_⟩; case anew => ((repeat (refine Reg.anew_cons rfl rfl (fun _ => by go_simp) ?_)); exact Reg.anew_nil))
                  repeat (first | (refine Reg.look rfl rfl rfl (by go_simp; rfl) rfl ?_; go_simp) | (refine Reg.skip rfl rfl rfl ?_; go_simp))
                  refine Reg.act rfl ?_
                  go_wp2_with fail
                  refine HSM.out.mono ?_
                  rintro e w22 ⟨rfl, qn2, hqn⟩
                  have hk22 : Kp No w21 w22 := by rw [hqn]; exact (Kp.refl _ _).drewN qn2
                  have HV22 := Lib.hid (HV21.out.kept hk22)
                  have HBO22 := Lib.hid (HBO21.out.keptQ (KpQ.ofNo (Ty := fun _ => False) hk22) id)
                  have HRO22 := Lib.hid (HRO21.out.keptQ (KpQ.ofNo (Ty := fun _ => False) hk22) id)
                  have HO22 := Lib.hid (HO21.out.keptNo hk22)
                  have HM22 := Lib.hid (HM21.out.kept hk22)
                  clear hk22 hqn HSM HV21 HBO21 HRO21 HO21 HM21 c20 c21
                  go_wp2_with fail
                  refine ⟨Reg.anew_nil, ?_⟩
                  repeat (first | (refine Reg.look rfl rfl rfl (by go_simp; rfl) rfl ?_; go_simp) | (refine Reg.skip rfl rfl rfl ?_; go_simp))
                  (refine Reg.done ?_; simp only [Exit.then])
                  go_wp2_with fail
                  go_roundw
                  case rel => exact ⟨j + 1, Z, _, b', by omega, by go_num, HV22.out, HM22.out, HLZ, HFZ.out, HBO22, HRO22, HO22⟩
                  case measure => simp [intOf]; omega
                · obtain rfl : j = 2 := by omega
                  have HKV := Lib.hid HV.out.kp
                  clear HV HM HX HFX HBO HRO HO
                  go_wp2_with fail
                  refine Reg.wp_region_plan [⟨0, false, []⟩, ⟨1, false, []⟩, ⟨2, false, []⟩, ⟨3, false, []⟩, ⟨5, false, []⟩, ⟨6, false, []⟩, ⟨7, false, []⟩, ⟨8, false, []⟩, ⟨4, true, [6, 7, 8]⟩, ⟨9, false, []⟩, ⟨10, false, []⟩, ⟨11, false, []⟩] rfl (by kernel_rfl) ?_
                  repeat (first | (refine Reg.look rfl rfl rfl (by go_simp; rfl) rfl ?_; go_simp) | (refine Reg.skip rfl rfl rfl ?_; go_simp))
                  refine Reg.act rfl ?_
                  go_wp2_with fail
                  refine ⟨?anew, ?_⟩
                  case anew =>
                    (repeat (refine Reg.anew_cons rfl rfl (fun h => absurd (show false = true from h) Bool.false_ne_true) ?_))
                    exact Reg.anew_nil
                  repeat (first | (refine Reg.look rfl rfl rfl (by go_simp; rfl) rfl ?_; go_simp) | (refine Reg.skip rfl rfl rfl ?_; go_simp))
                  (refine Reg.done ?_; simp only [Exit.then])
                  go_wp2_with fail
                  go_ret
                  exact ⟨rfl, HKV.out.drew⟩
            | false =>
              skip
              go_wp2_with (at_builtin; refine wpList_append_rp (E := Rp.str) rfl wr (.tmp 123) (.tmp 124) 22 rfl w6.heap.size 9 16 el_strS (fun k => k < W.heap.size) (.slice Av D.length cv) D rfl ?h0 Ah ch (fun k => k < W.heap.size) hs rfl ?hsrc Rp.str_one ?hcap ?hby ?hbase (fun _ h => h) ?hsv ?_)
              case h0 => exact HO.out.str_any _
              case hsrc => exact Rp.str.slice.keptNo HH.out HV.out.kp
              case hcap => simp [maxLen]; omega
              case hby => omega
              case hbase => exact HWR.out
              case hsv => intro k hk hk2; have := (HO.out.lt k hk).1; have := HW6.out; omega
              intro v16 w16 hown hgr hbl
              obtain ⟨A2, c2, rfl⟩ := hown.shape
              obtain ⟨E2, hE2⟩ : ∃ E2, D ++ hs = E2 := ⟨_, rfl⟩
              rw [hE2] at hown hbl ⊢
              have hE2l : E2.length ≤ 10000 := by rw [← hE2, List.length_append]; omega
              have HE2 : Hid (∀ x ∈ E2, x.size ≤ 1048576) := Lib.hid (by
                intro x hx
                rw [← hE2] at hx
                rcases List.mem_append.1 hx with hx | hx
                · rw [HDZ.out x hx]; decide
                · have := HMH.out x hx; omega)
              have hk16 : Kp (fun k => (Value.slice Av D.length cv).ownBlock = some k) wr w16 := (Kp.refl _ wr).grown hgr (fun g hg _ => hg)
              have HO16 := Lib.hid (hown.str_any No)
              have HV16 := Lib.hid (HV.out.others hk16 (fun k hk => by have := (HO.out.lt k hk).1; have := HW6.out; omega) (fun k hk => by obtain ⟨cs, hc⟩ := HO.out.block hk; exact ⟨cs, _, _, hc, by decide⟩))
              have HM16 := Lib.hid (HM.out.keptS hk16 (fun k hk => by have := (HO.out.lt k hk).1; have := HW6.out; omega) (fun k hk => ⟨HAP.out k hk, by obtain ⟨cs, hc⟩ := HO.out.block hk; exact ⟨cs, _, hc⟩⟩))
              have hq16 : KpQ (fun e => e = 9) wr w16 := ⟨_, hk16, fun g cs e fr hg hk => by
                obtain ⟨cs', hc⟩ := HO.out.block hk
                rw [hg] at hc; injection hc with hc; injection hc with _ hc⟩
              have HBO16 := Lib.hid (HBO.out.keptQ hq16 (by decide))
              have HRO16 := Lib.hid (HRO.out.keptQ hq16 (by decide))
              clear hown hgr hbl hE2 hk16 hq16 HO HV HM HAP HBO HRO HWR
              go_wp2_with fail
              generalize X = X16 at *
              generalize kv = kv16 at *
              go_loopw [126] (fun jv wr => ∃ (j : Nat) (X : VV) (kv : Value) (b : Option Int), j ≤ 2 ∧ jv = .int .i64 (j : Int) ∧ VNew W wr v d X ∧ RVn W wr m rr kv X ∧ Hid (Loose X) ∧ X.d.files.length ≤ 9000 ∧ Hid (BO W wr (.pointer none) b r u) ∧ Hid (RO W wr (.pointer none) b r u) ∧ Hid (Own Rp.str wr No w6.heap.size 9 (.slice A2 E2.length c2) E2)) (fun jv _ => 2 - (intOf jv).toNat)
              case atStart => exact ⟨0, X16, kv16, none, by omega, rfl, HV16.out, HM16.out, HX, HFX.out, HBO16, HRO16, HO16⟩
              case round =>
                clear HV16 HM16 HX HFX HBO16 HRO16 HO16
                obtain ⟨j, X, kv, b, hj, rfl, hv, hm, HX, hfx, HBO, HRO, HO⟩ := hrel
                have HV := Lib.hid hv
                have HM := Lib.hid hm
                have HFX := Lib.hid hfx
                clear hv hm hfx
                by_cases hj2 : j < 2
                · have hji : (j : Int) < 2 := by omega
                  go_wp2_with fail
                  refine Reg.wp_region_plan [⟨0, false, []⟩, ⟨1, false, []⟩, ⟨3, false, []⟩, ⟨6, false, []⟩, ⟨7, false, []⟩, ⟨8, false, []⟩, ⟨2, true, []⟩, ⟨4, true, []⟩, ⟨5, true, []⟩, ⟨9, true, []⟩, ⟨10, true, []⟩, ⟨11, false, []⟩, ⟨12, false, []⟩, ⟨13, false, []⟩, ⟨15, false, []⟩, ⟨16, false, []⟩, ⟨17, false, []⟩, ⟨18, false, []⟩, ⟨14, true, [16, 17, 18]⟩, ⟨19, true, []⟩, ⟨20, false, []⟩, ⟨21, false, []⟩] rfl (by kernel_rfl) ?_
                  repeat (first | (refine Reg.look rfl rfl rfl (by go_simp; rfl) rfl ?_; go_simp) | (refine Reg.skip rfl rfl rfl ?_; go_simp))
                  refine Reg.act rfl ?_
                  go_wp2
                  refine ⟨Reg.anew_nil, ?_⟩
                  refine Reg.act rfl ?_
                  refine wpList_copy_at (E := Rp.str) rfl wr _ wr.heap.size (.tmp 130) (.tmp 131) 22 rfl 9 16 el_strS rfl (heap_alloc_new wr _) (Nat.le_refl _) ((Kp.refl _ wr).alloc _).drew A2 c2 _ E2 rfl HO.out.readFrom Rp.str_one (by omega) ?_
                  intro A7 c7 w17 hown hk17
                  have HC17 := Lib.hid (hown.str_any No)
                  have HV17 := Lib.hid (HV.out.kept hk17)
                  have HM17 := Lib.hid (HM.out.kept hk17)
                  have HBO17 := Lib.hid (HBO.out.keptQ (KpQ.ofNo (Ty := fun _ => False) hk17) id)
                  have HRO17 := Lib.hid (HRO.out.keptQ (KpQ.ofNo (Ty := fun _ => False) hk17) id)
                  have HO17 := Lib.hid (HO.out.keptNo hk17)
                  have hLF := serveO_files E2 X b HX.out
                  have HLF := Lib.hid hLF
                  clear hown hk17 HV HM HBO HRO HO hLF
                  go_wp2
                  refine ⟨Reg.anew_nil, ?_⟩
                  refine Reg.act rfl ?_
                  go_wp2_with fail
                  refine (h_serveO E2 A7 c7 w17 (fun k => (Value.slice A7 E2.length c7).ownBlock = some k) HV17.out HBO17.out ((HC17.out.str_any _).read (fun k hk => hk)) (fun k hk => by obtain ⟨cs, hc⟩ := HC17.out.block hk; exact ⟨cs, _, _, hc, by decide⟩) (by omega) HE2.out).mono ?_
                  rintro e w18 ⟨Ao, co, O, Z, b', hso, rfl, ho18, hv18, hb18, hq18⟩
                  have HSO := Lib.hid hso
                  have HV18 := Lib.hid hv18
                  have HBO18 := Lib.hid hb18
                  have HM18 := Lib.hid (hq18.rvn HM17.out hv18.kp (by decide) (by decide) (by decide) (by decide))
                  have HRO18 := Lib.hid (HRO17.out.keptQ hq18 (by decide))
                  have HO18 := Lib.hid (hq18.own HO17.out (by decide))
                  have HP18 := Lib.hid ho18
                  clear hso ho18 hv18 hb18 hq18 HC17 HV17 HM17 HBO17 HRO17 HO17
                  go_wp2_with fail
                  refine ⟨Reg.anew_nil, ?_⟩
                  repeat (first | (refine Reg.look rfl rfl rfl (by go_simp; rfl) rfl ?_; go_simp) | (refine Reg.skip rfl rfl rfl ?_; go_simp))
                  refine Reg.act rfl ?_
                  go_wp2_with fail
                  refine (e_serveO E2 A2 c2 w18 (fun k => (Value.slice A2 E2.length c2).ownBlock = some k) HM18.out HX.out (Nat.le_trans HFX.out (by decide)) HRO18.out ((HO18.out.str_any _).read (fun k hk => hk)) (fun k hk => by obtain ⟨cs, hc⟩ := HO18.out.block hk; exact ⟨cs, _, _, hc, by decide⟩) (by omega) HE2.out).mono ?_
                  rintro e w19 ⟨Ao2, co2, O2, Z2, b2, kv2, hso2, rfl, ho19, hm19, hf19, hr19, hk19⟩
                  rw [HSO.out] at hso2
                  simp only [Prod.mk.injEq] at hso2
                  obtain ⟨rfl, rfl, rfl⟩ := hso2
                  obtain ⟨A8, c8, rfl⟩ := hm19.shape
                  have HV19 := Lib.hid (hk19.vaultD HV18.out)
                  have HBO19 := Lib.hid (HBO18.out.keptQ hk19.q (by decide))
                  have HO19 := Lib.hid (hk19.own HO18.out (by decide))
                  have HP19 := Lib.hid (hk19.own HP18.out (by decide))
                  have HM19 := Lib.hid hm19
                  have HRO19 := Lib.hid hr19
                  have hsm := r_same O O Ao Ao2 co co2 w19 _ _ HP19.out.readFrom ho19.readFrom
                  rw [decide_eq_true rfl] at hsm
                  have HSM := Lib.hid hsm
                  have hlf := HLF.out
                  rw [HSO.out] at hlf
                  have HLZ : Hid (Loose Z) := Lib.hid hlf.1
                  have HFZ : Hid (Z.d.files.length ≤ 9000) := Lib.hid (Nat.le_trans hlf.2 HFX.out)
                  clear hlf HLF HX HFX HSO ho19 hm19 hf19 hr19 hk19 hsm HV18 HBO18 HM18 HRO18 HO18 HP18
                  go_wp2_with fail
                  refine ⟨Reg.anew_nil, ?_⟩
                  refine Reg.act rfl ?_
                  go_wp2_with fail
                  refine HSM.out.mono ?_
                  rintro e w20 ⟨rfl, qn, hqn⟩
                  have hk20 : Kp No w19 w20 := by rw [hqn]; exact (Kp.refl _ _).drewN qn
                  have HV20 := Lib.hid (HV19.out.kept hk20)
                  have HBO20 := Lib.hid (HBO19.out.keptQ (KpQ.ofNo (Ty := fun _ => False) hk20) id)
                  have HRO20 := Lib.hid (HRO19.out.keptQ (KpQ.ofNo (Ty := fun _ => False) hk20) id)
                  have HO20 := Lib.hid (HO19.out.keptNo hk20)
                  have HM20 := Lib.hid (HM19.out.kept hk20)
                  have c20 : w20.cell? ⟨m, 2, none⟩ = some (.slice A8 (names Z).length c8) := Blk.cell HM20.out.blk rfl
                  clear hk20 hqn HSM HV19 HBO19 HRO19 HO19 HM19 HP19
                  go_wp2_with fail
                  refine ⟨Reg.anew_nil, ?_⟩
                  repeat (first | (refine Reg.look rfl rfl rfl (by go_simp; rfl) rfl ?_; go_simp) | (refine Reg.skip rfl rfl rfl ?_; go_simp))
                  refine Reg.act rfl ?_
                  go_wp2_with fail
                  refine (u_list w20 HV20.out (fun p hp => by rw [HLZ.out.keys p hp]; decide)).mono ?_
                  rintro e w21 ⟨A9, c9, rfl, hown21, hk21⟩
                  have hln := listV_names HLZ.out
                  rw [hln] at hown21
                  rw [hln]
                  have HV21 := Lib.hid (HV20.out.kept hk21)
                  have HBO21 := Lib.hid (HBO20.out.keptQ (KpQ.ofNo (Ty := fun _ => False) hk21) id)
                  have HRO21 := Lib.hid (HRO20.out.keptQ (KpQ.ofNo (Ty := fun _ => False) hk21) id)
                  have HO21 := Lib.hid (HO20.out.keptNo hk21)
                  have HM21 := Lib.hid (HM20.out.kept hk21)
                  have c21 : w21.cell? ⟨m, 2, none⟩ = some (.slice A8 (names Z).length c8) := Blk.cell HM21.out.blk rfl
                  have hsm := r_same (names Z) (names Z) A9 A8 c9 c8 w21 _ _ hown21.readFrom HM21.out.own.readFrom
                  rw [decide_eq_true rfl] at hsm
                  have HSM := Lib.hid hsm
                  clear hown21 hk21 hln hsm HV20 HBO20 HRO20 HO20 HM20
                  go_wp2_with fail
                  (refine ⟨?anew, ?_⟩; case anew => ((repeat (refine Reg.anew_cons rfl rfl (fun _ => by go_simp) ?_)); exact Reg.anew_nil))
                  repeat (first | (refine Reg.look rfl rfl rfl (by go_simp; rfl) rfl ?_; go_simp) | (refine Reg.skip rfl rfl rfl ?_; go_simp))
                  refine Reg.act rfl ?_
                  go_wp2_with fail
                  refine HSM.out.mono ?_
                  rintro e w22 ⟨rfl, qn2, hqn⟩
                  have hk22 : Kp No w21 w22 := by rw [hqn]; exact (Kp.refl _ _).drewN qn2
                  have HV22 := Lib.hid (HV21.out.kept hk22)
                  have HBO22 := Lib.hid (HBO21.out.keptQ (KpQ.ofNo (Ty := fun _ => False) hk22) id)
                  have HRO22 := Lib.hid (HRO21.out.keptQ (KpQ.ofNo (Ty := fun _ => False) hk22) id)
                  have HO22 := Lib.hid (HO21.out.keptNo hk22)
                  have HM22 := Lib.hid (HM21.out.kept hk22)
                  clear hk22 hqn HSM HV21 HBO21 HRO21 HO21 HM21 c20 c21
                  go_wp2_with fail
                  refine ⟨Reg.anew_nil, ?_⟩
                  repeat (first | (refine Reg.look rfl rfl rfl (by go_simp; rfl) rfl ?_; go_simp) | (refine Reg.skip rfl rfl rfl ?_; go_simp))
                  (refine Reg.done ?_; simp only [Exit.then])
                  go_wp2_with fail
                  go_roundw
                  case rel => exact ⟨j + 1, Z, _, b', by omega, by go_num, HV22.out, HM22.out, HLZ, HFZ.out, HBO22, HRO22, HO22⟩
                  case measure => simp [intOf]; omega
                · obtain rfl : j = 2 := by omega
                  have HKV := Lib.hid HV.out.kp
                  clear HV HM HX HFX HBO HRO HO
                  go_wp2_with fail
                  refine Reg.wp_region_plan [⟨0, false, []⟩, ⟨1, false, []⟩, ⟨2, false, []⟩, ⟨3, false, []⟩, ⟨5, false, []⟩, ⟨6, false, []⟩, ⟨7, false, []⟩, ⟨8, false, []⟩, ⟨4, true, [6, 7, 8]⟩, ⟨9, false, []⟩, ⟨10, false, []⟩, ⟨11, false, []⟩] rfl (by kernel_rfl) ?_
                  repeat (first | (refine Reg.look rfl rfl rfl (by go_simp; rfl) rfl ?_; go_simp) | (refine Reg.skip rfl rfl rfl ?_; go_simp))
                  refine Reg.act rfl ?_
                  go_wp2_with fail
                  refine ⟨?anew, ?_⟩
                  case anew =>
                    (repeat (refine Reg.anew_cons rfl rfl (fun h => absurd (show false = true from h) Bool.false_ne_true) ?_))
                    exact Reg.anew_nil
                  repeat (first | (refine Reg.look rfl rfl rfl (by go_simp; rfl) rfl ?_; go_simp) | (refine Reg.skip rfl rfl rfl ?_; go_simp))
                  (refine Reg.done ?_; simp only [Exit.then])
                  go_wp2_with fail
                  go_ret
                  exact ⟨rfl, HKV.out.drew⟩
          · have hb1 := b_new_ok r u wr (by omega) (by omega) (by omega) (by omega)
            have HB1 := Lib.hid hb1
            have hb2 := fun w => r_new_ok r u w (by omega) (by omega) (by omega) (by omega)
            have HB2 := Lib.hid hb2
            clear hb1 hb2 hbad
            go_wp2_with fail
            refine HB1.out.mono ?_
            rintro e w15 ⟨rfl, hbk, hk15⟩
            obtain ⟨kb, hkb⟩ : ∃ kb, wr.heap.size = kb := ⟨_, rfl⟩
            have hkg : W.heap.size ≤ kb := by rw [← hkb]; exact HV.out.kp.size
            rw [hkb] at hbk
            rw [hkb]
            clear hkb
            go_wp2_with fail
            refine (HB2.out w15).mono ?_
            rintro e wt ⟨rfl, hrk, hk16⟩
            obtain ⟨kr, hkr⟩ : ∃ kr, w15.heap.size = kr := ⟨_, rfl⟩
            have hrg : W.heap.size ≤ kr := by rw [← hkr]; exact Nat.le_trans HV.out.kp.size hk15.size
            rw [hkr] at hrk
            rw [hkr]
            have hk17 : Kp No wr wt := hk15.trans' hk16
            have HO := Lib.hid (HO.out.keptNo hk17)
            have HV := Lib.hid (HV.out.kept hk17)
            have HM := Lib.hid (HM.out.kept hk17)
            have HWR := Lib.hid (Nat.le_trans HWR.out hk17.size)
            have hbk2 : Bk wt kb r u (u - u) := by rw [show u - u = 0 by omega]; exact hbk.kept hk16 (fun x => x)
            cases fr with
            | true =>
              have HBO : Hid (BO W wt (.pointer none) none r u) := Lib.hid (.inl ⟨rfl, rfl⟩)
              have HRO : Hid (RO W wt (.pointer none) none r u) := Lib.hid (.inl ⟨rfl, rfl⟩)
              clear hkr hk15 hk16 hk17 hbk hrk hbk2 hkg hrg HB1 HB2
              go_wp2_with (at_builtin; refine wpList_append_rp (E := Rp.str) rfl wt (.tmp 123) (.tmp 124) 22 rfl w6.heap.size 9 16 el_strS (fun k => k < W.heap.size) (.slice Av D.length cv) D rfl ?h0 Ah ch (fun k => k < W.heap.size) hs rfl ?hsrc Rp.str_one ?hcap ?hby ?hbase (fun _ h => h) ?hsv ?_)
              case h0 => exact HO.out.str_any _
              case hsrc => exact Rp.str.slice.keptNo HH.out HV.out.kp
              case hcap => simp [maxLen]; omega
              case hby => omega
              case hbase => exact HWR.out
              case hsv => intro k hk hk2; have := (HO.out.lt k hk).1; have := HW6.out; omega
              intro v16 w16 hown hgr hbl
              obtain ⟨A2, c2, rfl⟩ := hown.shape
              obtain ⟨E2, hE2⟩ : ∃ E2, D ++ hs = E2 := ⟨_, rfl⟩
              rw [hE2] at hown hbl ⊢
              have hE2l : E2.length ≤ 10000 := by rw [← hE2, List.length_append]; omega
              have HE2 : Hid (∀ x ∈ E2, x.size ≤ 1048576) := Lib.hid (by
                intro x hx
                rw [← hE2] at hx
                rcases List.mem_append.1 hx with hx | hx
                · rw [HDZ.out x hx]; decide
                · have := HMH.out x hx; omega)
              have hk16 : Kp (fun k => (Value.slice Av D.length cv).ownBlock = some k) wt w16 := (Kp.refl _ wt).grown hgr (fun g hg _ => hg)
              have HO16 := Lib.hid (hown.str_any No)
              have HV16 := Lib.hid (HV.out.others hk16 (fun k hk => by have := (HO.out.lt k hk).1; have := HW6.out; omega) (fun k hk => by obtain ⟨cs, hc⟩ := HO.out.block hk; exact ⟨cs, _, _, hc, by decide⟩))
              have HM16 := Lib.hid (HM.out.keptS hk16 (fun k hk => by have := (HO.out.lt k hk).1; have := HW6.out; omega) (fun k hk => ⟨HAP.out k hk, by obtain ⟨cs, hc⟩ := HO.out.block hk; exact ⟨cs, _, hc⟩⟩))
              have hq16 : KpQ (fun e => e = 9) wt w16 := ⟨_, hk16, fun g cs e fr hg hk => by
                obtain ⟨cs', hc⟩ := HO.out.block hk
                rw [hg] at hc; injection hc with hc; injection hc with _ hc⟩
              have HBO16 := Lib.hid (HBO.out.keptQ hq16 (by decide))
              have HRO16 := Lib.hid (HRO.out.keptQ hq16 (by decide))
              clear hown hgr hbl hE2 hk16 hq16 HO HV HM HAP HBO HRO HWR
              go_wp2_with fail
              generalize X = X16 at *
              generalize kv = kv16 at *
              go_loopw [126] (fun jv wr => ∃ (j : Nat) (X : VV) (kv : Value) (b : Option Int), j ≤ 2 ∧ jv = .int .i64 (j : Int) ∧ VNew W wr v d X ∧ RVn W wr m rr kv X ∧ Hid (Loose X) ∧ X.d.files.length ≤ 9000 ∧ Hid (BO W wr (.pointer none) b r u) ∧ Hid (RO W wr (.pointer none) b r u) ∧ Hid (Own Rp.str wr No w6.heap.size 9 (.slice A2 E2.length c2) E2)) (fun jv _ => 2 - (intOf jv).toNat)
              case atStart => exact ⟨0, X16, kv16, none, by omega, rfl, HV16.out, HM16.out, HX, HFX.out, HBO16, HRO16, HO16⟩
              case round =>
                clear HV16 HM16 HX HFX HBO16 HRO16 HO16
                obtain ⟨j, X, kv, b, hj, rfl, hv, hm, HX, hfx, HBO, HRO, HO⟩ := hrel
                have HV := Lib.hid hv
                have HM := Lib.hid hm
                have HFX := Lib.hid hfx
                clear hv hm hfx
                by_cases hj2 : j < 2
                · have hji : (j : Int) < 2 := by omega
                  go_wp2_with fail
                  refine Reg.wp_region_plan [⟨0, false, []⟩, ⟨1, false, []⟩, ⟨3, false, []⟩, ⟨6, false, []⟩, ⟨7, false, []⟩, ⟨8, false, []⟩, ⟨2, true, []⟩, ⟨4, true, []⟩, ⟨5, true, []⟩, ⟨9, true, []⟩, ⟨10, true, []⟩, ⟨11, false, []⟩, ⟨12, false, []⟩, ⟨13, false, []⟩, ⟨15, false, []⟩, ⟨16, false, []⟩, ⟨17, false, []⟩, ⟨18, false, []⟩, ⟨14, true, [16, 17, 18]⟩, ⟨19, true, []⟩, ⟨20, false, []⟩, ⟨21, false, []⟩] rfl (by kernel_rfl) ?_
                  repeat (first | (refine Reg.look rfl rfl rfl (by go_simp; rfl) rfl ?_; go_simp) | (refine Reg.skip rfl rfl rfl ?_; go_simp))
                  refine Reg.act rfl ?_
                  go_wp2
                  refine ⟨Reg.anew_nil, ?_⟩
                  refine Reg.act rfl ?_
                  refine wpList_copy_at (E := Rp.str) rfl wr _ wr.heap.size (.tmp 130) (.tmp 131) 22 rfl 9 16 el_strS rfl (heap_alloc_new wr _) (Nat.le_refl _) ((Kp.refl _ wr).alloc _).drew A2 c2 _ E2 rfl HO.out.readFrom Rp.str_one (by omega) ?_
                  intro A7 c7 w17 hown hk17
                  have HC17 := Lib.hid (hown.str_any No)
                  have HV17 := Lib.hid (HV.out.kept hk17)
                  have HM17 := Lib.hid (HM.out.kept hk17)
                  have HBO17 := Lib.hid (HBO.out.keptQ (KpQ.ofNo (Ty := fun _ => False) hk17) id)
                  have HRO17 := Lib.hid (HRO.out.keptQ (KpQ.ofNo (Ty := fun _ => False) hk17) id)
                  have HO17 := Lib.hid (HO.out.keptNo hk17)
                  have hLF := serveO_files E2 X b HX.out
                  have HLF := Lib.hid hLF
                  clear hown hk17 HV HM HBO HRO HO hLF
                  go_wp2
                  refine ⟨Reg.anew_nil, ?_⟩
                  refine Reg.act rfl ?_
                  go_wp2_with fail
                  refine (h_serveO E2 A7 c7 w17 (fun k => (Value.slice A7 E2.length c7).ownBlock = some k) HV17.out HBO17.out ((HC17.out.str_any _).read (fun k hk => hk)) (fun k hk => by obtain ⟨cs, hc⟩ := HC17.out.block hk; exact ⟨cs, _, _, hc, by decide⟩) (by omega) HE2.out).mono ?_
                  rintro e w18 ⟨Ao, co, O, Z, b', hso, rfl, ho18, hv18, hb18, hq18⟩
                  have HSO := Lib.hid hso
                  have HV18 := Lib.hid hv18
                  have HBO18 := Lib.hid hb18
                  have HM18 := Lib.hid (hq18.rvn HM17.out hv18.kp (by decide) (by decide) (by decide) (by decide))
                  have HRO18 := Lib.hid (HRO17.out.keptQ hq18 (by decide))
                  have HO18 := Lib.hid (hq18.own HO17.out (by decide))
                  have HP18 := Lib.hid ho18
                  clear hso ho18 hv18 hb18 hq18 HC17 HV17 HM17 HBO17 HRO17 HO17
                  go_wp2_with fail
                  refine ⟨Reg.anew_nil, ?_⟩
                  repeat (first | (refine Reg.look rfl rfl rfl (by go_simp; rfl) rfl ?_; go_simp) | (refine Reg.skip rfl rfl rfl ?_; go_simp))
                  refine Reg.act rfl ?_
                  go_wp2_with fail
                  refine (e_serveO E2 A2 c2 w18 (fun k => (Value.slice A2 E2.length c2).ownBlock = some k) HM18.out HX.out (Nat.le_trans HFX.out (by decide)) HRO18.out ((HO18.out.str_any _).read (fun k hk => hk)) (fun k hk => by obtain ⟨cs, hc⟩ := HO18.out.block hk; exact ⟨cs, _, _, hc, by decide⟩) (by omega) HE2.out).mono ?_
                  rintro e w19 ⟨Ao2, co2, O2, Z2, b2, kv2, hso2, rfl, ho19, hm19, hf19, hr19, hk19⟩
                  rw [HSO.out] at hso2
                  simp only [Prod.mk.injEq] at hso2
                  obtain ⟨rfl, rfl, rfl⟩ := hso2
                  obtain ⟨A8, c8, rfl⟩ := hm19.shape
                  have HV19 := Lib.hid (hk19.vaultD HV18.out)
                  have HBO19 := Lib.hid (HBO18.out.keptQ hk19.q (by decide))
                  have HO19 := Lib.hid (hk19.own HO18.out (by decide))
                  have HP19 := Lib.hid (hk19.own HP18.out (by decide))
                  have HM19 := Lib.hid hm19
                  have HRO19 := Lib.hid hr19
                  have hsm := r_same O O Ao Ao2 co co2 w19 _ _ HP19.out.readFrom ho19.readFrom
                  rw [decide_eq_true rfl] at hsm
                  have HSM := Lib.hid hsm
                  have hlf := HLF.out
                  rw [HSO.out] at hlf
                  have HLZ : Hid (Loose Z) := Lib.hid hlf.1
                  have HFZ : Hid (Z.d.files.length ≤ 9000) := Lib.hid (Nat.le_trans hlf.2 HFX.out)
                  clear hlf HLF HX HFX HSO ho19 hm19 hf19 hr19 hk19 hsm HV18 HBO18 HM18 HRO18 HO18 HP18
                  go_wp2_with fail
                  refine ⟨Reg.anew_nil, ?_⟩
                  refine Reg.act rfl ?_
                  go_wp2_with fail
                  refine HSM.out.mono ?_
                  rintro e w20 ⟨rfl, qn, hqn⟩
                  have hk20 : Kp No w19 w20 := by rw [hqn]; exact (Kp.refl _ _).drewN qn
                  have HV20 := Lib.hid (HV19.out.kept hk20)
                  have HBO20 := Lib.hid (HBO19.out.keptQ (KpQ.ofNo (Ty := fun _ => False) hk20) id)
                  have HRO20 := Lib.hid (HRO19.out.keptQ (KpQ.ofNo (Ty := fun _ => False) hk20) id)
                  have HO20 := Lib.hid (HO19.out.keptNo hk20)
                  have HM20 := Lib.hid (HM19.out.kept hk20)
                  have c20 : w20.cell? ⟨m, 2, none⟩ = some (.slice A8 (names Z).length c8) := Blk.cell HM20.out.blk rfl
                  clear hk20 hqn HSM HV19 HBO19 HRO19 HO19 HM19 HP19
                  go_wp2_with fail
                  refine ⟨Reg.anew_nil, ?_⟩
                  repeat (first | (refine Reg.look rfl rfl rfl (by go_simp; rfl) rfl ?_; go_simp) | (refine Reg.skip rfl rfl rfl ?_; go_simp))
                  refine Reg.act rfl ?_
                  go_wp2_with fail
                  refine (u_list w20 HV20.out (fun p hp => by rw [HLZ.out.keys p hp]; decide)).mono ?_
                  rintro e w21 ⟨A9, c9, rfl, hown21, hk21⟩
                  have hln := listV_names HLZ.out
                  rw [hln] at hown21
                  rw [hln]
                  have HV21 := Lib.hid (HV20.out.kept hk21)
                  have HBO21 := Lib.hid (HBO20.out.keptQ (KpQ.ofNo (Ty := fun _ => False) hk21) id)
                  have HRO21 := Lib.hid (HRO20.out.keptQ (KpQ.ofNo (Ty := fun _ => False) hk21) id)
                  have HO21 := Lib.hid (HO20.out.keptNo hk21)
                  have HM21 := Lib.hid (HM20.out.kept hk21)
                  have c21 : w21.cell? ⟨m, 2, none⟩ = some (.slice A8 (names Z).length c8) := Blk.cell HM21.out.blk rfl
                  have hsm := r_same (names Z) (names Z) A9 A8 c9 c8 w21 _ _ hown21.readFrom HM21.out.own.readFrom
                  rw [decide_eq_true rfl] at hsm
                  have HSM := Lib.hid hsm
                  clear hown21 hk21 hln hsm HV20 HBO20 HRO20 HO20 HM20
                  go_wp2_with fail
                  (refine ⟨?anew, ?_⟩; case anew => ((repeat (refine Reg.anew_cons rfl rfl (fun _ => by go_simp) ?_)); exact Reg.anew_nil))
                  repeat (first | (refine Reg.look rfl rfl rfl (by go_simp; rfl) rfl ?_; go_simp) | (refine Reg.skip rfl rfl rfl ?_; go_simp))
                  refine Reg.act rfl ?_
                  go_wp2_with fail
                  refine HSM.out.mono ?_
                  rintro e w22 ⟨rfl, qn2, hqn⟩
                  have hk22 : Kp No w21 w22 := by rw [hqn]; exact (Kp.refl _ _).drewN qn2
                  have HV22 := Lib.hid (HV21.out.kept hk22)
                  have HBO22 := Lib.hid (HBO21.out.keptQ (KpQ.ofNo (Ty := fun _ => False) hk22) id)
                  have HRO22 := Lib.hid (HRO21.out.keptQ (KpQ.ofNo (Ty := fun _ => False) hk22) id)
                  have HO22 := Lib.hid (HO21.out.keptNo hk22)
                  have HM22 := Lib.hid (HM21.out.kept hk22)
                  clear hk22 hqn HSM HV21 HBO21 HRO21 HO21 HM21 c20 c21
                  go_wp2_with fail
                  refine ⟨Reg.anew_nil, ?_⟩
                  repeat (first | (refine Reg.look rfl rfl rfl (by go_simp; rfl) rfl ?_; go_simp) | (refine Reg.skip rfl rfl rfl ?_; go_simp))
                  (refine Reg.done ?_; simp only [Exit.then])
                  go_wp2_with fail
                  go_roundw
                  case rel => exact ⟨j + 1, Z, _, b', by omega, by go_num, HV22.out, HM22.out, HLZ, HFZ.out, HBO22, HRO22, HO22⟩
                  case measure => simp [intOf]; omega
                · obtain rfl : j = 2 := by omega
                  have HKV := Lib.hid HV.out.kp
                  clear HV HM HX HFX HBO HRO HO
                  go_wp2_with fail
                  refine Reg.wp_region_plan [⟨0, false, []⟩, ⟨1, false, []⟩, ⟨2, false, []⟩, ⟨3, false, []⟩, ⟨5, false, []⟩, ⟨6, false, []⟩, ⟨7, false, []⟩, ⟨8, false, []⟩, ⟨4, true, [6, 7, 8]⟩, ⟨9, false, []⟩, ⟨10, false, []⟩, ⟨11, false, []⟩] rfl (by kernel_rfl) ?_
                  repeat (first | (refine Reg.look rfl rfl rfl (by go_simp; rfl) rfl ?_; go_simp) | (refine Reg.skip rfl rfl rfl ?_; go_simp))
                  refine Reg.act rfl ?_
                  go_wp2_with fail
                  refine ⟨?anew, ?_⟩
                  case anew =>
                    (repeat (refine Reg.anew_cons rfl rfl (fun h => absurd (show false = true from h) Bool.false_ne_true) ?_))
                    exact Reg.anew_nil
                  repeat (first | (refine Reg.look rfl rfl rfl (by go_simp; rfl) rfl ?_; go_simp) | (refine Reg.skip rfl rfl rfl ?_; go_simp))
                  (refine Reg.done ?_; simp only [Exit.then])
                  go_wp2_with fail
                  go_ret
                  exact ⟨rfl, HKV.out.drew⟩
            | false =>
              have HBO : Hid (BO W wt (.pointer (some ⟨kb, 0, none⟩)) (some u) r u) := Lib.hid (.inr ⟨kb, u, rfl, rfl, hbk2, hkg⟩)
              have HRO : Hid (RO W wt (.pointer (some ⟨kr, 0, none⟩)) (some u) r u) := Lib.hid (.inr ⟨kr, u, rfl, rfl, hrk, hrg⟩)
              clear hkr hk15 hk16 hk17 hbk hrk hbk2 hkg hrg HB1 HB2
              go_wp2_with (at_builtin; refine wpList_append_rp (E := Rp.str) rfl wt (.tmp 123) (.tmp 124) 22 rfl w6.heap.size 9 16 el_strS (fun k => k < W.heap.size) (.slice Av D.length cv) D rfl ?h0 Ah ch (fun k => k < W.heap.size) hs rfl ?hsrc Rp.str_one ?hcap ?hby ?hbase (fun _ h => h) ?hsv ?_)
              case h0 => exact HO.out.str_any _
              case hsrc => exact Rp.str.slice.keptNo HH.out HV.out.kp
              case hcap => simp [maxLen]; omega
              case hby => omega
              case hbase => exact HWR.out
              case hsv => intro k hk hk2; have := (HO.out.lt k hk).1; have := HW6.out; omega
              intro v16 w16 hown hgr hbl
              obtain ⟨A2, c2, rfl⟩ := hown.shape
              obtain ⟨E2, hE2⟩ : ∃ E2, D ++ hs = E2 := ⟨_, rfl⟩
              rw [hE2] at hown hbl ⊢
              have hE2l : E2.length ≤ 10000 := by rw [← hE2, List.length_append]; omega
              have HE2 : Hid (∀ x ∈ E2, x.size ≤ 1048576) := Lib.hid (by
                intro x hx
                rw [← hE2] at hx
                rcases List.mem_append.1 hx with hx | hx
                · rw [HDZ.out x hx]; decide
                · have := HMH.out x hx; omega)
              have hk16 : Kp (fun k => (Value.slice Av D.length cv).ownBlock = some k) wt w16 := (Kp.refl _ wt).grown hgr (fun g hg _ => hg)
              have HO16 := Lib.hid (hown.str_any No)
              have HV16 := Lib.hid (HV.out.others hk16 (fun k hk => by have := (HO.out.lt k hk).1; have := HW6.out; omega) (fun k hk => by obtain ⟨cs, hc⟩ := HO.out.block hk; exact ⟨cs, _, _, hc, by decide⟩))
              have HM16 := Lib.hid (HM.out.keptS hk16 (fun k hk => by have := (HO.out.lt k hk).1; have := HW6.out; omega) (fun k hk => ⟨HAP.out k hk, by obtain ⟨cs, hc⟩ := HO.out.block hk; exact ⟨cs, _, hc⟩⟩))
              have hq16 : KpQ (fun e => e = 9) wt w16 := ⟨_, hk16, fun g cs e fr hg hk => by
                obtain ⟨cs', hc⟩ := HO.out.block hk
                rw [hg] at hc; injection hc with hc; injection hc with _ hc⟩
              have HBO16 := Lib.hid (HBO.out.keptQ hq16 (by decide))
              have HRO16 := Lib.hid (HRO.out.keptQ hq16 (by decide))
              clear hown hgr hbl hE2 hk16 hq16 HO HV HM HAP HBO HRO HWR
              go_wp2_with fail
              generalize X = X16 at *
              generalize kv = kv16 at *
              go_loopw [126] (fun jv wr => ∃ (j : Nat) (X : VV) (kv : Value) (b : Option Int), j ≤ 2 ∧ jv = .int .i64 (j : Int) ∧ VNew W wr v d X ∧ RVn W wr m rr kv X ∧ Hid (Loose X) ∧ X.d.files.length ≤ 9000 ∧ Hid (BO W wr (.pointer (some ⟨kb, 0, none⟩)) b r u) ∧ Hid (RO W wr (.pointer (some ⟨kr, 0, none⟩)) b r u) ∧ Hid (Own Rp.str wr No w6.heap.size 9 (.slice A2 E2.length c2) E2)) (fun jv _ => 2 - (intOf jv).toNat)
              case atStart => exact ⟨0, X16, kv16, some u, by omega, rfl, HV16.out, HM16.out, HX, HFX.out, HBO16, HRO16, HO16⟩
              case round =>
                clear HV16 HM16 HX HFX HBO16 HRO16 HO16
                obtain ⟨j, X, kv, b, hj, rfl, hv, hm, HX, hfx, HBO, HRO, HO⟩ := hrel
                have HV := Lib.hid hv
                have HM := Lib.hid hm
                have HFX := Lib.hid hfx
                clear hv hm hfx
                by_cases hj2 : j < 2
                · have hji : (j : Int) < 2 := by omega
                  go_wp2_with fail
                  refine Reg.wp_region_plan [⟨0, false, []⟩, ⟨1, false, []⟩, ⟨3, false, []⟩, ⟨6, false, []⟩, ⟨7, false, []⟩, ⟨8, false, []⟩, ⟨2, true, []⟩, ⟨4, true, []⟩, ⟨5, true, []⟩, ⟨9, true, []⟩, ⟨10, true, []⟩, ⟨11, false, []⟩, ⟨12, false, []⟩, ⟨13, false, []⟩, ⟨15, false, []⟩, ⟨16, false, []⟩, ⟨17, false, []⟩, ⟨18, false, []⟩, ⟨14, true, [16, 17, 18]⟩, ⟨19, true, []⟩, ⟨20, false, []⟩, ⟨21, false, []⟩] rfl (by kernel_rfl) ?_
                  repeat (first | (refine Reg.look rfl rfl rfl (by go_simp; rfl) rfl ?_; go_simp) | (refine Reg.skip rfl rfl rfl ?_; go_simp))
                  refine Reg.act rfl ?_
                  go_wp2
                  refine ⟨Reg.anew_nil, ?_⟩
                  refine Reg.act rfl ?_
                  refine wpList_copy_at (E := Rp.str) rfl wr _ wr.heap.size (.tmp 130) (.tmp 131) 22 rfl 9 16 el_strS rfl (heap_alloc_new wr _) (Nat.le_refl _) ((Kp.refl _ wr).alloc _).drew A2 c2 _ E2 rfl HO.out.readFrom Rp.str_one (by omega) ?_
                  intro A7 c7 w17 hown hk17
                  have HC17 := Lib.hid (hown.str_any No)
                  have HV17 := Lib.hid (HV.out.kept hk17)
                  have HM17 := Lib.hid (HM.out.kept hk17)
                  have HBO17 := Lib.hid (HBO.out.keptQ (KpQ.ofNo (Ty := fun _ => False) hk17) id)
                  have HRO17 := Lib.hid (HRO.out.keptQ (KpQ.ofNo (Ty := fun _ => False) hk17) id)
                  have HO17 := Lib.hid (HO.out.keptNo hk17)
                  have hLF := serveO_files E2 X b HX.out
                  have HLF := Lib.hid hLF
                  clear hown hk17 HV HM HBO HRO HO hLF
                  go_wp2
                  refine ⟨Reg.anew_nil, ?_⟩
                  refine Reg.act rfl ?_
                  go_wp2_with fail
                  refine (h_serveO E2 A7 c7 w17 (fun k => (Value.slice A7 E2.length c7).ownBlock = some k) HV17.out HBO17.out ((HC17.out.str_any _).read (fun k hk => hk)) (fun k hk => by obtain ⟨cs, hc⟩ := HC17.out.block hk; exact ⟨cs, _, _, hc, by decide⟩) (by omega) HE2.out).mono ?_
                  rintro e w18 ⟨Ao, co, O, Z, b', hso, rfl, ho18, hv18, hb18, hq18⟩
                  have HSO := Lib.hid hso
                  have HV18 := Lib.hid hv18
                  have HBO18 := Lib.hid hb18
                  have HM18 := Lib.hid (hq18.rvn HM17.out hv18.kp (by decide) (by decide) (by decide) (by decide))
                  have HRO18 := Lib.hid (HRO17.out.keptQ hq18 (by decide))
                  have HO18 := Lib.hid (hq18.own HO17.out (by decide))
                  have HP18 := Lib.hid ho18
                  clear hso ho18 hv18 hb18 hq18 HC17 HV17 HM17 HBO17 HRO17 HO17
                  go_wp2_with fail
                  refine ⟨Reg.anew_nil, ?_⟩
                  repeat (first | (refine Reg.look rfl rfl rfl (by go_simp; rfl) rfl ?_; go_simp) | (refine Reg.skip rfl rfl rfl ?_; go_simp))
                  refine Reg.act rfl ?_
                  go_wp2_with fail
                  refine (e_serveO E2 A2 c2 w18 (fun k => (Value.slice A2 E2.length c2).ownBlock = some k) HM18.out HX.out (Nat.le_trans HFX.out (by decide)) HRO18.out ((HO18.out.str_any _).read (fun k hk => hk)) (fun k hk => by obtain ⟨cs, hc⟩ := HO18.out.block hk; exact ⟨cs, _, _, hc, by decide⟩) (by omega) HE2.out).mono ?_
                  rintro e w19 ⟨Ao2, co2, O2, Z2, b2, kv2, hso2, rfl, ho19, hm19, hf19, hr19, hk19⟩
                  rw [HSO.out] at hso2
                  simp only [Prod.mk.injEq] at hso2
                  obtain ⟨rfl, rfl, rfl⟩ := hso2
                  obtain ⟨A8, c8, rfl⟩ := hm19.shape
                  have HV19 := Lib.hid (hk19.vaultD HV18.out)
                  have HBO19 := Lib.hid (HBO18.out.keptQ hk19.q (by decide))
                  have HO19 := Lib.hid (hk19.own HO18.out (by decide))
                  have HP19 := Lib.hid (hk19.own HP18.out (by decide))
                  have HM19 := Lib.hid hm19
                  have HRO19 := Lib.hid hr19
                  have hsm := r_same O O Ao Ao2 co co2 w19 _ _ HP19.out.readFrom ho19.readFrom
                  rw [decide_eq_true rfl] at hsm
                  have HSM := Lib.hid hsm
                  have hlf := HLF.out
                  rw [HSO.out] at hlf
                  have HLZ : Hid (Loose Z) := Lib.hid hlf.1
                  have HFZ : Hid (Z.d.files.length ≤ 9000) := Lib.hid (Nat.le_trans hlf.2 HFX.out)
                  clear hlf HLF HX HFX HSO ho19 hm19 hf19 hr19 hk19 hsm HV18 HBO18 HM18 HRO18 HO18 HP18
                  go_wp2_with fail
                  refine ⟨Reg.anew_nil, ?_⟩
                  refine Reg.act rfl ?_
                  go_wp2_with fail
                  refine HSM.out.mono ?_
                  rintro e w20 ⟨rfl, qn, hqn⟩
                  have hk20 : Kp No w19 w20 := by rw [hqn]; exact (Kp.refl _ _).drewN qn
                  have HV20 := Lib.hid (HV19.out.kept hk20)
                  have HBO20 := Lib.hid (HBO19.out.keptQ (KpQ.ofNo (Ty := fun _ => False) hk20) id)
                  have HRO20 := Lib.hid (HRO19.out.keptQ (KpQ.ofNo (Ty := fun _ => False) hk20) id)
                  have HO20 := Lib.hid (HO19.out.keptNo hk20)
                  have HM20 := Lib.hid (HM19.out.kept hk20)
                  have c20 : w20.cell? ⟨m, 2, none⟩ = some (.slice A8 (names Z).length c8) := Blk.cell HM20.out.blk rfl
                  clear hk20 hqn HSM HV19 HBO19 HRO19 HO19 HM19 HP19
                  go_wp2_with fail
                  refine ⟨Reg.anew_nil, ?_⟩
                  repeat (first | (refine Reg.look rfl rfl rfl (by go_simp; rfl) rfl ?_; go_simp) | (refine Reg.skip rfl rfl rfl ?_; go_simp))
                  refine Reg.act rfl ?_
                  go_wp2_with fail
                  refine (u_list w20 HV20.out (fun p hp => by rw [HLZ.out.keys p hp]; decide)).mono ?_
                  rintro e w21 ⟨A9, c9, rfl, hown21, hk21⟩
                  have hln := listV_names HLZ.out
                  rw [hln] at hown21
                  rw [hln]
                  have HV21 := Lib.hid (HV20.out.kept hk21)
                  have HBO21 := Lib.hid (HBO20.out.keptQ (KpQ.ofNo (Ty := fun _ => False) hk21) id)
                  have HRO21 := Lib.hid (HRO20.out.keptQ (KpQ.ofNo (Ty := fun _ => False) hk21) id)
                  have HO21 := Lib.hid (HO20.out.keptNo hk21)
                  have HM21 := Lib.hid (HM20.out.kept hk21)
                  have c21 : w21.cell? ⟨m, 2, none⟩ = some (.slice A8 (names Z).length c8) := Blk.cell HM21.out.blk rfl
                  have hsm := r_same (names Z) (names Z) A9 A8 c9 c8 w21 _ _ hown21.readFrom HM21.out.own.readFrom
                  rw [decide_eq_true rfl] at hsm
                  have HSM := Lib.hid hsm
                  clear hown21 hk21 hln hsm HV20 HBO20 HRO20 HO20 HM20
                  go_wp2_with fail
                  (refine ⟨?anew, ?_⟩; case anew => ((repeat (refine Reg.anew_cons rfl rfl (fun _ => by go_simp) ?_)); exact Reg.anew_nil))
                  repeat (first | (refine Reg.look rfl rfl rfl (by go_simp; rfl) rfl ?_; go_simp) | (refine Reg.skip rfl rfl rfl ?_; go_simp))
                  refine Reg.act rfl ?_
                  go_wp2_with fail
                  refine HSM.out.mono ?_
                  rintro e w22 ⟨rfl, qn2, hqn⟩
                  have hk22 : Kp No w21 w22 := by rw [hqn]; exact (Kp.refl _ _).drewN qn2
                  have HV22 := Lib.hid (HV21.out.kept hk22)
                  have HBO22 := Lib.hid (HBO21.out.keptQ (KpQ.ofNo (Ty := fun _ => False) hk22) id)
                  have HRO22 := Lib.hid (HRO21.out.keptQ (KpQ.ofNo (Ty := fun _ => False) hk22) id)
                  have HO22 := Lib.hid (HO21.out.keptNo hk22)
                  have HM22 := Lib.hid (HM21.out.kept hk22)
                  clear hk22 hqn HSM HV21 HBO21 HRO21 HO21 HM21 c20 c21
                  go_wp2_with fail
                  refine ⟨Reg.anew_nil, ?_⟩
                  repeat (first | (refine Reg.look rfl rfl rfl (by go_simp; rfl) rfl ?_; go_simp) | (refine Reg.skip rfl rfl rfl ?_; go_simp))
                  (refine Reg.done ?_; simp only [Exit.then])
                  go_wp2_with fail
                  go_roundw
                  case rel => exact ⟨j + 1, Z, _, b', by omega, by go_num, HV22.out, HM22.out, HLZ, HFZ.out, HBO22, HRO22, HO22⟩
                  case measure => simp [intOf]; omega
                · obtain rfl : j = 2 := by omega
                  have HKV := Lib.hid HV.out.kp
                  rcases HBO.out with ⟨_, h⟩ | ⟨kb', n, hb, hbv, hbk, _⟩
                  · cases h
                  rcases HRO.out with ⟨_, h⟩ | ⟨kr', n', hb', hrv, hrk, _⟩
                  · cases h
                  simp only [Value.pointer.injEq, Option.some.injEq, Addr.mk.injEq, and_true] at hbv hrv
                  subst hbv hrv
                  rw [hb] at hb'
                  injection hb' with hb'
                  subst hb'
                  have c2r := hrk.c2
                  have hbl := b_left kb r u (u - n) wr.drew hbk
                  rw [show u - (u - n) = n by omega] at hbl
                  have HBL := Lib.hid hbl
                  have HRK := Lib.hid hrk
                  clear hb hbk hrk hbl HV HM HX HFX HBO HRO HO
                  go_wp2_with fail
                  refine Reg.wp_region_plan [⟨0, false, []⟩, ⟨1, false, []⟩, ⟨2, false, []⟩, ⟨3, false, []⟩, ⟨5, false, []⟩, ⟨6, false, []⟩, ⟨7, false, []⟩, ⟨8, false, []⟩, ⟨4, true, [6, 7, 8]⟩, ⟨9, false, []⟩, ⟨10, false, []⟩, ⟨11, false, []⟩] rfl (by kernel_rfl) ?_
                  repeat (first | (refine Reg.look rfl rfl rfl (by go_simp; rfl) rfl ?_; go_simp) | (refine Reg.skip rfl rfl rfl ?_; go_simp))
                  refine Reg.act rfl ?_
                  go_wp2_with fail
                  refine HBL.out.mono ?_
                  rintro e w23 ⟨rfl, qn, hqn⟩
                  have hk23 : Kp No wr w23 := by rw [hqn]; exact ((Kp.refl No wr).drew).drewN qn
                  have c2s : w23.cell? ⟨kr, 2, none⟩ = some (.int .i64 n) := (HRK.out.kept hk23 (fun x => x)).c2
                  have HKW := Lib.hid (HKV.out.trans' hk23)
                  clear hk23 hqn
                  go_wp2_with fail
                  (refine ⟨?anew, ?_⟩; case anew => ((repeat (refine Reg.anew_cons rfl rfl (fun _ => by go_simp) ?_)); exact Reg.anew_nil))
                  repeat (first | (refine Reg.look rfl rfl rfl (by go_simp; rfl) rfl ?_; go_simp) | (refine Reg.skip rfl rfl rfl ?_; go_simp))
                  (refine Reg.done ?_; simp only [Exit.then])
                  go_wp2_with fail
                  go_ret
                  exact ⟨rfl, HKW.out⟩
theorem huntServes_holds : Rows.HuntServesSaid := huntServes_of huntServes_walk
#print axioms huntServes_holds
end Go.Proofs.YtflodiljgphkdaaGreat
