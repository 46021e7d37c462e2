/-
  Of what goes out each one has the digest that was asked for, in order; and no more bytes go than the bucket held: HuntBound answers true for every input. No condition.
-/
import Derived.Test.YtflodiljgphkdaaServ
import Derived.Test.YtflodiljgphkdaaHnt
import Derived.Test.YtflodiljgphkdaaFHuntBound
namespace Go.Proofs.Ytflodiljgphkdaa
open Go.RowKit Go.ChangeShapes Go.WideShapes Go.ChangeAt

theorem bytes_list_bneB (a b : ByteArray) : (a.toList == b.toList) = decide (a = b) := by
  by_cases h : a = b
  · subst h; simp
  · simp only [h, decide_false, beq_eq_false_iff_ne]
    intro e
    rw [ByteArray.toList_eq, ByteArray.toList_eq] at e
    exact h (WideShapes.bytes_inj e)
theorem sum1B (s : ByteArray) (hs : s.size ≤ 1048576) (w : World) (ty : TypeId) : Calls Try.prog 35 #[.slice (some ⟨w.heap.size, 0, none⟩) 1 1] (w.alloc (.cells #[.string s] ty)) fun e w' => e = .returned (.string (digest s)) ∧ Kp No w w' :=
  (t_sum1 s (w.alloc (.cells #[.string s] ty)) (g := w.heap.size) (heap_alloc_new w _) hs).mono fun _ _ ⟨h1, h2⟩ => ⟨h1, ((Kp.refl No w).alloc _).trans' h2⟩
/-- the bytes of texts -/
def sizes (l : List ByteArray) : Int := (l.map fun s => (s.size : Int)).sum
theorem sizes_cons (s : ByteArray) (l : List ByteArray) : sizes (s :: l) = s.size + sizes l := by unfold sizes; rw [List.map_cons, List.sum_cons]
theorem sizes_nonneg : ∀ l : List ByteArray, 0 ≤ sizes l
  | [] => Int.le_refl _
  | s :: l => by rw [sizes_cons]; have := sizes_nonneg l; omega
theorem serveV_law : ∀ (l : List ByteArray) (X : VV) (n : Int), 0 ≤ n → ((serveV l X n).1.map digest).Sublist l ∧ (serveV l X n).2.2 = n - sizes (serveV l X n).1 ∧ 0 ≤ (serveV l X n).2.2 ∧ ∀ s ∈ (serveV l X n).1, s.size ≤ 64
  | [], X, n, hn => by simp [serveV, sizes, hn]
  | h :: t, X, n, hn => by
    unfold serveV
    rcases getV_cases h X with ⟨s, hs, _, hs64, hd⟩ | ⟨e, he, hne⟩
    · rw [hs]
      rw [if_neg (by simp)]
      by_cases hm : n < (s.size : Int)
      · rw [if_pos hm]
        exact ⟨List.nil_sublist _, by simp [sizes], hn, by simp⟩
      · rw [if_neg hm]
        obtain ⟨h1, h2, h3, h4⟩ := serveV_law t (getV h X).2 (n - (s.size : Int)) (by omega)
        refine ⟨?_, ?_, h3, ?_⟩
        · rw [List.map_cons, hd]; exact h1.cons_cons h
        · rw [sizes_cons]; simp only; rw [h2]; omega
        · intro y hy
          rcases List.mem_cons.1 hy with rfl | hy
          · exact hs64
          · exact h4 y hy
    · rw [he]
      rw [if_pos hne]
      obtain ⟨h1, h2, h3, h4⟩ := serveV_law t (getV h X).2 n hn
      exact ⟨h1.cons h, h2, h3, h4⟩
/-- amid the list: what is left has its digests, in order, among what is left of those asked for -/
def HbRel (D O : List ByteArray) (n : Int) (j a : Nat) (x : Int) : Prop := ((O.drop j).map digest).Sublist (D.drop a) ∧ x - sizes (O.drop j) = n ∧ a ≤ D.length
theorem HbRel.skip {D O : List ByteArray} {n x : Int} {j a : Nat} {s q : ByteArray} (h : HbRel D O n j a x) (hs : O[j]? = some s) (hq : D[a]? = some q) (hne : q ≠ digest s) : HbRel D O n j (a + 1) x := by
  obtain ⟨h1, h2, h3⟩ := h
  refine ⟨?_, h2, (List.getElem?_eq_some_iff.1 hq).1⟩
  rw [drop_cons hs, drop_cons hq, List.map_cons] at h1
  rw [drop_cons hs, List.map_cons]
  cases h1 with
  | cons _ h => exact h
  | cons_cons _ h => exact absurd rfl hne
theorem HbRel.hit {D O : List ByteArray} {n x : Int} {j a : Nat} {s q : ByteArray} (h : HbRel D O n j a x) (hs : O[j]? = some s) (hq : D[a]? = some q) (he : q = digest s) : HbRel D O n (j + 1) (a + 1) (x - s.size) := by
  obtain ⟨h1, h2, h3⟩ := h
  rw [drop_cons hs, drop_cons hq, List.map_cons, he] at h1
  rw [drop_cons hs, sizes_cons] at h2
  refine ⟨?_, by omega, (List.getElem?_eq_some_iff.1 hq).1⟩
  cases h1 with
  | cons _ h => exact (List.sublist_cons_self _ _).trans h
  | cons_cons _ h => exact h
theorem HbRel.some {D O : List ByteArray} {n x : Int} {j a : Nat} {s : ByteArray} (h : HbRel D O n j a x) (hs : O[j]? = some s) : a < D.length := by
  rcases Nat.lt_or_ge a D.length with h1 | h1
  · exact h1
  · have h2 := h.1
    rw [drop_cons hs, List.drop_eq_nil_of_le h1, List.map_cons] at h2
    cases h2
theorem manyB_sizes : ∀ {l : List ByteArray}, manyB l = false → ∀ x ∈ l, x.size ≤ 4096 := by
  intro l h x hx
  unfold manyB at h
  simp only [decide_eq_false_iff_not] at h
  have h1 : 1 + min x.size 1048576 ≤ (l.map fun s => 1 + min s.size 1048576).sum := by
    clear h
    induction l with
    | nil => cases hx
    | cons y l ih =>
      rw [List.map_cons, List.sum_cons]
      rcases List.mem_cons.1 hx with rfl | hx
      · omega
      · have := ih hx; omega
  omega

set_option maxRecDepth 100000 in
set_option maxHeartbeats 4000000 in
theorem huntBound_walk : HuntBoundWalk := by
  intro W v0 l v1 r v2 u v3 ps h0 h1 h2 h3
  obtain ⟨A, c, hv0, hlc, hcm, _⟩ := id h0
  obtain ⟨hv1, hwf1⟩ := h1
  obtain ⟨hv2, hwf2⟩ := h2
  obtain ⟨Ap, cp, hv3, hpc, hpm, _⟩ := id h3
  simp only [List.cons.injEq, and_true] at hv0 hv1 hv2 hv3
  subst hv0 hv1 hv2 hv3
  have HL := Lib.hid h0
  have HP := Lib.hid h3
  have hll : (l.length : Int) ≤ 9223372036854775807 := by unfold maxLen at hcm; omega
  have hpl : (ps.length : Int) ≤ 9223372036854775807 := by unfold maxLen at hpm; omega
  have hpw : ∀ k ∈ ps, 0 ≤ k ∧ k ≤ 255 := by
    obtain ⟨_, _, he, _, _, hr⟩ := h3
    intro k hk
    obtain ⟨i, hi⟩ := List.getElem?_of_mem hk
    have hp := Rp.at_int (k := .u8) (l := ps) HP.out hi
    obtain ⟨_, _, _, _, hw⟩ := hp
    simp [Lit.wf, IntKind.min, IntKind.max, IntKind.bits, IntKind.signed] at hw
    omega
  have HPW := Lib.hid hpw
  clear h0 h3 hlc hcm hpc hpm hwf1 hwf2 hpw
  by_cases hbad : r < 1 ∨ 4096 < r ∨ u < 64 ∨ 16384 < u
  · have hb := b_new_bad r u W hbad
    have HB := Lib.hid hb
    clear hb hbad
    go_enter Try.func13, Try.ntmps13
    go_wp2_with fail
    refine HB.out.mono ?_
    rintro e w1 ⟨rfl, rfl⟩
    go_wp2_with fail
    refine (awake19 W).mono ?_
    rintro e w2 ⟨rfl, hk2⟩
    have HK := Lib.hid hk2
    clear hk2
    go_wp2_with fail
    refine (awake19 _).mono ?_
    rintro e wz ⟨rfl, hkz⟩
    have HKZ := Lib.hid (HK.out.trans' hkz)
    clear hkz
    go_wp2_with fail
    go_ret
    exact ⟨rfl, HKZ.out⟩
  have hb := b_new_ok r u W (by omega) (by omega) (by omega) (by omega)
  have hu0 : 64 ≤ u ∧ u ≤ 16384 := by omega
  have HB := Lib.hid hb
  clear hb hbad
  go_enter Try.func13, Try.ntmps13
  go_wp2_with fail
  refine HB.out.mono ?_
  rintro e w1 ⟨rfl, hb1, hk1⟩
  have HBK := Lib.hid hb1
  have HK := Lib.hid hk1
  clear hb1 hk1 HB
  obtain ⟨kb, hkb⟩ : ∃ kb, W.heap.size = kb := ⟨_, rfl⟩
  have HKB : Hid (W.heap.size ≤ kb) := Lib.hid (by omega)
  rw [hkb] at HBK
  rw [hkb]
  clear hkb
  go_wp2_with fail
  refine (awake19 w1).mono ?_
  rintro e w2 ⟨rfl, hk2⟩
  have HBK := Lib.hid (HBK.out.kept hk2 (fun x => x))
  have HK := Lib.hid (HK.out.trans' hk2)
  clear hk2
  go_wp2_with fail
  obtain ⟨B, hB⟩ : ∃ B, manyB l = B := ⟨_, rfl⟩
  have hmn := h_many l A c w2 _ (Rp.str.slice.keptNo HL.out HK.out)
  rw [hB] at hmn
  have HBB := Lib.hid hB
  refine hmn.mono ?_
  rintro e w3 ⟨rfl, rfl⟩
  clear hmn hB
  cases B with
  | true =>
    go_wp2_with fail
    refine (awake19 _).mono ?_
    rintro e wz ⟨rfl, hkz⟩
    have HKZ := Lib.hid (HK.out.trans' hkz)
    clear hkz
    go_wp2_with fail
    go_ret
    exact ⟨rfl, HKZ.out⟩
  | false =>
  by_cases hl0 : l.length = 0
  · have hl0i : (l.length : Int) = 0 := by omega
    have hl0b : ((l.length : Int) == 0) = true := by simp [hl0]
    go_wp2_with fail
    refine (awake19 _).mono ?_
    rintro e wz ⟨rfl, hkz⟩
    have HKZ := Lib.hid (HK.out.trans' hkz)
    clear hkz
    go_wp2_with fail
    go_ret
    exact ⟨rfl, HKZ.out⟩
  have hl0i : ¬ (l.length : Int) = 0 := by omega
  have hl0b : ((l.length : Int) == 0) = false := beq_eq_false_iff_ne.2 hl0i
  by_cases hp2 : (200 : Int) < (ps.length : Int)
  · go_wp2_with fail
    refine (awake19 _).mono ?_
    rintro e wz ⟨rfl, hkz⟩
    have HKZ := Lib.hid (HK.out.trans' hkz)
    clear hkz
    go_wp2_with fail
    go_ret
    exact ⟨rfl, HKZ.out⟩
  have hms := manyB_sizes HBB.out
  have hml := manyB_length HBB.out
  have HMS := Lib.hid hms
  have hl1 : 1 ≤ l.length := by omega
  clear hms HBB
  go_wp2_with fail
  refine (n_new w2).mono ?_
  rintro e w3 ⟨d, rfl, hd, hk3⟩
  have HBK := Lib.hid (HBK.out.kept hk3 (fun x => x))
  have HD := Lib.hid (show DNew W w3 d newD by obtain ⟨F, g1, g2, g3⟩ := hd; exact ⟨F, g1, HK.out.trans' g2, fun k hk => Nat.le_trans HK.out.size (g3 k hk)⟩)
  clear hd hk3
  have ho := g_open HD.out 1048576 rfl rfl (by omega) (by omega)
  have HOP := Lib.hid ho
  clear ho
  go_wp2_with fail
  refine HOP.out.mono ?_
  rintro e w4 ⟨v, rfl, hv, hk4⟩
  have HV := Lib.hid hv
  have HBK := Lib.hid (HBK.out.kept hk4 (fun x => x))
  clear hv hk4 HOP HD
  go_wp2_with fail
  go_loopw [56] (fun iv wr => ∃ (i : Nat) (X : VV), i ≤ l.length ∧ iv = .int .i64 (i : Int) ∧ VNew W wr v d X ∧ X.kept.length ≤ i ∧ Bk wr kb r u 0) (fun iv _ => l.length - (intOf iv).toNat)
  case atStart => exact ⟨0, openV newD 1048576, Nat.zero_le _, rfl, HV.out, Nat.le_refl _, HBK.out⟩
  case round =>
    clear HV HBK HK
    obtain ⟨i, X, hi, rfl, hv, hkl, hbk⟩ := hrel
    have HV := Lib.hid hv
    have HKL := Lib.hid hkl
    have HBK := Lib.hid hbk
    clear hv hkl hbk
    by_cases hlt : i < l.length
    · have hli : (i : Int) < (l.length : Int) := by omega
      obtain ⟨s, hs⟩ : ∃ s, l[i]? = some s := ⟨_, List.getElem?_eq_getElem hlt⟩
      obtain ⟨ad, rfl, _, hcell, _⟩ := Rp.at_str (Rp.str.slice.keptNo HL.out HV.out.kp) hs
      have hc := g_put s wr HV.out (by have := HKL.out; omega)
      have hln := putV_len s X
      obtain ⟨Y, hY⟩ : ∃ Y, putV s X = Y := ⟨_, rfl⟩
      rw [hY] at hc hln
      have HC := Lib.hid hc
      have HLN : Hid (Y.2.kept.length ≤ i + 1) := Lib.hid (by have := HKL.out; omega)
      clear hs hc hln hY
      go_wp2_with fail
      refine HC.out.mono ?_
      rintro e w5 ⟨rfl, hv5, hk5⟩
      have HV5 := Lib.hid hv5
      have HB5 : Hid (Bk w5 kb r u 0) := Lib.hid ⟨hk5.blk (vs := [_, _, _]) HBK.out.1 (by decide), HBK.out.2⟩
      clear hv5 hk5 HC
      go_wp2_with fail
      go_roundw
      case rel => exact ⟨i + 1, Y.2, by omega, by go_num, HV5.out, HLN.out, HB5.out⟩
      case measure => simp [intOf]; omega
    · obtain rfl : i = l.length := by omega
      clear hlt hi
      obtain ⟨D, hD⟩ : ∃ D : List ByteArray, (ps.map fun k => digest (l.getD (k.toNat % l.length) ⟨#[]⟩)) = D := ⟨_, rfl⟩
      have hDl : D.length = ps.length := by rw [← hD, List.length_map]
      have HD := Lib.hid hD
      have HDL := Lib.hid hDl
      clear hD hDl
      go_wp2_with fail
      generalize wr = w6 at *
      go_loopw [13, 66] (fun av iv wr => ∃ i : Nat, i ≤ ps.length ∧ iv = .int .i64 (i : Int) ∧ Own Rp.str wr No w6.heap.size 9 av (D.take i) ∧ VNew W wr v d X ∧ Bk wr kb r u 0 ∧ Hid (w6.heap.size ≤ wr.heap.size)) (fun _ iv _ => ps.length - (intOf iv).toNat)
      case atStart => exact ⟨0, Nat.zero_le _, rfl, Own.nil _ _ _ _ _, HV.out, HBK.out, Lib.hid (Nat.le_refl _)⟩
      case round =>
        have HW0 := Lib.hid HV.out.kp.size
        clear HV HBK HKL
        obtain ⟨i, hi, rfl, hown, hv, hbk, HW6⟩ := hrel
        obtain ⟨Av, cv, rfl⟩ := hown.shape
        have hDi : (D.take i).length = i := by rw [List.length_take, HDL.out]; omega
        have HO := Lib.hid hown
        have HV := Lib.hid hv
        have HBK := Lib.hid hbk
        clear hown hv hbk
        by_cases hlt : i < ps.length
        · have hli : (i : Int) < (ps.length : Int) := by omega
          obtain ⟨k, hk⟩ : ∃ k, ps[i]? = some k := ⟨_, List.getElem?_eq_getElem hlt⟩
          obtain ⟨adp, rfl, _, hcp, _⟩ := Rp.at_int ((Rp.int .u8).slice.keptNo HP.out HV.out.kp) hk
          obtain ⟨hk0, hk255⟩ := HPW.out k (List.mem_of_getElem? hk)
          obtain ⟨q, hq⟩ : ∃ q, k.toNat % l.length = q := ⟨_, rfl⟩
          have hql : q < l.length := by rw [← hq]; exact Nat.mod_lt _ (by omega)
          have hqi : (q : Int) < (l.length : Int) := by omega
          have hkq : Int.tmod k (l.length : Int) = (q : Int) := by rw [← hq, Int.tmod_eq_emod_of_nonneg hk0, Int.natCast_emod, Int.toNat_of_nonneg hk0]
          obtain ⟨x, hx⟩ : ∃ x, l[q]? = some x := ⟨_, List.getElem?_eq_getElem hql⟩
          obtain ⟨ad, rfl, _, hcell, _⟩ := Rp.at_str (Rp.str.slice.keptNo HL.out HV.out.kp) hx
          have hxs := HMS.out x (List.mem_of_getElem? hx)
          have hDx : D[i]? = some (digest x) := by
            rw [← HD.out, List.getElem?_map, hk, Option.map_some, hq, List.getD_eq_getElem?_getD, hx]; rfl
          have hst : D.take (i + 1) = D.take i ++ [digest x] := by
            obtain ⟨e1, e2⟩ := List.getElem?_eq_some_iff.1 hDx
            rw [List.take_succ_eq_append_getElem e1, e2]
          have HST := Lib.hid hst
          have hsum := fun (w' : World) => sum1B x (by omega) w' 9
          obtain ⟨Y, hY⟩ : ∃ Y, digest x = Y := ⟨_, rfl⟩
          have hYs : Y.size = 32 := by rw [← hY]; exact digest_size x
          rw [hY] at hsum HST
          have HSUM := Lib.hid hsum
          have HYS : Hid (Y.size ≤ maxLen) := Lib.hid (by rw [hYs]; decide)
          obtain ⟨E, hE⟩ : ∃ E, D.take i = E := ⟨_, rfl⟩
          rw [hE] at HO HST hDi
          rw [hE]
          have HDI := Lib.hid hDi
          clear hk hq hql hx hxs hDx hst hsum hY hYs hE hDi
          go_wp2_with fail
          refine (HSUM.out wr).mono ?_
          rintro e w7 ⟨rfl, hk7⟩
          have HO7 := Lib.hid (HO.out.keptNo hk7)
          have HV7 := Lib.hid (HV.out.kept hk7)
          have HB7 := Lib.hid (HBK.out.kept hk7 (fun x => x))
          have HW7 := Lib.hid (show w6.heap.size ≤ w7.heap.size from Nat.le_trans HW6.out hk7.size)
          have hEl : E.length ≤ 1000000 := by have := HDI.out; omega
          clear hk7 HO HV HBK hcell hcp
          go_wp2_with (at_builtin; refine wpList_append_lit Rp.str_by rfl _ (.tmp 70) (.tmp 81) 47 rfl w6.heap.size 9 16 el_strS (.slice Av E.length cv) E rfl No ?d0 w7.heap.size [Y] rfl _ _ _ (heap_alloc_new _ _) ?d1 ?d2 ?d3 ?d4 ?d5 ?d6 ?_)
          case d0 => exact HO7.out.alloc _
          case d2 => intro a ha; simp only [List.mem_cons, List.not_mem_nil, or_false] at ha; subst ha; exact HYS.out
          case d3 => simp [maxLen]; omega
          case d4 => simp; omega
          case d5 => have := HW7.out; simp; omega
          case d6 => intro h; have := (HO7.out.lt _ h).2; omega
          intro A3 c3 w8 hown hk8
          have HO8 := Lib.hid hown
          have hk9 : Kp (fun k => (Value.slice Av E.length cv).ownBlock = some k) w7 w8 := ((Kp.refl _ w7).alloc _).trans hk8 (fun i hi hv => hv)
          have HV8 := Lib.hid (HV7.out.others hk9 (fun k hk => by have := (HO7.out.lt k hk).1; have := HW0.out; omega) (fun k hk => by obtain ⟨cs, hc⟩ := HO7.out.block hk; exact ⟨cs, _, _, hc, by decide⟩))
          have HB8 := Lib.hid (HB7.out.kept hk9 (fun h => own_ne_bk HO7.out HB7.out (by decide) kb h rfl))
          have HW8 := Lib.hid (Nat.le_trans HW7.out hk9.size)
          clear hown hk8 hk9 HO7 HV7 HB7 HW7
          rw [← HST.out] at HO8
          have hle : E.length + 1 = (D.take (i + 1)).length := by rw [HST.out]; simp
          rw [hle] at HO8 ⊢
          have HLE := Lib.hid hle
          clear hle
          go_wp2_with fail
          go_roundw
          case rel => exact ⟨i + 1, by omega, by go_num, HO8.out, HV8.out, HB8.out, HW8⟩
          case measure => simp [intOf]; omega
        · obtain rfl : i = ps.length := by omega
          have hall : D.take ps.length = D := by rw [← HDL.out, List.take_length]
          rw [hall] at HO
          have hDlen : D.length ≤ 200 := by rw [HDL.out]; omega
          have hlD : (D.take ps.length).length = D.length := by rw [hall]
          rw [hlD]
          have HDD : Hid (∀ x ∈ D, x.size = 32) := Lib.hid (by
            intro x hx
            rw [← HD.out] at hx
            obtain ⟨k, _, rfl⟩ := List.mem_map.1 hx
            exact digest_size _)
          clear hall hlD hDi hlt HD HDL
          go_wp2_with fail
          refine (b_left kb r u 0 wr HBK.out).mono ?_
          rintro e w7 ⟨rfl, nq, hnq⟩
          have hk7 : Kp No wr w7 := by rw [hnq]; exact (Kp.refl _ _).drewN nq
          have HO7 := Lib.hid (HO.out.keptNo hk7)
          have HV7 := Lib.hid (HV.out.kept hk7)
          have HB7 := Lib.hid (HBK.out.kept hk7 (fun x => x))
          clear hk7 hnq HO HV HBK
          have hsv := h_serve D Av cv w7 (fun k => (Value.slice Av D.length cv).ownBlock = some k) HV7.out HB7.out HKB.out ((HO7.out.str_any (fun k => (Value.slice Av D.length cv).ownBlock = some k)).read (fun k hk => hk)) (fun k hk => by obtain ⟨cs, hc⟩ := HO7.out.block hk; exact ⟨cs, _, _, hc, by decide⟩) (fun h => own_ne_bk HO7.out HB7.out (by decide) kb h rfl) (by omega) (fun x hx => by rw [HDD.out x hx]; decide)
          have HSV := Lib.hid hsv
          have HLAW := Lib.hid (serveV_law D X (u - 0) (by omega))
          clear hsv
          go_wp2_with fail
          refine HSV.out.mono ?_
          rintro e w8 ⟨Ao, co, O, Z, m, hO, rfl, hown8, hv8, hb8, hk8⟩
          have hlaw := HLAW.out
          rw [hO] at hlaw
          obtain ⟨hl1', hl2', hl3', hl4'⟩ : (O.map digest).Sublist D ∧ m = u - 0 - sizes O ∧ 0 ≤ m ∧ ∀ s ∈ O, s.size ≤ 64 := hlaw
          have HM := Lib.hid (hk8.sl ((HO7.out.str_any (fun k => (Value.slice Av D.length cv).ownBlock = some k)).read (fun k hk => hk)) (fun k hk => by obtain ⟨cs, hc⟩ := HO7.out.block hk; exact ⟨cs, _, _, hc, by decide⟩) (fun h => own_ne_bk HO7.out HB7.out (by decide) kb h rfl))
          have HO8 := Lib.hid hown8.readFrom
          have HK8 := Lib.hid hv8.kp
          have HB8 := Lib.hid hb8
          have hol : O.length ≤ 200 := by have := hl1'.length_le; rw [List.length_map] at this; omega
          have HR0 : Hid (HbRel D O m 0 0 u) := Lib.hid ⟨hl1', by show u - sizes O = m; have : m = u - 0 - sizes O := hl2'; omega, Nat.zero_le _⟩
          have HL4 := Lib.hid hl4'
          have hm0 : 0 ≤ m := hl3'
          clear hO hown8 hv8 hb8 hk8 hl1' hl2' hl3' hl4' HSV HLAW HO7 HV7 HB7
          go_wp2_with fail
          generalize wr = w9 at *
          have hu3 : u - 0 = u := by omega
          go_loopw [18, 19, 91] (fun xv av jv wr => ∃ (j a : Nat) (x : Int), j ≤ O.length ∧ jv = .int .i64 (j : Int) ∧ av = .int .i64 (a : Int) ∧ xv = .int .i64 x ∧ x ≤ u ∧ Hid (HbRel D O m j a x) ∧ Hid (Kp No w8 wr)) (fun _ _ jv _ => O.length - (intOf jv).toNat)
          case atStart => exact ⟨0, 0, u, Nat.zero_le _, rfl, rfl, by simp, Int.le_refl _, HR0, Lib.hid (Kp.refl _ _)⟩
          case round =>
            clear HR0
            obtain ⟨j, a, x, hj, rfl, rfl, rfl, hxu, HR, HKR⟩ := hrel
            by_cases hlt : j < O.length
            · have hli : (j : Int) < (O.length : Int) := by omega
              obtain ⟨s, hs⟩ : ∃ s, O[j]? = some s := ⟨_, List.getElem?_eq_getElem hlt⟩
              obtain ⟨ado, rfl, _, hco, _⟩ := Rp.at_str (Rp.str.slice.keptNo HO8.out HKR.out) hs
              have hs64 := HL4.out s (List.mem_of_getElem? hs)
              have hsum := fun (w' : World) => sum1B s (by omega) w' 9
              obtain ⟨q, hq⟩ : ∃ q, digest s = q := ⟨_, rfl⟩
              rw [hq] at hsum
              have HSUM := Lib.hid hsum
              have HQ := Lib.hid hq
              have HS := Lib.hid hs
              have hx0 : (s.size : Int) ≤ x := by
                have h2 := HR.out.2.1
                rw [drop_cons hs, sizes_cons] at h2
                have := sizes_nonneg (O.drop (j + 1))
                omega
              clear hs hsum hq
              go_wp2_with fail
              generalize wr = w10 at *
              go_loopw [19] (fun av wr => ∃ a : Nat, av = .int .i64 (a : Int) ∧ Hid (HbRel D O m j a x) ∧ Hid (Kp No w8 wr)) (fun av _ => D.length - (intOf av).toNat)
              case atStart => exact ⟨a, rfl, HR, HKR⟩
              case round =>
                clear HR HKR hco
                obtain ⟨a, rfl, HR, HKR⟩ := hrel
                have hal := HR.out.some HS.out
                have hai : (a : Int) < (D.length : Int) := by omega
                obtain ⟨y, hy⟩ : ∃ y, D[a]? = some y := ⟨_, List.getElem?_eq_getElem hal⟩
                obtain ⟨adD, hA, _, hcD, _⟩ := Rp.at_str (Rp.str.slice.keptNo HM.out HKR.out) hy
                subst hA
                have HY := Lib.hid hy
                clear hy
                by_cases hyq : y = q
                · have hqb : (y.toList == q.toList) = true := by rw [bytes_list_bneB]; exact decide_eq_true hyq
                  have HN : Hid (HbRel D O m (j + 1) (a + 1) (x - s.size)) := Lib.hid (HR.out.hit HS.out HY.out (by rw [HQ.out]; exact hyq))
                  have hDA : (D.length : Int) ≤ 200 := by omega
                  clear hyq HR
                  have hka : Kp No wr ((wr.alloc (.cells #[.string s] 9)).drew) := ((Kp.refl No wr).alloc _).drew
                  have y1 : ((wr.alloc (.cells #[.string s] 9)).drew).cell? (adD.add a) = some (.string y) := (hka.cell (lt_of_cell hcD) (fun x => x)).trans hcD
                  clear hka
                  go_wp2_with fail
                  refine Reg.wp_region_plan [⟨0, false, []⟩, ⟨1, false, []⟩, ⟨2, false, []⟩, ⟨3, false, []⟩, ⟨4, false, []⟩, ⟨5, false, []⟩, ⟨6, false, []⟩, ⟨7, false, []⟩, ⟨8, false, []⟩, ⟨9, false, []⟩, ⟨10, true, [7, 8]⟩, ⟨11, true, [7, 8]⟩, ⟨12, false, []⟩, ⟨13, false, []⟩] rfl (by kernel_rfl) ?_
                  repeat (first | (refine Reg.look rfl rfl rfl (by go_simp; rfl) rfl ?_; go_simp) | (refine Reg.skip rfl rfl rfl ?_; go_simp))
                  refine Reg.act rfl ?_
                  go_wp2_with fail
                  (refine ⟨?anew, ?_⟩; case anew => ((repeat (refine Reg.anew_cons rfl rfl (fun _ => by go_simp) ?_)); exact Reg.anew_nil))
                  repeat (first | (refine Reg.look rfl rfl rfl (by go_simp; rfl) rfl ?_; go_simp) | (refine Reg.skip rfl rfl rfl ?_; go_simp))
                  refine Reg.act rfl ?_
                  go_wp2_with fail
                  refine (HSUM.out wr.drew).mono ?_
                  rintro e w11 ⟨rfl, hk11⟩
                  have hk12 : Kp No wr w11 := ((Kp.refl No wr).drew).trans' hk11
                  have y2 : w11.cell? (adD.add a) = some (.string y) := (hk12.cell (lt_of_cell hcD) (fun x => x)).trans hcD
                  have HK11 : Hid (Kp No w8 w11) := Lib.hid (HKR.out.trans' hk12)
                  clear hk11 hk12
                  go_wp2_with fail
                  (refine ⟨?anew, ?_⟩; case anew => ((repeat (refine Reg.anew_cons rfl rfl (fun _ => by go_simp) ?_)); exact Reg.anew_nil))
                  repeat (first | (refine Reg.look rfl rfl rfl (by go_simp; rfl) rfl ?_; go_simp) | (refine Reg.skip rfl rfl rfl ?_; go_simp))
                  (refine Reg.done ?_; simp only [Exit.then])
                  clear y1 hcD y2
                  go_wp2_with fail
                  go_roundw
                  case rel => exact ⟨j + 1, a + 1, x - (s.size : Int), by omega, by go_num, by go_num, rfl, by omega, HN, HK11⟩
                  case measure => simp [intOf]; omega
                · have hqb : (y.toList == q.toList) = false := by rw [bytes_list_bneB]; exact decide_eq_false hyq
                  have HN : Hid (HbRel D O m j (a + 1) x) := Lib.hid (HR.out.skip HS.out HY.out (by rw [HQ.out]; exact hyq))
                  have hDA : (D.length : Int) ≤ 200 := by omega
                  clear hyq HR
                  have hka : Kp No wr ((wr.alloc (.cells #[.string s] 9)).drew) := ((Kp.refl No wr).alloc _).drew
                  have y1 : ((wr.alloc (.cells #[.string s] 9)).drew).cell? (adD.add a) = some (.string y) := (hka.cell (lt_of_cell hcD) (fun x => x)).trans hcD
                  clear hka
                  go_wp2_with fail
                  refine Reg.wp_region_plan [⟨0, false, []⟩, ⟨1, false, []⟩, ⟨2, false, []⟩, ⟨3, false, []⟩, ⟨4, false, []⟩, ⟨5, false, []⟩, ⟨6, false, []⟩, ⟨7, false, []⟩, ⟨8, false, []⟩, ⟨9, false, []⟩, ⟨10, true, [7, 8]⟩, ⟨11, true, [7, 8]⟩, ⟨12, false, []⟩, ⟨13, false, []⟩] rfl (by kernel_rfl) ?_
                  repeat (first | (refine Reg.look rfl rfl rfl (by go_simp; rfl) rfl ?_; go_simp) | (refine Reg.skip rfl rfl rfl ?_; go_simp))
                  refine Reg.act rfl ?_
                  go_wp2_with fail
                  (refine ⟨?anew, ?_⟩; case anew => ((repeat (refine Reg.anew_cons rfl rfl (fun _ => by go_simp) ?_)); exact Reg.anew_nil))
                  repeat (first | (refine Reg.look rfl rfl rfl (by go_simp; rfl) rfl ?_; go_simp) | (refine Reg.skip rfl rfl rfl ?_; go_simp))
                  refine Reg.act rfl ?_
                  go_wp2_with fail
                  refine (HSUM.out wr.drew).mono ?_
                  rintro e w11 ⟨rfl, hk11⟩
                  have hk12 : Kp No wr w11 := ((Kp.refl No wr).drew).trans' hk11
                  have y2 : w11.cell? (adD.add a) = some (.string y) := (hk12.cell (lt_of_cell hcD) (fun x => x)).trans hcD
                  have HK11 : Hid (Kp No w8 w11) := Lib.hid (HKR.out.trans' hk12)
                  clear hk11 hk12
                  go_wp2_with fail
                  (refine ⟨?anew, ?_⟩; case anew => ((repeat (refine Reg.anew_cons rfl rfl (fun _ => by go_simp) ?_)); exact Reg.anew_nil))
                  repeat (first | (refine Reg.look rfl rfl rfl (by go_simp; rfl) rfl ?_; go_simp) | (refine Reg.skip rfl rfl rfl ?_; go_simp))
                  (refine Reg.done ?_; simp only [Exit.then])
                  clear y1 hcD y2
                  go_wp2_with fail
                  go_roundw
                  case rel => exact ⟨a + 1, by go_num, HN, HK11⟩
                  case measure => simp [intOf]; omega
            · obtain rfl : j = O.length := by omega
              have hxm : x = m := by have h2 := HR.out.2.1; rw [List.drop_length] at h2; simp [sizes] at h2; exact h2
              subst hxm
              have hb := b_left kb r u (u - x) wr (HB8.out.kept HKR.out (fun h => h))
              rw [show u - (u - x) = x by omega] at hb
              have HBL := Lib.hid hb
              clear hb
              go_wp2_with fail
              refine HBL.out.mono ?_
              rintro e w9 ⟨rfl, nq, hnq⟩
              have HK9 : Hid (Kp No W w9) := Lib.hid (by rw [hnq]; exact (HK8.out.trans' HKR.out).drewN nq)
              clear hnq
              go_wp2_with fail
              go_ret
              exact ⟨rfl, HK9.out⟩
theorem huntBound_holds : Rows.HuntBoundSaid := huntBound_of huntBound_walk
#print axioms huntBound_holds
end Go.Proofs.Ytflodiljgphkdaa
