/-
  In any time no more goes than the burst, and the rate for each tick: BucketBound answers true for every input. No condition.
-/
import Derived.Test.YtkghckeoplolpaaT1
import Derived.Test.YtkghckeoplolpaaFBucketBound
namespace Go.Proofs.Ytkghckeoplolpaa
open Go.RowKit Go.ChangeShapes Go.WideShapes Go.ChangeAt

theorem take_spec : ∀ (l : List Int) (h : Int), 0 ≤ h →
    (take h l).1 ≤ l.length ∧ 0 ≤ (take h l).2 ∧ (take h l).2 ≤ h ∧ (l.take (take h l).1).sum = h - (take h l).2 ∧ ∀ j, j ≤ (take h l).1 → 0 ≤ (l.take j).sum ∧ (l.take j).sum ≤ h - (take h l).2
  | [], h, h0 => by simp [take]; omega
  | x :: l, h, h0 => by
    by_cases hx : x < 0 ∨ h < x
    · have e : take h (x :: l) = (0, h) := by rw [take, if_pos hx]
      rw [e]
      refine ⟨by simp, h0, by simp, by simp, fun j hj => ?_⟩
      obtain rfl : j = 0 := by simpa using hj
      simp
    · have e : take h (x :: l) = ((take (h - x) l).1 + 1, (take (h - x) l).2) := by rw [take, if_neg hx]
      obtain ⟨h1, h2, h3, h4, h5⟩ := take_spec l (h - x) (by omega)
      rw [e]
      refine ⟨by simpa using h1, h2, by simp only; omega, by simp only [List.take_succ_cons, List.sum_cons]; omega, fun j hj => ?_⟩
      match j, hj with
      | 0, _ => simp only [List.take_zero, List.sum_nil]; omega
      | j + 1, hj =>
        have := h5 j (by simpa using hj)
        simp only [List.take_succ_cons, List.sum_cons]
        omega

theorem sum_take_succ (l : List Int) (j : Nat) (x : Int) (h : l[j]? = some x) : (l.take (j + 1)).sum = (l.take j).sum + x := by
  obtain ⟨hlt, rfl⟩ := List.getElem?_eq_some_iff.1 h
  rw [List.take_succ_eq_append_getElem hlt, List.sum_append]
  simp

/-- amid the outer loop -/
def BbRel (W : World) (r u : Int) (wr : World) : Prop := ∃ s, Bk wr W.heap.size r u s ∧ Kp No W wr
/-- amid the inner loop: the copy lies at c -/
def BcRel (W : World) (r u : Int) (c : Nat) (i : Nat) (gone : Int) (wr : World) : Prop :=
  ∃ s, Bk wr c r u s ∧ gone + (u - s) ≤ u + i * r ∧ 0 ≤ gone ∧ BbRel W r u wr
set_option maxRecDepth 100000 in
set_option maxHeartbeats 4000000 in
theorem bucketBound_walk : BucketBoundWalk := by
  intro W v0 r v1 u v2 l h0 h1 h2
  obtain ⟨h0, w0⟩ := h0
  obtain ⟨h1, w1⟩ := h1
  simp only [List.cons.injEq, and_true] at h0 h1
  subst h0 h1
  obtain ⟨A, c, hv, hr1, hr2, hr3⟩ := id h2
  simp only [List.cons.injEq, and_true] at hv
  subst hv
  have hlm : l.length ≤ 9223372036854775807 := by unfold maxLen at hr2; omega
  have bu := bounds_i64 w1
  have br := bounds_i64 w0
  clear w0 w1
  by_cases hbad : r < 1 ∨ 4096 < r ∨ u < 64 ∨ 16384 < u
  · have hb := Lib.hid (b_new_bad r u W hbad)
    clear hbad hr3
    go_enter Try.func7, Try.ntmps7
    go_wp2_with fail
    refine hb.out.mono ?_
    rintro e w1 ⟨rfl, rfl⟩
    go_wp2_with fail
    refine (awake16 _).mono ?_
    rintro e w1 ⟨rfl, hk⟩
    go_wp2_with fail
    refine (awake16 _).mono ?_
    rintro e w2 ⟨rfl, hk2⟩
    go_wp2
    go_ret
    exact ⟨rfl, hk.trans' hk2⟩
  · have hn := Lib.hid (b_new_ok r u W (by omega) (by omega) (by omega) (by omega))
    have hu : 64 ≤ u ∧ u ≤ 16384 ∧ 1 ≤ r ∧ r ≤ 4096 := by omega
    have HR3 := Lib.hid hr3
    clear hbad hr3
    go_enter Try.func7, Try.ntmps7
    go_wp2_with fail
    refine hn.out.mono ?_
    rintro e w1 ⟨rfl, hb1, hk1⟩
    go_wp2_with fail
    refine (awake16 _).mono ?_
    rintro e w3 ⟨rfl, hk3⟩
    have HR : Hid (BbRel W r u w3) := Lib.hid ⟨0, hb1.kept hk3 (fun x => x), hk1.trans' hk3⟩
    have HL := Lib.hid h2
    clear h2 hb1 hk1 hk3 hn
    by_cases hbig : 1000 < l.length
    · go_wp2_with (go_at_call 14; refine (awake16 _).mono ?_; rintro e w4 ⟨rfl, hk4⟩)
      all_goals first | (exfalso; omega) | (go_ret; obtain ⟨_, _, hk⟩ := HR.out; exact ⟨rfl, hk.trans' hk4⟩)
    · go_wp2_with fail
      go_loopw [36] (fun i wr => ∃ (k : Nat), k ≤ l.length ∧ i = .int .i64 k ∧ BbRel W r u wr) (fun i _ => l.length - (intOf i).toNat)
      case atStart => exact ⟨0, Nat.zero_le _, rfl, HR.out⟩
      case round =>
        obtain ⟨k, hk, rfl, s, hb, hkp⟩ := hrel
        have HKP := Lib.hid hkp
        have HB := Lib.hid hb
        clear hkp hb HR
        by_cases hlt : k < l.length
        · obtain ⟨ad, rfl, had, _⟩ := HR3.out (by omega)
          clear HR3
          have hl2 := (Rp.slice _).kept HL.out HKP.out (fun _ _ _ x => x)
          have hcut := Rp.cut HL.out (k := k) (by omega)
          obtain ⟨m0, hm0⟩ : ∃ m, l[k]? = some m := ⟨_, List.getElem?_eq_getElem hlt⟩
          have HCUT := Lib.hid hcut
          have HM0 := Lib.hid hm0
          clear hcut hm0
          have hne : ¬ c = k := by omega
          by_cases h20 : 20 < k
          · go_wp2_with fail
            go_ret
            exact ⟨rfl, HKP.out⟩
          · go_wp2_with fail
            refine (b_copy _ _ _ _ _ HB.out).mono ?_
            rintro e w1 ⟨rfl, hc1, hk1⟩
            have HI : Hid (BcRel W r u wr.heap.size 0 0 w1) := Lib.hid ⟨s, hc1, by have := HB.out.bd; omega, by omega, s, HB.out.kept hk1 (fun x => x), HKP.out.trans' hk1⟩
            have hgW := HKP.out.size
            have hgB := HB.out.lt
            clear hc1 hk1
            generalize wr.heap.size = g at *
            go_wp2_with fail
            obtain ⟨wo, rfl⟩ : ∃ wo : World, wo = wr := ⟨_, rfl⟩
            go_loopw [11, 47] (fun gone i wr => ∃ (j : Nat) (x : Int), j ≤ l.length - k ∧ i = .int .i64 j ∧ gone = .int .i64 x ∧ (j = 0 ∨ m0.length ≤ 1000) ∧ BcRel W r u g j x wr) (fun _ i _ => (l.length - k) - (intOf i).toNat)
            case atStart => exact ⟨0, 0, Nat.zero_le _, rfl, rfl, .inl rfl, HI.out⟩
            case round =>
              obtain ⟨j, x, hj, rfl, rfl, hj0, s2, hc2, hg1, hg2, s3, hb2, hk2⟩ := hrel
              have HC2 := Lib.hid hc2
              have HB2 := Lib.hid hb2
              have HK2 := Lib.hid hk2
              have hcl := hc2.lt
              have hcb := hc2.bd
              clear hc2 hb2 hk2 HI HB HKP
              by_cases hjlt : j < l.length - k
              · obtain ⟨m, hm⟩ : ∃ m, (l.drop k)[j]? = some m := ⟨_, List.getElem?_eq_getElem (by rw [List.length_drop]; exact hjlt)⟩
                have hcw := (Rp.slice _).kept HCUT.out HK2.out (fun _ _ _ x => x)
                obtain ⟨ad', v, he, had', hv, hm'⟩ := Rp.at_ rfl hcw hm
                injection he with he
                subst he
                obtain ⟨A2, c2, hv2, hm1, hm2, hm3⟩ := id hm'
                simp only [List.cons.injEq, and_true] at hv2
                subst hv2
                have hw : wr.cell? ((ad.add k).add j) = some (.slice A2 m.length c2) := by simpa [Rp.slice] using hv
                clear hv
                have HM := Lib.hid hm'
                have HJ : Hid (m.length ≤ 1000 → m0.length ≤ 1000) := Lib.hid (fun hle => by
                  rcases hj0 with rfl | h
                  · rw [List.getElem?_drop, Nat.add_zero, HM0.out] at hm
                    injection hm with hm
                    rw [hm]; exact hle
                  · exact h)
                clear hm' hm hm3 hcw had' hj0
                by_cases hbg : 1000 < m.length
                · go_wp2_with fail
                  go_ret
                  exact ⟨rfl, HK2.out⟩
                · go_wp2_with (at_builtin; refine wpList_copy_lit (E := Rp.int .i64) rfl wr (.tmp 57) (.tmp 58) 35 rfl 3 8 elem_int rfl A2 c2 (fun k => k < W.heap.size) m rfl HM.out Rp.int_one (by omega) ?_; intro A7 c7 w7 hown hk7)
                  have HC7 := Lib.hid (HC2.out.kept hk7 (fun x => x))
                  have HB7 := Lib.hid (HB2.out.kept hk7 (fun x => x))
                  have HK7 := Lib.hid (HK2.out.trans' hk7)
                  have HM7 := Lib.hid ((Rp.slice _).kept HM.out hk7 (fun _ _ _ x => x))
                  have HO7 := Lib.hid hown.readFrom
                  clear hown hk7 HC2 HB2 HK2 HM
                  refine (b_take g r u s2 m _ _ _ _ HC7.out HO7.out (by rintro (h | h) <;> omega)).mono ?_
                  rintro e w8 ⟨rfl, hc8, hk8⟩
                  obtain ⟨t1, t2, t3, t4, t5⟩ := take_spec m (u - s2) (by omega)
                  have HC8 := Lib.hid hc8
                  have HB8 := Lib.hid (HB7.out.kept hk8 (by omega))
                  have HK8 := Lib.hid (HK7.out.trans hk8 (fun i hi e => absurd hi (by omega)))
                  have hm8 := (Rp.slice _).kept HM7.out hk8 (fun i hi _ e => by omega)
                  have HM8 := Lib.hid (Rp.head hm8 (k := (take (u - s2) m).1) t1)
                  clear hc8 hk8 hm8 HC7 HB7 HK7 HM7 HO7
                  have hnn : (m.take (take (u - s2) m).1).length = (take (u - s2) m).1 := by rw [List.length_take]; omega
                  generalize (take (u - s2) m).1 = n at *
                  generalize (take (u - s2) m).2 = h' at *
                  have T4 := Lib.hid t4
                  have T5 := Lib.hid t5
                  have HNN := Lib.hid hnn
                  clear t4 t5 hnn
                  go_wp2_with fail
                  go_loop [11, 63] (fun gone i => ∃ q : Nat, q ≤ n ∧ i = .int .i64 q ∧ gone = .int .i64 (x + (m.take q).sum)) (fun _ i => n - (intOf i).toNat)
                  case atStart => exact ⟨0, Nat.zero_le _, rfl, by simp⟩
                  case round =>
                    obtain ⟨q, hq, rfl, rfl⟩ := hrel
                    have hq5 := T5.out q hq
                    have hjr0 : 0 ≤ (j : Int) * r := Int.mul_nonneg (by omega) (by omega)
                    have hjr1 : (j : Int) * r ≤ 1000 * 4096 := Int.mul_le_mul (by omega) (by omega) (by omega) (by omega)
                    by_cases hqn : q < n
                    · obtain ⟨y, hy⟩ : ∃ y, m[q]? = some y := ⟨_, List.getElem?_eq_getElem (by omega)⟩
                      have hs := sum_take_succ m q y hy
                      have hq6 := T5.out (q + 1) (by omega)
                      obtain ⟨ad2, rfl, _, hv2, hwy⟩ := Rp.at_int HM8.out (i := q) (a := y) (by rw [List.getElem?_take_of_lt hqn]; exact hy)
                      have hby := bounds_i64 hwy
                      generalize hS : (m.take q).sum = z at *
                      rw [hs] at hq6
                      have HS := Lib.hid hs
                      clear hs hy hwy hS
                      go_wp2_with fail
                      go_round
                      case rel => exact ⟨q + 1, by omega, by go_num, by rw [HS.out, Int.add_assoc]⟩
                      case measure => simp [intOf]; omega
                    · obtain rfl : q = n := by omega
                      rw [T4.out]
                      clear hq5
                      go_wp2_with fail
                      refine (b_left _ _ _ _ _ HC8.out).mono ?_
                      rintro e w9 ⟨rfl, n9, rfl⟩
                      go_wp2_with fail
                      refine (b_left _ _ _ _ _ (HC8.out.drewN n9)).mono ?_
                      rintro e w9 ⟨rfl, n10, rfl⟩
                      go_wp2_with fail
                      refine (b_tick _ _ _ _ _ (HC8.out.drewN (n9 + n10))).mono ?_
                      rintro e w11 ⟨rfl, hc11, hk11⟩
                      have HC11 := Lib.hid hc11
                      have HB11 := Lib.hid ((HB8.out.drewN (n9 + n10)).kept hk11 (by omega))
                      have HK11 := Lib.hid ((HK8.out.drewN (n9 + n10)).trans hk11 (fun i hi e => absurd hi (by omega)))
                      have ej : ((j + 1 : Nat) : Int) * r = (j : Int) * r + r := by rw [Int.natCast_add, Int.add_mul]; simp
                      have HEJ := Lib.hid ej
                      clear hc11 hk11 ej HC8 HB8 HK8
                      go_wp2_with fail
                      go_roundw
                      case rel => exact ⟨j + 1, x + (u - s2 - h'), by omega, by go_num, rfl, .inr (HJ.out (by omega)), _, HC11.out, by rw [HEJ.out]; omega, by omega, _, HB11.out, HK11.out⟩
                      case measure => simp [intOf]; omega
              · have hm0 := HM0.out
                have hlw := (Rp.slice _).kept HL.out HK2.out (fun _ _ _ x => x)
                obtain ⟨ad', v, he, had', hv, hm'⟩ := Rp.at_ rfl hlw hm0
                injection he with he
                subst he
                obtain ⟨A2, c2, hv2, hm1, hm2, hm3⟩ := id hm'
                simp only [List.cons.injEq, and_true] at hv2
                subst hv2
                have HM := Lib.hid hm'
                have hm1000 : m0.length ≤ 1000 := by rcases hj0 with h | h <;> omega
                have hbyt : m0.length * 8 ≤ 140737488355328 := by omega
                have hva : ∀ o, (wr.alloc o).cell? (ad.add k) = some (.slice A2 m0.length c2) := fun o => (World.cell?_alloc_lt wr o (ad.add k) (lt_of_cell hv)).trans hv
                clear hm' hm0 hm3 hlw had' hj0
                go_wp2_with (at_builtin; refine wpList_copy_lit (E := Rp.int .i64) rfl wr (.tmp 93) (.tmp 97) 35 rfl 3 8 elem_int rfl A2 c2 (fun k => k < W.heap.size) m0 rfl HM.out Rp.int_one hbyt ?_; intro A7 c7 w7 hown hk7)
                have HB7 := Lib.hid (HB2.out.kept hk7 (fun x => x))
                have HK7 := Lib.hid (HK2.out.trans' hk7)
                have HO7 := Lib.hid hown.readFrom
                clear hown hk7 HC2 HB2 HK2 HM
                refine (b_take W.heap.size r u s3 m0 _ _ _ _ HB7.out HO7.out (by rintro (h | h) <;> omega)).mono ?_
                rintro e w8 ⟨rfl, hb8, hk8⟩
                have HB8 := Lib.hid hb8
                have HK8 := Lib.hid (HK7.out.trans hk8 (fun i hi e => absurd hi (by omega)))
                clear hb8 hk8 HB7 HK7 HO7
                go_wp2_with fail
                refine (b_tick _ _ _ _ _ HB8.out).mono ?_
                rintro e w9 ⟨rfl, hb9, hk9⟩
                have HB9 := Lib.hid hb9
                have HK9 := Lib.hid (HK8.out.trans hk9 (fun i hi e => absurd hi (by omega)))
                clear hb9 hk9 HB8 HK8
                go_wp2_with fail
                go_roundw
                case rel => exact ⟨k + 1, by omega, by go_num, _, HB9.out, HK9.out⟩
                case measure => simp [intOf]; omega
        · go_wp2
          go_ret
          exact ⟨rfl, HKP.out⟩
theorem bucketBound_holds : Rows.BucketBoundSaid := bucketBound_of bucketBound_walk
#print axioms bucketBound_holds
end Go.Proofs.Ytkghckeoplolpaa
