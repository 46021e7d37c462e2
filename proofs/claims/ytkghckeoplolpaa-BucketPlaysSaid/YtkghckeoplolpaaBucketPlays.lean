/-
  In every order of takings and ticks as much goes as the document says: BucketPlays answers true for every input. No condition.
-/
import Derived.Test.YtkghckeoplolpaaT2
import Derived.Test.YtkghckeoplolpaaOwn
import Derived.Test.YtkghckeoplolpaaFBucketPlays
namespace Go.Proofs.Ytkghckeoplolpaa
open Go.RowKit Go.ChangeShapes Go.WideShapes Go.ChangeAt

theorem bk_rk_ne {w p q r u s r' u' h} (hb : Bk w p r u s) (hr : Rk w q r' u' h) : p ≠ q := by
  rintro rfl
  have h1 := hb.1
  rw [hr.1] at h1
  injection h1 with h1
  injection h1 with _ h1 _
  exact absurd h1 (by decide)

/-- amid the playing: the program's bucket and the reference's are the same -/
def PlRel (W : World) (q : Nat) (r u : Int) (p : Nat) (s : Int) (wr : World) : Prop :=
  Bk wr p r u s ∧ Rk wr q r u (u - s) ∧ Kp No W wr ∧ W.heap.size ≤ p ∧ W.heap.size ≤ q

set_option maxHeartbeats 4000000 in
theorem bucketPlays_walk : BucketPlaysWalk := by
  intro W v0 r v1 u v2 l h0 h1 h2
  obtain ⟨h0, w0⟩ := h0
  obtain ⟨h1, w1⟩ := h1
  simp only [List.cons.injEq, and_true] at h0 h1
  subst h0 h1
  obtain ⟨A, c, hv, hrest⟩ := id h2
  simp only [List.cons.injEq, and_true] at hv
  subst hv
  have hlm : l.length ≤ 9223372036854775807 := by have := hrest.1; have := hrest.2.1; unfold maxLen at this; omega
  clear hrest
  have bu := bounds_i64 w1
  have br := bounds_i64 w0
  clear w0 w1
  by_cases hbad : r < 1 ∨ 4096 < r ∨ u < 64 ∨ 16384 < u
  · have hb := Lib.hid (b_new_bad r u W hbad)
    have hb2 := Lib.hid (fun w => r_new_bad r u w hbad)
    clear hbad
    go_enter Try.func6, Try.ntmps6
    go_wp2_with fail
    refine hb.out.mono ?_
    rintro e w1 ⟨rfl, rfl⟩
    go_wp2_with fail
    refine (hb2.out _).mono ?_
    rintro e w1 ⟨rfl, rfl⟩
    go_wp2_with fail
    refine (awake16 _).mono ?_
    rintro e w1 ⟨rfl, hk⟩
    have hl2 := (Rp.slice _).kept h2 hk (fun _ _ _ x => x)
    clear h2
    by_cases hbig : 1000 < l.length
    · go_wp2_with (go_at_call 14; refine (awake16 _).mono ?_; rintro e w3 ⟨rfl, hk3⟩)
      all_goals first | (exfalso; omega) | (go_ret; exact ⟨rfl, hk.trans' hk3⟩)
    · by_cases hl0 : 0 < l.length
      · obtain ⟨x, hx⟩ : ∃ x, l[0]? = some x := ⟨_, List.getElem?_eq_getElem hl0⟩
        obtain ⟨ad, v, rfl, had, hv, _⟩ := Rp.at_ rfl hl2 hx
        have hv : w1.cell? ad = some v := hv
        go_wp2_with fail
        refine wp_loop_once ?_
        go_wp2
        go_ret
        exact ⟨rfl, hk⟩
      · go_wp2_with fail
        refine wp_loop_once ?_
        go_wp2
        go_ret
        exact ⟨rfl, hk⟩
  · have hn := Lib.hid (b_new_ok r u W (by omega) (by omega) (by omega) (by omega))
    have hn2 := Lib.hid (fun w => r_new_ok r u w (by omega) (by omega) (by omega) (by omega))
    clear hbad
    go_enter Try.func6, Try.ntmps6
    go_wp2_with fail
    refine hn.out.mono ?_
    rintro e w1 ⟨rfl, hb1, hk1⟩
    go_wp2_with fail
    refine (hn2.out _).mono ?_
    rintro e w2 ⟨rfl, hr2, hk2⟩
    go_wp2_with fail
    refine (awake16 _).mono ?_
    rintro e w3 ⟨rfl, hk3⟩
    have hrel : PlRel W w1.heap.size r u W.heap.size 0 w3 :=
      ⟨(hb1.kept hk2 (fun x => x)).kept hk3 (fun x => x), by simpa using hr2.kept hk3 (fun x => x), (hk1.trans' hk2).trans' hk3, Nat.le_refl _, hk1.size⟩
    generalize w1.heap.size = q at *
    clear hb1 hk1 hr2 hk2 hk3 hn hn2
    have HR := Lib.hid hrel
    have HL := Lib.hid h2
    clear hrel h2
    by_cases hbig : 1000 < l.length
    · go_wp2_with (go_at_call 14; refine (awake16 _).mono ?_; rintro e w4 ⟨rfl, hk4⟩)
      all_goals first | (exfalso; omega) | (go_ret; exact ⟨rfl, HR.out.2.2.1.trans' hk4⟩)
    · go_wp2_with fail
      go_loopw [7, 53] (fun b i wr => ∃ (k p : Nat) (s : Int), k ≤ l.length ∧ i = .int .i64 k ∧ b = .pointer (some ⟨p, 0, none⟩) ∧ PlRel W q r u p s wr) (fun _ i _ => l.length - (intOf i).toNat)
      case atStart => exact ⟨0, _, _, Nat.zero_le _, rfl, rfl, HR.out⟩
      case round =>
        obtain ⟨k, p, s, hk, rfl, rfl, hb, hr, hkp, hpW, hqW⟩ := hrel
        have HKP := Lib.hid hkp
        have HB := Lib.hid hb
        have HQ := Lib.hid hr
        clear hkp hb hr HR
        by_cases hlt : k < l.length
        · obtain ⟨m, hm⟩ : ∃ m, l[k]? = some m := ⟨_, List.getElem?_eq_getElem hlt⟩
          have hl2 := (Rp.slice _).kept HL.out HKP.out (fun _ _ _ x => x)
          obtain ⟨ad, v, rfl, had, hv, hm'⟩ := Rp.at_ rfl hl2 hm
          obtain ⟨A2, c2, hv2, hv3⟩ := id hm'
          simp only [List.cons.injEq, and_true] at hv2
          subst hv2
          clear hv3
          have HM := Lib.hid hm'
          clear hm' hl2 hm had
          by_cases hbg : 1000 < m.length
          · go_wp2_with fail
            go_ret
            exact ⟨rfl, HKP.out⟩
          · have hbg2 : m.length ≤ 1000 := by omega
            go_wp2_with fail
            refine (b_copy _ _ _ _ _ HB.out).mono ?_
            rintro e w1 ⟨rfl, hc1, hk1⟩
            have HB1 := Lib.hid (HB.out.kept hk1 (fun x => x))
            have HQ1 := Lib.hid (HQ.out.kept hk1 (fun x => x))
            have HM1 := Lib.hid ((Rp.slice _).kept HM.out hk1 (fun _ _ _ x => x))
            have HK1 := Lib.hid (HKP.out.trans' hk1)
            have HC1 := Lib.hid hc1
            have hpl := HB.out.lt
            have hql := HQ.out.lt
            have hWl := HKP.out.size
            clear hc1 hk1
            generalize wr.heap.size = g at *
            go_wp2_with fail
            refine Reg.wp_region_plan [⟨0, false, []⟩, ⟨2, false, []⟩, ⟨5, false, []⟩, ⟨6, false, []⟩, ⟨1, true, []⟩, ⟨3, true, []⟩, ⟨4, true, []⟩, ⟨7, true, []⟩, ⟨8, false, []⟩, ⟨9, false, []⟩, ⟨10, false, []⟩, ⟨12, false, []⟩, ⟨13, false, []⟩, ⟨14, false, []⟩, ⟨15, false, []⟩, ⟨11, true, [13, 14, 15]⟩, ⟨16, false, []⟩, ⟨17, false, []⟩] rfl (by kernel_rfl) ?_
            repeat (first | (refine Reg.look rfl rfl rfl (by go_simp; rfl) rfl ?_; go_simp) | (refine Reg.skip rfl rfl rfl ?_; go_simp))
            refine Reg.act rfl ?_
            go_wp2
            refine ⟨Reg.anew_nil, ?_⟩
            refine Reg.act rfl ?_
            refine wpList_copy_at (E := Rp.int .i64) rfl w1 _ w1.heap.size (.tmp 68) (.tmp 69) 35 rfl 3 8 elem_int rfl (heap_alloc_new w1 _) (Nat.le_refl _) ((Kp.refl _ w1).alloc _).drew A2 c2 (fun k => k < W.heap.size) m rfl HM1.out Rp.int_one (by omega) ?_
            intro A3 c3 w2 hown hk2
            go_wp2
            refine ⟨Reg.anew_nil, ?_⟩
            have HB2 := Lib.hid (HB1.out.kept hk2 (fun x => x))
            have HQ2 := Lib.hid (HQ1.out.kept hk2 (fun x => x))
            have HC2 := Lib.hid (HC1.out.kept hk2 (fun x => x))
            have HM2 := Lib.hid ((Rp.slice _).kept HM1.out hk2 (fun _ _ _ x => x))
            have HK2 := Lib.hid (HK1.out.trans' hk2)
            have HO2 := Lib.hid hown.readFrom
            have hp1 := HB1.out.lt
            have hq1 := HQ1.out.lt
            have hg1 := HC1.out.lt
            have hpq := bk_rk_ne HB1.out HQ1.out
            have hgq := bk_rk_ne HC1.out HQ1.out
            clear hown hk2
            refine Reg.act rfl ?_
            go_wp2_with fail
            refine (b_take p r u s m _ _ _ _ HB2.out HO2.out (by rintro (h | h) <;> omega)).mono ?_
            rintro e w3 ⟨rfl, hb3, hk3⟩
            have HB3 := Lib.hid hb3
            have HQ3 := Lib.hid (HQ2.out.kept hk3 (fun h => hpq h.symm))
            have HC3 := Lib.hid (HC2.out.kept hk3 (by omega))
            have HM3 := Lib.hid ((Rp.slice _).kept HM2.out hk3 (fun i hi _ e => by omega))
            have HK3 := Lib.hid (HK2.out.trans hk3 (fun i hi e => absurd hi (by omega)))
            clear hb3 hk3
            go_wp2_with fail
            refine ⟨Reg.anew_nil, ?_⟩
            refine Reg.act rfl ?_
            go_wp2_with fail
            refine (r_take q r u (u - s) m _ _ _ _ HQ3.out HM3.out (by omega)).mono ?_
            rintro e w4 ⟨rfl, hq4, hk4⟩
            have HB4 := Lib.hid (HB3.out.kept hk4 (fun h => hpq h))
            have HC4 := Lib.hid (HC3.out.kept hk4 (fun h => hgq h))
            have HM4 := Lib.hid ((Rp.slice _).kept HM3.out hk4 (fun i hi _ e => by omega))
            have HK4 := Lib.hid (HK3.out.trans hk4 (fun i hi e => absurd hi (by omega)))
            have HQ4 := Lib.hid hq4
            have hq4c := hq4.c2
            clear hq4 hk4
            go_wp2_with fail
            refine ⟨Reg.anew_nil, ?_⟩
            repeat (first | (refine Reg.look rfl rfl rfl (by go_simp; rfl) rfl ?_; go_simp) | (refine Reg.skip rfl rfl rfl ?_; go_simp))
            have bh := HQ4.out.2
            have bs := HB1.out.2
            generalize hh1 : (take (u - s) m).2 = h1 at *
            have HH := Lib.hid hh1
            clear hh1
            refine Reg.act rfl ?_
            go_wp2_with fail
            refine (b_left _ _ _ _ _ HB4.out).mono ?_
            rintro e w5 ⟨rfl, n5, rfl⟩
            have HB5 := Lib.hid (HB4.out.drewN n5)
            have HC5 := Lib.hid (HC4.out.drewN n5)
            have HK5 := Lib.hid (HK4.out.drewN n5)
            have HQ5 := Lib.hid (HQ4.out.drewN n5)
            have HM5 := Lib.hid ((Rp.slice _).keptNo HM4.out ((Kp.refl No _).drewN n5))
            clear HB HQ HKP HL HM HB1 HQ1 HC1 HM1 HK1 HB2 HQ2 HC2 HM2 HK2 HO2 HB3 HQ3 HC3 HM3 HK3 HB4 HQ4 HC4 HM4 HK4
            go_wp2_with fail
            (refine ⟨?anew, ?_⟩; case anew => ((repeat (refine Reg.anew_cons rfl rfl (fun _ => by go_simp) ?_)); exact Reg.anew_nil))
            repeat (first | (refine Reg.look rfl rfl rfl (by go_simp; rfl) rfl ?_; go_simp) | (refine Reg.skip rfl rfl rfl ?_; go_simp))
            (refine Reg.done ?_; simp only [Exit.then])
            by_cases hk3 : k % 3 = 2
            · have hd : (((k : Int) % 3) == 2) = true := by simp; omega
              generalize w4.drewN n5 = w5 at *
              have hp5 := HB5.out.lt
              have hg5 := HC5.out.lt
              have hW5 := HK5.out.size
              go_wp2_with fail
              refine (b_take p r u (u - h1) [1, 1] (some ⟨w5.heap.size, 0, none⟩) 2 _ (fun k => w5.heap.size ≤ k) (HB5.out.kept (S := No) ((Kp.refl _ _).alloc _) (fun x => x))
                (Rp.of_block (heap_alloc_new w5 _) (Nat.le_refl _) rfl (by simp) (by simp [maxLen]) (by decide)) (by omega)).mono ?_
              rintro e w6 ⟨rfl, _, hk6⟩
              have hk6 : Kp (fun x => x = p) w5 w6 := ((Kp.refl _ _).alloc _).trans' hk6
              have HQ6 := Lib.hid (HQ5.out.kept hk6 (fun h => hpq h.symm))
              have HC6 := Lib.hid (HC5.out.kept hk6 (by omega))
              have HM6 := Lib.hid ((Rp.slice _).kept HM5.out hk6 (fun i hi _ e => by omega))
              have HK6 := Lib.hid (HK5.out.trans hk6 (fun i hi e => absurd hi (by omega)))
              have hW6 := hk6.size
              clear hk6 HQ5 HC5 HM5 HK5 HB5
              go_wp2_with (at_builtin; refine wpList_copy_lit (E := Rp.int .i64) rfl w6 (.tmp 92) (.tmp 93) 35 rfl 3 8 elem_int rfl A2 c2 (fun k => k < W.heap.size) m rfl HM6.out Rp.int_one (by omega) ?_; intro A7 c7 w7 hown hk7)
              have HO7 := Lib.hid hown.readFrom
              have HQ7 := Lib.hid (HQ6.out.kept hk7 (fun x => x))
              have HC7 := Lib.hid (HC6.out.kept hk7 (fun x => x))
              have HK7 := Lib.hid (HK6.out.trans' hk7)
              clear hown hk7
              refine (b_take g r u s m _ _ _ _ HC7.out HO7.out (by rintro (h | h) <;> omega)).mono ?_
              rintro e w8 ⟨rfl, hc8, hk8⟩
              rw [HH.out] at hc8
              have HC8 := Lib.hid hc8
              have HQ8 := Lib.hid (HQ7.out.kept hk8 (fun h => hgq h.symm))
              have HK8 := Lib.hid (HK7.out.trans hk8 (fun i hi e => absurd hi (by omega)))
              clear hc8 hk8 HC6 HC7 HQ6 HQ7 HK6 HK7 HM6 HO7
              have hgW : W.heap.size ≤ g := by omega
              go_wp2_with fail
              refine (b_tick _ _ _ _ _ HC8.out).mono ?_
              rintro e w9 ⟨rfl, hb9, hk9⟩
              have HB9 := Lib.hid hb9
              have HQ9 := Lib.hid (HQ8.out.kept hk9 (fun h => bk_rk_ne HC8.out HQ8.out h.symm))
              have HK9 := Lib.hid (HK8.out.trans hk9 (fun i hi e => absurd hi (by omega)))
              clear hb9 hk9
              go_wp2_with fail
              refine (r_tick _ _ _ _ _ HQ9.out).mono ?_
              rintro e w10 ⟨rfl, hq10, hk10⟩
              have HB10 := Lib.hid (HB9.out.kept hk10 (fun h => bk_rk_ne HB9.out HQ9.out h))
              have HQ10 := Lib.hid hq10
              have HK10 := Lib.hid (HK9.out.trans hk10 (fun i hi e => absurd hi (by omega)))
              have hq10c := hq10.c2
              clear hq10 hk10 HB9 HQ9 HK9 HC8 HQ8 HK8
              go_wp2_with fail
              refine Reg.wp_region_plan [⟨0, false, []⟩, ⟨2, false, []⟩, ⟨3, false, []⟩, ⟨4, false, []⟩, ⟨5, false, []⟩, ⟨1, true, [3, 4, 5]⟩, ⟨6, false, []⟩] rfl (by kernel_rfl) ?_
              repeat (first | (refine Reg.look rfl rfl rfl (by go_simp; rfl) rfl ?_; go_simp) | (refine Reg.skip rfl rfl rfl ?_; go_simp))
              refine Reg.act rfl ?_
              go_wp2_with fail
              refine (b_left _ _ _ _ _ HB10.out.drew).mono ?_
              rintro e w11 ⟨rfl, n11, rfl⟩
              go_wp2_with fail
              (refine ⟨?anew, ?_⟩; case anew => ((repeat (refine Reg.anew_cons rfl rfl (fun _ => by go_simp) ?_)); exact Reg.anew_nil))
              repeat (first | (refine Reg.look rfl rfl rfl (by go_simp; rfl) rfl ?_; go_simp) | (refine Reg.skip rfl rfl rfl ?_; go_simp))
              (refine Reg.done ?_; simp only [Exit.then])
              have e10 : min (h1 + r) u = u - max (u - h1 - r) 0 := by omega
              have HQ11 : Rk (w10.drewN (1 + n11)) q r u (u - max (u - h1 - r) 0) := by rw [← e10]; exact HQ10.out.drewN _
              have HQ11 := Lib.hid HQ11
              clear e10 HQ10
              go_wp2_with fail
              go_roundw
              case rel => exact ⟨k + 1, g, max (u - h1 - r) 0, by omega, by go_num, rfl, HB10.out.drewN _, HQ11.out, HK10.out.drewN _, hgW, hqW⟩
              case measure => simp [intOf]; omega
            · have hd : (((k : Int) % 3) == 2) = false := by simp; omega
              have hg1 := hpW
              clear HM5 HC5
              generalize w4.drewN n5 = w5 at *
              have hgW := hpW
              have hgW : W.heap.size ≤ p := by omega
              go_wp2_with fail
              refine (b_tick _ _ _ _ _ HB5.out).mono ?_
              rintro e w9 ⟨rfl, hb9, hk9⟩
              have HB9 := Lib.hid hb9
              have HQ9 := Lib.hid (HQ5.out.kept hk9 (fun h => bk_rk_ne HB5.out HQ5.out h.symm))
              have HK9 := Lib.hid (HK5.out.trans hk9 (fun i hi e => absurd hi (by omega)))
              clear hb9 hk9
              go_wp2_with fail
              refine (r_tick _ _ _ _ _ HQ9.out).mono ?_
              rintro e w10 ⟨rfl, hq10, hk10⟩
              have HB10 := Lib.hid (HB9.out.kept hk10 (fun h => bk_rk_ne HB9.out HQ9.out h))
              have HQ10 := Lib.hid hq10
              have HK10 := Lib.hid (HK9.out.trans hk10 (fun i hi e => absurd hi (by omega)))
              have hq10c := hq10.c2
              clear hq10 hk10 HB9 HQ9 HK9 HB5 HQ5 HK5
              go_wp2_with fail
              refine Reg.wp_region_plan [⟨0, false, []⟩, ⟨2, false, []⟩, ⟨3, false, []⟩, ⟨4, false, []⟩, ⟨5, false, []⟩, ⟨1, true, [3, 4, 5]⟩, ⟨6, false, []⟩] rfl (by kernel_rfl) ?_
              repeat (first | (refine Reg.look rfl rfl rfl (by go_simp; rfl) rfl ?_; go_simp) | (refine Reg.skip rfl rfl rfl ?_; go_simp))
              refine Reg.act rfl ?_
              go_wp2_with fail
              refine (b_left _ _ _ _ _ HB10.out.drew).mono ?_
              rintro e w11 ⟨rfl, n11, rfl⟩
              go_wp2_with fail
              (refine ⟨?anew, ?_⟩; case anew => ((repeat (refine Reg.anew_cons rfl rfl (fun _ => by go_simp) ?_)); exact Reg.anew_nil))
              repeat (first | (refine Reg.look rfl rfl rfl (by go_simp; rfl) rfl ?_; go_simp) | (refine Reg.skip rfl rfl rfl ?_; go_simp))
              (refine Reg.done ?_; simp only [Exit.then])
              have e10 : min (h1 + r) u = u - max (u - h1 - r) 0 := by omega
              have HQ11 : Rk (w10.drewN (1 + n11)) q r u (u - max (u - h1 - r) 0) := by rw [← e10]; exact HQ10.out.drewN _
              have HQ11 := Lib.hid HQ11
              clear e10 HQ10
              go_wp2_with fail
              go_roundw
              case rel => exact ⟨k + 1, p, max (u - h1 - r) 0, by omega, by go_num, rfl, HB10.out.drewN _, HQ11.out, HK10.out.drewN _, hgW, hqW⟩
              case measure => simp [intOf]; omega
        · go_wp2
          go_ret
          exact ⟨rfl, HKP.out⟩
theorem bucketPlays_holds : Rows.BucketPlaysSaid := bucketPlays_of bucketPlays_walk
#print axioms bucketPlays_holds
end Go.Proofs.Ytkghckeoplolpaa
