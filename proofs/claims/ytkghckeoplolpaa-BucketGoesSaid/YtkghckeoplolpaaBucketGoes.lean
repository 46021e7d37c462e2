/-
  What is at most the burst goes, behind as many ticks as it takes: BucketGoes answers true for every input. No condition.
-/
import Derived.Test.YtkghckeoplolpaaT1
import Derived.Test.YtkghckeoplolpaaOwn
import Derived.Test.YtkghckeoplolpaaFBucketGoes
namespace Go.Proofs.Ytkghckeoplolpaa
open Go.RowKit Go.ChangeShapes Go.WideShapes Go.ChangeAt

theorem elem_int : Elem Try.prog 35 3 1 8 := Elem.of Try.underlying35 (z := .int .i64 0) (by kernel_rfl) rfl (by decide)

/-- amid the waiting: what 'left' says of the bucket -/
def GoesRel (W : World) (r u s L : Int) (wr : World) : Prop := Bk wr W.heap.size r u s ∧ Kp No W wr ∧ (L = u - s ∨ u ≤ L ∧ L ≤ u + r ∧ s = 0)

theorem bucketGoes_walk : BucketGoesWalk := by
  intro W v0 r v1 u v2 l v3 size h0 h1 h2 h3
  obtain ⟨h0, w0⟩ := h0
  obtain ⟨h1, w1⟩ := h1
  obtain ⟨h3, w3⟩ := h3
  simp only [List.cons.injEq, and_true] at h0 h1 h3
  subst h0 h1 h3
  obtain ⟨A, c, hv, hrest⟩ := id h2
  simp only [List.cons.injEq, and_true] at hv
  subst hv
  clear hrest
  have bu := bounds_i64 w1
  have br := bounds_i64 w0
  have bs := bounds_i64 w3
  clear w0 w1 w3
  by_cases hbad : r < 1 ∨ 4096 < r ∨ u < 64 ∨ 16384 < u
  · have hb := b_new_bad r u W hbad
    clear hbad
    go_enter Try.func4, Try.ntmps4
    go_wp2_with fail
    refine hb.mono ?_
    rintro e w1 ⟨rfl, rfl⟩
    go_wp2_with fail
    refine (awake16 _).mono ?_
    rintro e w1 ⟨rfl, hk⟩
    go_wp2_with fail
    refine (awake16 _).mono ?_
    rintro e w2 ⟨rfl, hk2⟩
    go_wp2
    go_ret
    exact ⟨rfl, hk.trans' hk2⟩
  · have hn := b_new_ok r u W (by omega) (by omega) (by omega) (by omega)
    go_enter Try.func4, Try.ntmps4
    go_wp2_with fail
    refine hn.mono ?_
    rintro e w1 ⟨rfl, hb1, hk1⟩
    go_wp2_with fail
    refine (awake16 _).mono ?_
    rintro e w2 ⟨rfl, hk⟩
    have hb2 := hb1.kept hk (fun x => x)
    have hk2 : Kp No W w2 := hk1.trans' hk
    have hl2 := (Rp.slice _).kept h2 hk2 (fun _ _ _ x => x)
    clear hb1 hk1 hk h2 hn
    by_cases hok : size < 0 ∨ u < size ∨ 1000 < l.length
    · go_wp2_with (go_at_call 14; refine (awake16 _).mono ?_; rintro e w3 ⟨rfl, hk3⟩)
      all_goals first | (exfalso; omega) | (go_ret; exact ⟨rfl, hk2.trans' hk3⟩)
    · have hl : l.length ≤ 1000 := by omega
      have hlt2 := hb2.lt
      have hWlt := hk2.size
      have s0 : 0 ≤ size := by omega
      have s1 : size ≤ u := by omega
      clear hok hbad
      go_wp2_with (at_builtin; refine wpList_copy_lit (E := Rp.int .i64) rfl w2 (.tmp 40) (.tmp 41) 35 rfl 3 8 elem_int rfl A c (fun k => k < W.heap.size) l rfl hl2 Rp.int_one (by omega) ?_; intro A3 c3 w3 hown hk3)
      have hrd := Lib.hid hown.readFrom
      have hb3 := Lib.hid (hb2.kept hk3 (fun x => x))
      have hk3 := Lib.hid (hk2.trans' hk3)
      clear hb2 hown hl2 hk2
      refine (b_take W.heap.size r u 0 l _ _ _ _ hb3.out hrd.out (by rintro (h | h) <;> omega)).mono ?_
      rintro e w4 ⟨rfl, hb4, hk4⟩
      have hk4 := Lib.hid ((hk3.out).trans hk4 (fun i hi h => absurd h (by omega)))
      generalize u - (take (u - 0) l).2 = s4 at hb4
      have bd4 := hb4.bd
      have HB4 := Lib.hid hb4
      have hr := hb4.2
      clear hb4 hb3 hk3 hrd
      go_wp2_with fail
      refine (b_left _ _ _ _ _ HB4.out).mono ?_
      rintro e w5 ⟨rfl, n5, rfl⟩
      go_wp2_with fail
      go_loopw [11] (fun left wr => ∃ (s5 L : Int), left = .int .i64 L ∧ GoesRel W r u s5 L wr) (fun left _ => (size - intOf left).toNat)
      case atStart => exact ⟨s4, _, rfl, HB4.out.drewN _, hk4.out.drewN _, .inl rfl⟩
      case round =>
        obtain ⟨s5, L, rfl, hb5, hk5, hL⟩ := hrel
        have hlt5 := hb5.lt
        have bd5 := hb5.bd
        have HB5 := Lib.hid hb5
        have HK5 := Lib.hid hk5
        clear hb5 hk5
        by_cases hlt : L < size
        · obtain rfl : L = u - s5 := by omega
          have h6 : Bk (wr.alloc (.cells #[.int .i64 size] 3)) W.heap.size r u s5 := HB5.out.kept (S := No) ((Kp.refl _ _).alloc _) (fun x => x)
          have e6 : take (u - s5) [size] = (0, u - s5) := by rw [take, if_pos (by omega)]
          have HT := Lib.hid (b_take W.heap.size r u s5 [size] (some ⟨wr.heap.size, 0, none⟩) 1 _ (fun k => wr.heap.size ≤ k) h6
            (Rp.of_block (heap_alloc_new wr _) (Nat.le_refl _) rfl (by simp) (by simp [maxLen]) (by intro a ha; simp only [List.mem_cons, List.not_mem_nil, or_false] at ha; subst ha; exact WalkArith.wf_i64 (by omega))) (by omega))
          rw [e6] at HT
          clear e6 h6
          go_wp2_with fail
          refine HT.out.mono ?_
          rintro e w6 ⟨rfl, hb6, hk6⟩
          simp only [show u - (u - s5) = s5 by omega] at hb6
          have HB6 := Lib.hid hb6
          have HK6 : Hid (Kp No W w6) := Lib.hid ((HK5.out.alloc _).trans hk6 (fun i hi h => absurd h (by omega)))
          clear hb6 hk6 HT
          go_wp2_with fail
          refine (b_tick _ _ _ _ _ HB6.out).mono ?_
          rintro e w7 ⟨rfl, hb7, hk7⟩
          have HB7 := Lib.hid hb7
          have HK7 : Hid (Kp No W w7) := Lib.hid (HK6.out.trans hk7 (fun i hi h => absurd h (by omega)))
          clear hb7 hk7
          go_wp2_with fail
          go_roundw
          case rel => exact ⟨_, u - s5 + r, rfl, HB7.out, HK7.out, by omega⟩
          case measure => simp [intOf]; omega
        · have h6 : Bk (wr.alloc (.cells #[.int .i64 size] 3)) W.heap.size r u s5 := HB5.out.kept (S := No) ((Kp.refl _ _).alloc _) (fun x => x)
          have e6 : (take (u - s5) [size]).1 = 1 := by rw [take, if_neg (by omega)]; rfl
          have HT := Lib.hid (b_take W.heap.size r u s5 [size] (some ⟨wr.heap.size, 0, none⟩) 1 _ (fun k => wr.heap.size ≤ k) h6
            (Rp.of_block (heap_alloc_new wr _) (Nat.le_refl _) rfl (by simp) (by simp [maxLen]) (by intro a ha; simp only [List.mem_cons, List.not_mem_nil, or_false] at ha; subst ha; exact WalkArith.wf_i64 (by omega))) (by omega))
          rw [e6] at HT
          clear e6 h6
          go_wp2_with fail
          refine HT.out.mono ?_
          rintro e w6 ⟨rfl, hb6, hk6⟩
          have HK6 : Hid (Kp No W w6) := Lib.hid ((HK5.out.alloc _).trans hk6 (fun i hi h => absurd h (by omega)))
          clear hb6 hk6 HT
          go_wp2
          go_ret
          exact ⟨rfl, HK6.out⟩

theorem bucketGoes_holds : Rows.BucketGoesSaid := bucketGoes_of bucketGoes_walk
#print axioms bucketGoes_holds
end Go.Proofs.Ytkghckeoplolpaa
