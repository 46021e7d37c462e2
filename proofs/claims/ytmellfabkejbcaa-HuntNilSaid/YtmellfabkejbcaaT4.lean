import Derived.Test.YtmellfabkejbcaaT3
namespace Go.Proofs.Ytmellfabkejbcaa
open Go.RowKit Go.ChangeShapes Go.WideShapes Go.ChangeAt

def letters : List ByteArray := [⟨#[97]⟩, ⟨#[98]⟩, ⟨#[99]⟩, ⟨#[100]⟩, ⟨#[101]⟩]

set_option maxHeartbeats 2000000 in
theorem awake19 (w : World) : Calls Try.prog 4 #[] w fun e w' => e = .returned (.bool true) ∧ Kp No w w' := by
  go_enter Try.func4, Try.ntmps4
  go_wp2_with fail
  refine (h_new 5 _ (by omega) (by omega)).mono ?_
  rintro e w1 ⟨rfl, hb1, hk1⟩
  have hlt1 := hb1.lt
  have HB1 := Lib.hid hb1
  have HK1 := Lib.hid hk1
  clear hb1 hk1
  go_wp2_with fail
  refine (h_tick w.heap.size 5 0 letters (some ⟨w1.heap.size, 0, none⟩) 5 _ (fun k => w1.heap.size ≤ k) (HB1.out.kept (S := No) ((Kp.refl _ _).alloc _) (fun h => h)) (by omega)
    (Rp.of_block1 (E := Rp.str) rfl Value.string (heap_alloc_new w1 _) (Nat.le_refl _) rfl (by decide) (by simp [maxLen]) (by intro a ha; refine ⟨rfl, ?_⟩; simp only [letters, List.mem_cons, List.not_mem_nil, or_false] at ha; rcases ha with rfl | rfl | rfl | rfl | rfl <;> simp [maxLen, ByteArray.size]))
    (by simp; omega) (by decide) (by decide)).mono ?_
  rintro e w2 ⟨⟨A2, c2, rfl, ho2⟩, hb2, hk2⟩
  have HB2 := Lib.hid hb2
  have HK2 : Hid (Kp No w w2) := Lib.hid ((HK1.out.alloc _).trans hk2 (fun i hi h => absurd h (by omega)))
  clear hb2 hk2 HB1 HK1 ho2
  simp only [show hTo 5 0 = 0 from rfl, show (hGot 0 letters).length = 4 from rfl]
  go_wp2_with fail
  go_loopw [23] (fun i wr => ∃ k : Nat, k ≤ 4 ∧ i = .int .i64 k ∧ Hk wr w.heap.size 5 (1 + k) ∧ Kp No w wr) (fun i _ => 4 - (intOf i).toNat)
  case atStart => exact ⟨0, by omega, rfl, HB2.out, HK2.out⟩
  case round =>
    obtain ⟨k, hk, rfl, hb3, hk3⟩ := hrel
    have HB3 := Lib.hid hb3
    have HK3 := Lib.hid hk3
    have hlt3 := hb3.lt
    clear hb3 hk3 HB2 HK2
    by_cases hlt : k < 4
    · go_wp2_with fail
      refine (h_tick w.heap.size 5 (1 + k) [⟨#[97]⟩] (some ⟨wr.heap.size, 0, none⟩) 1 _ (fun k => wr.heap.size ≤ k) (HB3.out.kept (S := No) ((Kp.refl _ _).alloc _) (fun h => h)) (by omega)
        (Rp.of_block1 (E := Rp.str) rfl Value.string (heap_alloc_new wr _) (Nat.le_refl _) rfl (by decide) (by simp [maxLen]) (by intro a ha; refine ⟨rfl, ?_⟩; simp only [List.mem_cons, List.not_mem_nil, or_false] at ha; subst ha; simp [maxLen, ByteArray.size]))
        (by simp; omega) (by decide) (by decide)).mono ?_
      rintro e w4 ⟨⟨A4, c4, rfl, _⟩, hb4, hk4⟩
      have HB4 := Lib.hid hb4
      have HK4 : Hid (Kp No w w4) := Lib.hid ((HK3.out.alloc _).trans hk4 (fun i hi h => absurd h (by omega)))
      clear hb4 hk4
      go_wp2_with fail
      go_roundw
      case rel => exact ⟨k + 1, by omega, by go_num, HB4.out, HK4.out⟩
      case measure => simp [intOf]; omega
    · obtain rfl : k = 4 := by omega
      go_wp2_with fail
      refine (h_tick w.heap.size 5 5 letters (some ⟨wr.heap.size, 0, none⟩) 5 _ (fun k => wr.heap.size ≤ k) (HB3.out.kept (S := No) ((Kp.refl _ _).alloc _) (fun h => h)) (by omega)
        (Rp.of_block1 (E := Rp.str) rfl Value.string (heap_alloc_new wr _) (Nat.le_refl _) rfl (by decide) (by simp [maxLen]) (by intro a ha; refine ⟨rfl, ?_⟩; simp only [letters, List.mem_cons, List.not_mem_nil, or_false] at ha; rcases ha with rfl | rfl | rfl | rfl | rfl <;> simp [maxLen, ByteArray.size]))
        (by simp; omega) (by decide) (by decide)).mono ?_
      rintro e w4 ⟨⟨A4, c4, rfl, ho4⟩, hb4, hk4⟩
      have HB4 := Lib.hid hb4
      have HK4 : Hid (Kp No w w4) := Lib.hid ((HK3.out.alloc _).trans hk4 (fun i hi h => absurd h (by omega)))
      obtain ⟨ad, rfl, _, hv, _⟩ := Rp.at_str ho4.readFrom (i := 0) (a := ⟨#[101]⟩) rfl
      have hv : w4.cell? ad = some (.string ⟨#[101]⟩) := hv
      clear hb4 hk4 ho4
      simp only [show hTo 5 5 = 0 from rfl, show (hGot 5 letters).length = 1 from rfl]
      go_wp2_with fail
      refine (h_turn _ _ _ _ HB4.out).mono ?_
      rintro e w5 ⟨rfl, rfl⟩
      go_wp2
      go_ret
      exact ⟨rfl, HK4.out⟩
end Go.Proofs.Ytmellfabkejbcaa
