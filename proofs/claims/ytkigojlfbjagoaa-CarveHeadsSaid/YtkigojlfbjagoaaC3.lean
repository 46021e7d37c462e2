/-
  awake of layer 7.
-/
import Derived.Test.YtkigojlfbjagoaaC2
namespace Go.Proofs.Ytkigojlfbjagoaa
open Go.RowKit Go.ChangeShapes Go.WideShapes Go.ChangeAt

theorem cuts65 : cutsB (bs (List.replicate 65 0)) = [bs (List.replicate 64 0), bs [0]] := by
  unfold cutsB
  rw [bs_data, show List.replicate 65 (0 : UInt8) = List.replicate 64 0 ++ [0] from rfl, cutsL_head (by simp), cutsL_short (by simp) (by simp)]
  rfl
def ta : ByteArray := ⟨#[97]⟩
def tb : ByteArray := ⟨#[98]⟩
set_option maxHeartbeats 1000000 in
theorem awake07 (w : World) : Calls Try.prog 15 #[] w fun e w' => e = .returned (.bool true) ∧ Kp No w w' := by
  obtain ⟨w1, hrun, hown, hk⟩ := own_zeros Rp.byte_by (P := Try.prog) w No w.heap.size 44 5 (0 : UInt8) trivial (bytes := 1) Try.underlying44 (by kernel_rfl) rfl .i64 .i64 65 (by omega) (by simp [maxLen]) (Nat.le_refl _)
  have hrun2 := run_text (P := Try.prog) w1 44 9 5 bytely (by rw [← List.length_replicate (n := 65) (a := (0 : UInt8))] at hown; exact hown)
  rw [List.length_replicate] at hrun2
  rw [show ((65 : Nat) : Int) = 65 from rfl] at hrun
  have hcut := cuts65
  have hzs : (bs (List.replicate 65 (0 : UInt8))).size = 65 := by rw [bs_size, List.length_replicate]
  generalize bs (List.replicate 65 (0 : UInt8)) = z at *
  obtain ⟨y0, hy0⟩ : ∃ y, bs (List.replicate 64 (0 : UInt8)) = y := ⟨_, rfl⟩
  obtain ⟨y1, hy1⟩ : ∃ y, bs [(0 : UInt8)] = y := ⟨_, rfl⟩
  have hy1s : y1.size = 1 := by rw [← hy1]; rfl
  rw [hy0, hy1] at hcut
  have HC := Lib.hid hcut
  have HK1 := Lib.hid hk
  clear hown hk hy0 hy1 hcut
  go_enter Try.func15, Try.ntmps15
  go_wp2_with fail
  refine (c_cut z _ (by omega)).mono ?_
  rintro e w2 ⟨A, c, rfl, ho2, hk2⟩
  rw [HC.out] at ho2 ⊢
  obtain ⟨g, rfl, hgb, hgl, hcell, _, _⟩ := Own.cellBy Rp.str_by ho2 (i := 1) (a := y1) rfl
  have hk2 := HK1.out.trans' hk2
  have HK2 := Lib.hid hk2
  clear hk2 ho2 hrun hrun2 HK1 HC hzs
  go_wp2_with fail
  refine (c_count 65 _ (by omega) (by omega)).mono ?_
  rintro e w3 ⟨rfl, rfl⟩
  rw [show cnt 65 = 2 from rfl]
  go_wp2_with fail
  refine (c_count 64 _ (by omega) (by omega)).mono ?_
  rintro e w3 ⟨rfl, rfl⟩
  rw [show cnt 64 = 1 from rfl]
  go_wp2_with fail
  have hj := c_join [ta, ByteArray.mk #[], tb] (some ⟨w2.heap.size, 0, none⟩) 3 w2.heap.size (w2.alloc (.cells #[.string ta, .string (ByteArray.mk #[]), .string tb] 9)) No
    (Own.of_cells Rp.str_by No (l := [ta, ByteArray.mk #[], tb]) (heap_alloc_new w2 _) rfl (by intro a ha; simp only [List.mem_cons, List.not_mem_nil, or_false] at ha; rcases ha with rfl | rfl | rfl <;> decide +kernel) (Nat.le_refl _) (by simp [maxLen])) (by simp) (by decide +kernel)
  rw [show joinB [ta, ByteArray.mk #[], tb] = ByteArray.mk #[97, 98] from by decide +kernel] at hj
  refine hj.mono ?_
  rintro e w3 ⟨rfl, hk3⟩
  have HK3 := Lib.hid ((HK2.out.alloc _).trans' hk3)
  clear hj hk3 HK2
  go_wp2_with fail
  have hf := c_fits [ta, tb] (some ⟨w3.heap.size, 0, none⟩) 2 (w3.alloc (.cells #[.string ta, .string tb] 9)) (fun i => w3.heap.size ≤ i)
    (Rp.of_block1 (E := Rp.str) rfl Value.string (heap_alloc_new w3 _) (Nat.le_refl _) rfl (by simp) (by simp [maxLen]) (by intro a ha; simp only [List.mem_cons, List.not_mem_nil, or_false] at ha; rcases ha with rfl | rfl <;> exact ⟨rfl, by decide +kernel⟩)) (by simp)
  rw [show fitsB [ta, tb] = false from fitsB_not _ 0 ta rfl (by intro h; exact absurd (h.2.2 (by decide)) (by decide +kernel))] at hf
  refine hf.mono ?_
  rintro e w4 ⟨rfl, rfl⟩
  have HK4 := Lib.hid (HK3.out.alloc (.cells #[.string ta, .string tb] 9))
  clear hf HK3
  go_wp2_with fail
  have h0 := Own.nil Rp.str (w3.alloc (.cells #[.string ta, .string tb] 9)) No 0 9
  refine (c_fits [] none 0 _ (fun _ => True) ((h0.str_any (fun _ => True)).read fun _ _ => trivial) (by simp)).mono ?_
  rintro e w4 ⟨rfl, rfl⟩
  rw [show fitsB [] = true from fitsL_nil]
  go_wp2_with fail
  go_ret
  exact ⟨rfl, HK4.out⟩
end Go.Proofs.Ytkigojlfbjagoaa
