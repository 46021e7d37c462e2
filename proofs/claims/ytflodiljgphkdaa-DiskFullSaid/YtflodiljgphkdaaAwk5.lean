/-
  redoubtlaw05.awake.
-/
import Derived.Test.YtflodiljgphkdaaDiskN
namespace Go.Proofs.Ytflodiljgphkdaa
open Go.RowKit Go.ChangeShapes Go.WideShapes Go.ChangeAt

set_option maxRecDepth 100000 in
set_option maxHeartbeats 2000000 in
theorem awake05 (w : World) : Calls Try.prog 17 #[] w fun e w' => e = .returned (.bool true) ∧ Kp No w w' := by
  obtain ⟨s1, s2, s3, s4, s5, s6, s7, h1, h2, h3, h4, h5, h6, h7, h8, h9, h10, h11, h12⟩ := awake_plain
  have H1 := Lib.hid h1
  have H2 := Lib.hid h2
  have H3 := Lib.hid h3
  have H4 := Lib.hid h4
  have H5 := Lib.hid h5
  have H6 := Lib.hid h6
  have H7 := Lib.hid h7
  have H8 := Lib.hid h8
  have H9 := Lib.hid h9
  have H10 := Lib.hid h10
  have H11 := Lib.hid h11
  have H12 := Lib.hid h12
  clear h1 h2 h3 h4 h5 h6 h7 h8 h9 h10 h11 h12
  go_enter Try.func17, Try.ntmps17
  go_wp2_with fail
  refine (n_new w).mono ?_
  rintro e w1 ⟨d, rfl, hd, _⟩
  have D1 := Lib.hid hd
  clear hd
  go_wp2_with fail
  have hc := n_append ⟨#[97]⟩ ⟨#[120, 121]⟩ w1 D1.out
  rw [H1.out] at hc
  refine hc.mono ?_
  rintro e w2 ⟨rfl, hd, _⟩
  have D2 := Lib.hid hd
  clear hd hc
  go_wp2_with fail
  have hc := n_sync ⟨#[97]⟩ w2 D2.out
  rw [H2.out] at hc
  refine hc.mono ?_
  rintro e w3 ⟨rfl, hd, _⟩
  have D3 := Lib.hid hd
  clear hd hc
  go_wp2_with fail
  have hc := n_append ⟨#[97]⟩ ⟨#[122]⟩ w3 D3.out
  rw [H3.out] at hc
  refine hc.mono ?_
  rintro e w4 ⟨rfl, hd, _⟩
  have D4 := Lib.hid hd
  clear hd hc
  go_wp2_with fail
  have hk5 : Kp No w4 (w4.alloc (.cells #[.int .i64 1] 3)) := (Kp.refl _ _).alloc _
  have hc := n_crash w4 D4.out _ hk5 (some ⟨w4.heap.size, 0, none⟩) 1 [1] (fun k => k = w4.heap.size) (by rw [H12.out]; decide) (Rp.of_block1 (E := Rp.int .i64) rfl (Value.int .i64) (heap_alloc_new w4 (.cells #[.int .i64 1] 3)) rfl rfl (Nat.le_refl _) (by simp [maxLen]) (fun a ha => by simp at ha; subst ha; exact ⟨rfl, by decide⟩)) (fun k hk => by left; omega)
  rw [H4.out] at hc
  refine hc.mono ?_
  rintro e w5 ⟨rfl, hd, _⟩
  have D5 := Lib.hid hd
  clear hd hc hk5
  go_wp2_with fail
  have hc := n_read ⟨#[97]⟩ w5 D5.out
  rw [H5.out] at hc
  simp only [textOr, Option.getD_some, Option.isSome_some] at hc
  refine hc.mono ?_
  rintro e w6 ⟨rfl, rfl⟩
  clear hc
  go_wp2_with fail
  have hc := n_fuse w6 D5.out 1 (by decide)
  rw [H6.out] at hc
  refine hc.mono ?_
  rintro e w7 ⟨rfl, hd, _⟩
  have D7 := Lib.hid hd
  clear hd hc
  go_wp2_with fail
  have hc := n_append ⟨#[98]⟩ ⟨#[113]⟩ w7 D7.out
  rw [H7.out] at hc
  refine hc.mono ?_
  rintro e w8 ⟨rfl, hd, _⟩
  have D8 := Lib.hid hd
  clear hd hc
  go_wp2_with fail
  have hc := n_sync ⟨#[98]⟩ w8 D8.out
  rw [H8.out] at hc
  refine hc.mono ?_
  rintro e w9 ⟨rfl, hd, _⟩
  have D9 := Lib.hid hd
  clear hd hc
  go_wp2_with fail
  have hc := n_down w9 D9.out
  rw [H9.out] at hc
  refine hc.mono ?_
  rintro e w10 ⟨rfl, rfl⟩
  clear hc
  go_wp2_with fail
  have hc := n_append ⟨#[65]⟩ ⟨#[]⟩ w10 D9.out
  rw [H10.out] at hc
  refine hc.mono ?_
  rintro e w11 ⟨rfl, hd, _⟩
  have D11 := Lib.hid hd
  clear hd hc
  go_wp2_with fail
  have hc := n_steps w11 D11.out
  rw [H11.out] at hc
  refine hc.mono ?_
  rintro e w12 ⟨rfl, rfl⟩
  clear hc
  go_wp2_with fail
  go_ret
  exact ⟨rfl, D11.out.kp⟩
end Go.Proofs.Ytflodiljgphkdaa
