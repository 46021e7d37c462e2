/-
  disk: cut; a drive's own fields.
-/
import Derived.Test.YtflodiljgphkdaaDisk1
namespace Go.Proofs.Ytflodiljgphkdaa
open Go.RowKit Go.ChangeShapes Go.WideShapes Go.ChangeAt

set_option maxRecDepth 100000 in
set_option maxHeartbeats 2000000 in
theorem d_cut (b : Nat) (A : Option Addr) (m c : Nat) (f : FV) (n : Int) (w : World) (h : FileIn w b (.slice A m c) f) (ho : OkF f) :
    Calls Try.prog 64 #[.pointer (some ⟨b, 0, none⟩), .int .i64 n] w fun e w' => e = .returned (.tuple #[]) ∧
      FileIn w' b (.slice A (f.sure + keepOf f n) c) ⟨f.bytes.take (f.sure + keepOf f n), f.sure + keepOf f n, f.old⟩ ∧ Kp (· = b) w w' := by
  have H := Lib.hid h
  obtain ⟨_, _, he, hlc, hcm⟩ := h.2.shape
  injection he with e1 e2 e3
  subst e1 e2 e3
  have c0 : w.cell? ⟨b, 0, none⟩ = some _ := h.1.cell rfl
  have c1 : w.cell? ⟨b, 1, none⟩ = some _ := h.1.cell rfl
  have f0 := h.1.fr 0
  have hw := d_waits b _ f w.drew h ho
  obtain ⟨W, hW⟩ : ∃ W, f.bytes.length - f.sure = W := ⟨_, rfl⟩
  have hWi : (f.bytes.length : Int) - (f.sure : Int) = (W : Int) := by have := ho.1; omega
  have hT : (f.sure : Int) + (W : Int) ≤ 1048576 := by have := ho.1; have := ho.2; omega
  have hTc : (f.sure : Int) + (W : Int) ≤ (c : Int) := by have := ho.1; omega
  have hcw : (c : Int) ≤ 9223372036854775807 := by unfold maxLen at hcm; omega
  rw [hWi] at hw
  clear h hWi
  obtain ⟨K, hK⟩ : ∃ K, keepOf f n = K := ⟨_, rfl⟩
  rw [hK]
  unfold keepOf at hK
  rw [hW] at hK
  have hw0 : ¬ (W : Int) < 0 := by omega
  by_cases hn0 : n < 0
  · have hK0 : K = 0 := by omega
    clear hK
    subst hK0
    have hwr : IntKind.i64.wrap ((f.sure : Int) + ((0 : Nat) : Int)) = ((f.sure + (0 : Nat) : Nat) : Int) := by rw [wrap_i64 (by omega) (by omega)]; omega
    have hwr0 : IntKind.i64.wrap (f.sure : Int) = (f.sure : Int) := wrap_i64 (by omega) (by omega)
    have HT : Hid ((f.sure : Int) + ((0 : Nat) : Int) ≤ (f.bytes.length : Int)) := Lib.hid (by have := ho.1; omega)
    have hT0 : (f.sure : Int) ≤ (c : Int) := by omega
    have hTK : (f.sure : Int) + ((0 : Nat) : Int) ≤ (c : Int) := by omega
    go_enter Try.func64, Try.ntmps64
    go_wp2_with fail
    refine Reg.wp_region_plan [⟨0, false, []⟩, ⟨1, false, []⟩, ⟨2, false, []⟩, ⟨3, false, []⟩, ⟨4, false, []⟩, ⟨5, false, []⟩, ⟨6, false, []⟩, ⟨7, false, []⟩, ⟨8, false, []⟩, ⟨9, false, []⟩, ⟨10, false, []⟩, ⟨11, false, []⟩, ⟨12, true, [2, 3, 4, 6, 7, 8, 10]⟩, ⟨13, false, []⟩, ⟨14, false, []⟩, ⟨15, false, []⟩, ⟨16, false, []⟩, ⟨17, false, []⟩, ⟨18, true, []⟩] rfl (by kernel_rfl) ?_
    repeat (first | (refine Reg.look rfl rfl rfl (by go_simp; rfl) rfl ?_; go_simp) | (refine Reg.skip rfl rfl rfl ?_; go_simp))
    refine Reg.act rfl ?_
    go_wp2_with fail
    refine hw.mono ?_
    rintro e w2 ⟨rfl, n2, rfl⟩
    go_wp2_with fail
    refine ⟨?anew, ?_⟩
    case anew =>
      (repeat (refine Reg.anew_cons rfl rfl (fun _ => by (go_simp <;> (intros; omega))) ?_))
      exact Reg.anew_nil
    refine Reg.look rfl rfl rfl (by go_simp; rfl) rfl ?_
    go_simp
    rw [if_neg (show ¬ (W : Int) < 0 by omega)]
    repeat (first | (refine Reg.look rfl rfl rfl (by go_simp; rfl) rfl ?_; go_simp) | (refine Reg.skip rfl rfl rfl ?_; go_simp))
    refine Reg.act rfl ?_
    go_wp2_with fail
    refine ⟨Reg.anew_nil, ?_⟩
    (refine Reg.done ?_; simp only [Exit.then])
    go_wp2_with fail
    have hl : (f.bytes.take (f.sure + (0 : Nat))).length = f.sure + (0 : Nat) := by have := HT.out; rw [List.length_take]; omega
    refine (d_settle b (.slice A (f.sure + (0 : Nat)) c) ⟨f.bytes.take (f.sure + (0 : Nat)), f.sure, f.old⟩ _ ?h).mono ?_
    case h =>
      have hk0 : Kp (· = b) w (w.setCell ⟨b, 0, none⟩ (.slice A (f.sure + (0 : Nat)) c)) := (Kp.refl (· = b) w).setCell (p := ⟨b, 0, none⟩) (fun _ => rfl) _
      exact ⟨H.out.1.set 0 _, (H.out.2.kept hk0 (fun k hk e => H.out.ne (by rw [hk, e]))).head (by have := HT.out; omega)⟩
    rintro e w3 ⟨rfl, hf3, hk3⟩
    rw [hl] at hf3
    have HF3 := Lib.hid hf3
    have HK3 := Lib.hid (((((Kp.refl (· = b) w).setCell (p := ⟨b, 0, none⟩) (fun _ => rfl) (.slice A (f.sure + (0 : Nat)) c)).drewN (1 + n2)).trans' hk3))
    clear hf3 hk3
    go_wp2_with fail
    go_end0
    exact ⟨rfl, HF3.out, HK3.out⟩
  · by_cases hn1 : (W : Int) < n
    · have hK0 : K = W := by omega
      clear hK
      subst hK0
      have hwr : IntKind.i64.wrap ((f.sure : Int) + (K : Int)) = ((f.sure + K : Nat) : Int) := by rw [wrap_i64 (by omega) (by omega)]; omega
      have hwr0 : IntKind.i64.wrap (f.sure : Int) = (f.sure : Int) := wrap_i64 (by omega) (by omega)
      have HT : Hid ((f.sure : Int) + (K : Int) ≤ (f.bytes.length : Int)) := Lib.hid (by have := ho.1; omega)
      have hT0 : (f.sure : Int) ≤ (c : Int) := by omega
      have hTK : (f.sure : Int) + (K : Int) ≤ (c : Int) := by omega
      go_enter Try.func64, Try.ntmps64
      go_wp2_with fail
      refine Reg.wp_region_plan [⟨0, false, []⟩, ⟨1, false, []⟩, ⟨2, false, []⟩, ⟨3, false, []⟩, ⟨4, false, []⟩, ⟨5, false, []⟩, ⟨6, false, []⟩, ⟨7, false, []⟩, ⟨8, false, []⟩, ⟨9, false, []⟩, ⟨10, false, []⟩, ⟨11, false, []⟩, ⟨12, true, [2, 3, 4, 6, 7, 8, 10]⟩, ⟨13, false, []⟩, ⟨14, false, []⟩, ⟨15, false, []⟩, ⟨16, false, []⟩, ⟨17, false, []⟩, ⟨18, true, []⟩] rfl (by kernel_rfl) ?_
      repeat (first | (refine Reg.look rfl rfl rfl (by go_simp; rfl) rfl ?_; go_simp) | (refine Reg.skip rfl rfl rfl ?_; go_simp))
      refine Reg.act rfl ?_
      go_wp2_with fail
      refine hw.mono ?_
      rintro e w2 ⟨rfl, n2, rfl⟩
      go_wp2_with fail
      refine ⟨?anew, ?_⟩
      case anew =>
        (repeat (refine Reg.anew_cons rfl rfl (fun _ => by (go_simp <;> (intros; omega))) ?_))
        exact Reg.anew_nil
      refine Reg.look rfl rfl rfl (by go_simp; rfl) rfl ?_
      go_simp
      skip
      repeat (first | (refine Reg.look rfl rfl rfl (by go_simp; rfl) rfl ?_; go_simp) | (refine Reg.skip rfl rfl rfl ?_; go_simp))
      refine Reg.act rfl ?_
      go_wp2_with fail
      refine ⟨Reg.anew_nil, ?_⟩
      (refine Reg.done ?_; simp only [Exit.then])
      go_wp2_with fail
      have hl : (f.bytes.take (f.sure + K)).length = f.sure + K := by have := HT.out; rw [List.length_take]; omega
      refine (d_settle b (.slice A (f.sure + K) c) ⟨f.bytes.take (f.sure + K), f.sure, f.old⟩ _ ?h).mono ?_
      case h =>
        have hk0 : Kp (· = b) w (w.setCell ⟨b, 0, none⟩ (.slice A (f.sure + K) c)) := (Kp.refl (· = b) w).setCell (p := ⟨b, 0, none⟩) (fun _ => rfl) _
        exact ⟨H.out.1.set 0 _, (H.out.2.kept hk0 (fun k hk e => H.out.ne (by rw [hk, e]))).head (by have := HT.out; omega)⟩
      rintro e w3 ⟨rfl, hf3, hk3⟩
      rw [hl] at hf3
      have HF3 := Lib.hid hf3
      have HK3 := Lib.hid (((((Kp.refl (· = b) w).setCell (p := ⟨b, 0, none⟩) (fun _ => rfl) (.slice A (f.sure + K) c)).drewN (1 + n2)).trans' hk3))
      clear hf3 hk3
      go_wp2_with fail
      go_end0
      exact ⟨rfl, HF3.out, HK3.out⟩
    · have hK0 : n = (K : Int) := by omega
      clear hK
      subst hK0
      have hwr : IntKind.i64.wrap ((f.sure : Int) + (K : Int)) = ((f.sure + K : Nat) : Int) := by rw [wrap_i64 (by omega) (by omega)]; omega
      have hwr0 : IntKind.i64.wrap (f.sure : Int) = (f.sure : Int) := wrap_i64 (by omega) (by omega)
      have HT : Hid ((f.sure : Int) + (K : Int) ≤ (f.bytes.length : Int)) := Lib.hid (by have := ho.1; omega)
      have hT0 : (f.sure : Int) ≤ (c : Int) := by omega
      have hTK : (f.sure : Int) + (K : Int) ≤ (c : Int) := by omega
      go_enter Try.func64, Try.ntmps64
      go_wp2_with fail
      refine Reg.wp_region_plan [⟨0, false, []⟩, ⟨1, false, []⟩, ⟨2, false, []⟩, ⟨3, false, []⟩, ⟨4, false, []⟩, ⟨5, false, []⟩, ⟨6, false, []⟩, ⟨7, false, []⟩, ⟨8, false, []⟩, ⟨9, false, []⟩, ⟨10, false, []⟩, ⟨11, false, []⟩, ⟨12, true, [2, 3, 4, 6, 7, 8, 10]⟩, ⟨13, false, []⟩, ⟨14, false, []⟩, ⟨15, false, []⟩, ⟨16, false, []⟩, ⟨17, false, []⟩, ⟨18, true, []⟩] rfl (by kernel_rfl) ?_
      repeat (first | (refine Reg.look rfl rfl rfl (by go_simp; rfl) rfl ?_; go_simp) | (refine Reg.skip rfl rfl rfl ?_; go_simp))
      refine Reg.act rfl ?_
      go_wp2_with fail
      refine hw.mono ?_
      rintro e w2 ⟨rfl, n2, rfl⟩
      go_wp2_with fail
      refine ⟨?anew, ?_⟩
      case anew =>
        (repeat (refine Reg.anew_cons rfl rfl (fun _ => by (go_simp <;> (intros; omega))) ?_))
        exact Reg.anew_nil
      refine Reg.look rfl rfl rfl (by go_simp; rfl) rfl ?_
      go_simp
      rw [if_neg (show ¬ W < K by omega)]
      repeat (first | (refine Reg.look rfl rfl rfl (by go_simp; rfl) rfl ?_; go_simp) | (refine Reg.skip rfl rfl rfl ?_; go_simp))
      refine Reg.act rfl ?_
      go_wp2_with fail
      refine ⟨Reg.anew_nil, ?_⟩
      (refine Reg.done ?_; simp only [Exit.then])
      go_wp2_with fail
      have hl : (f.bytes.take (f.sure + K)).length = f.sure + K := by have := HT.out; rw [List.length_take]; omega
      refine (d_settle b (.slice A (f.sure + K) c) ⟨f.bytes.take (f.sure + K), f.sure, f.old⟩ _ ?h).mono ?_
      case h =>
        have hk0 : Kp (· = b) w (w.setCell ⟨b, 0, none⟩ (.slice A (f.sure + K) c)) := (Kp.refl (· = b) w).setCell (p := ⟨b, 0, none⟩) (fun _ => rfl) _
        exact ⟨H.out.1.set 0 _, (H.out.2.kept hk0 (fun k hk e => H.out.ne (by rw [hk, e]))).head (by have := HT.out; omega)⟩
      rintro e w3 ⟨rfl, hf3, hk3⟩
      rw [hl] at hf3
      have HF3 := Lib.hid hf3
      have HK3 := Lib.hid (((((Kp.refl (· = b) w).setCell (p := ⟨b, 0, none⟩) (fun _ => rfl) (.slice A (f.sure + K) c)).drewN (1 + n2)).trans' hk3))
      clear hf3 hk3
      go_wp2_with fail
      go_end0
      exact ⟨rfl, HF3.out, HK3.out⟩
end Go.Proofs.Ytflodiljgphkdaa
