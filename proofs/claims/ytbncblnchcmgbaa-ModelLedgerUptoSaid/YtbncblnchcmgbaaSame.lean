/-
  redoubtref04.Same: are two lists of texts alike?
-/
import Derived.Test.YtbncblnchcmgbaaOwn
import Derived.Test.YtbncblnchcmgbaaReg
namespace Go.Proofs.Ytbncblnchcmgbaa
open Go.RowKit Go.ChangeShapes Go.WideShapes Go.ChangeAt

theorem bytes_list_beq (a b : ByteArray) : (a.toList == b.toList) = decide (a = b) := by
  by_cases h : a = b
  · subst h; simp
  · simp only [h, decide_false, beq_eq_false_iff_ne]
    intro e
    rw [ByteArray.toList_eq, ByteArray.toList_eq] at e
    exact h (WideShapes.bytes_inj e)

def SaRel (l1 l2 : List ByteArray) (k : Nat) : Prop := l1.take k = l2.take k
theorem SaRel.step {l1 l2 : List ByteArray} {k : Nat} {x : ByteArray} (h : SaRel l1 l2 k) (h1 : l1[k]? = some x) (h2 : l2[k]? = some x) : SaRel l1 l2 (k + 1) := by
  obtain ⟨a, rfl⟩ := List.getElem?_eq_some_iff.1 h1
  obtain ⟨b, e⟩ := List.getElem?_eq_some_iff.1 h2
  unfold SaRel at *
  rw [List.take_succ_eq_append_getElem a, List.take_succ_eq_append_getElem b, h, e]
/-- redoubtref04.Same -/
theorem r_same (l1 l2 : List ByteArray) (A1 A2 : Option Addr) (c1 c2 : Nat) (w : World) (S1 S2 : Nat → Prop) (h1 : Rp.str.slice.R w S1 [.slice A1 l1.length c1] l1) (h2 : Rp.str.slice.R w S2 [.slice A2 l2.length c2] l2) :
    Calls Try.prog 33 #[.slice A1 l1.length c1, .slice A2 l2.length c2] w fun e w' => e = .returned (.bool (decide (l1 = l2))) ∧ ∃ n, w' = w.drewN n := by
  have hlen1 : l1.length ≤ maxLen := by obtain ⟨_, _, _, h1, h2, _⟩ := h1; omega
  have hlen2 : l2.length ≤ maxLen := by obtain ⟨_, _, _, h1, h2, _⟩ := h2; omega
  unfold maxLen at hlen1 hlen2
  by_cases hne : l1.length = l2.length
  · have hd : ((l1.length : Int) != (l2.length : Int)) = false := by simp [hne]
    have HNE := Lib.hid hne
    clear hne
    go_enter Try.func33, Try.ntmps33
    go_wp2
    go_loopw [5] (fun i wr => ∃ k n : Nat, k ≤ l1.length ∧ i = .int .i64 k ∧ wr = w.drewN n ∧ SaRel l1 l2 k) (fun i _ => l1.length - (intOf i).toNat)
    case atStart => exact ⟨0, 0, Nat.zero_le _, rfl, rfl, rfl⟩
    case round =>
      obtain ⟨k, n, hk, rfl, rfl, hr⟩ := hrel
      have HR := Lib.hid hr
      clear hr
      by_cases hlt : k < l1.length
      · obtain ⟨x, hx⟩ : ∃ x, l1[k]? = some x := ⟨_, List.getElem?_eq_getElem hlt⟩
        obtain ⟨y, hy⟩ : ∃ y, l2[k]? = some y := ⟨_, List.getElem?_eq_getElem (by rw [← HNE.out]; exact hlt)⟩
        obtain ⟨ad1, rfl, _, hv1, _⟩ := Rp.at_str h1 hx
        obtain ⟨ad2, rfl, _, hv2, _⟩ := Rp.at_str h2 hy
        have HX := Lib.hid hx
        have HY := Lib.hid hy
        have hlt2 : k < l2.length := by rw [← HNE.out]; exact hlt
        clear hx hy h1 h2
        by_cases hxy : x = y
        · subst hxy
          go_wp2
          refine Reg.wp_region_plan [⟨0, false, []⟩, ⟨1, false, []⟩, ⟨2, false, []⟩, ⟨3, false, []⟩, ⟨4, false, []⟩, ⟨5, false, []⟩, ⟨6, false, []⟩, ⟨7, false, []⟩, ⟨8, false, []⟩] rfl (by kernel_rfl) ?_
          repeat (first | (refine Reg.look rfl rfl rfl (by go_simp; rfl) rfl ?_; go_simp) | (refine Reg.skip rfl rfl rfl ?_; go_simp))
          (refine Reg.done ?_; simp only [Exit.then])
          go_wp2
          go_roundw
          case rel => exact ⟨k + 1, n + 1, by omega, by go_num, rfl, SaRel.step HR.out HX.out HY.out⟩
          case measure => simp [intOf]; omega
        · have hd : (x.toList == y.toList) = false := by rw [bytes_list_beq]; simp [hxy]
          have hq : decide (l1 = l2) = false := by
            simp only [decide_eq_false_iff_not]
            intro e
            have h3 := HX.out
            rw [e, HY.out] at h3
            injection h3 with h3
            exact hxy h3.symm
          have HQ := Lib.hid hq
          clear hq hxy
          go_wp2
          refine Reg.wp_region_plan [⟨0, false, []⟩, ⟨1, false, []⟩, ⟨2, false, []⟩, ⟨3, false, []⟩, ⟨4, false, []⟩, ⟨5, false, []⟩, ⟨6, false, []⟩, ⟨7, false, []⟩, ⟨8, false, []⟩] rfl (by kernel_rfl) ?_
          repeat (first | (refine Reg.look rfl rfl rfl (by go_simp; rfl) rfl ?_; go_simp) | (refine Reg.skip rfl rfl rfl ?_; go_simp))
          (refine Reg.done ?_; simp only [Exit.then])
          go_wp2
          go_ret
          exact ⟨congrArg (fun b => Ending.returned (Value.bool b)) HQ.out.symm, n + 1, rfl⟩
      · have hq : decide (l1 = l2) = true := by
          have h3 := HR.out
          obtain rfl : k = l1.length := by omega
          unfold SaRel at h3
          rw [List.take_length, HNE.out, List.take_length] at h3
          simp [h3]
        have HQ := Lib.hid hq
        clear hq
        go_wp2
        go_ret
        exact ⟨congrArg (fun b => Ending.returned (Value.bool b)) HQ.out.symm, n, rfl⟩
  · have hd : ((l1.length : Int) != (l2.length : Int)) = true := by simp; omega
    have hq : decide (l1 = l2) = false := by simp; intro e; exact hne (by rw [e])
    have HQ := Lib.hid hq
    clear hq
    go_enter Try.func33, Try.ntmps33
    go_wp2
    go_ret
    exact ⟨congrArg (fun b => Ending.returned (Value.bool b)) HQ.out.symm, 0, rfl⟩
end Go.Proofs.Ytbncblnchcmgbaa
