/-
  The reference's Clash: have two unlike ones of these chunks one digest?
-/
import Derived.Test.YtflodiljgphkdaaSum1
import Derived.Test.YtflodiljgphkdaaR5M
namespace Go.Proofs.Ytflodiljgphkdaa
open Go.RowKit Go.ChangeShapes Go.WideShapes Go.ChangeAt

theorem bytes_list_beqC (a b : ByteArray) : (a.toList == b.toList) = decide (a = b) := by
  by_cases h : a = b
  · subst h; simp
  · simp only [h, decide_false, beq_eq_false_iff_ne]
    intro e
    rw [ByteArray.toList_eq, ByteArray.toList_eq] at e
    exact h (WideShapes.bytes_inj e)
theorem elem_strC : Elem Try.prog 47 9 1 16 := Elem.of Try.underlying47 (z := .string ByteArray.empty) (by kernel_rfl) rfl (by decide)
/-- no two unlike ones have one digest -/
def NoClash (l : List ByteArray) : Prop := ∀ x ∈ l, ∀ y ∈ l, shaB x = shaB y → x = y
instance (l : List ByteArray) : Decidable (NoClash l) := by unfold NoClash; exact inferInstance
def RowOk (l : List ByteArray) (i k : Nat) : Prop := ∀ b, b < k → ∀ x y, l[b]? = some x → l[i]? = some y → shaB x = shaB y → x = y
def UptoOk (l : List ByteArray) (i : Nat) : Prop := ∀ a, a < i → RowOk l a a
theorem UptoOk.step {l : List ByteArray} {i : Nat} (h : UptoOk l i) (hr : RowOk l i i) : UptoOk l (i + 1) := by
  intro a ha
  rcases Nat.lt_or_ge a i with h1 | h1
  · exact h a h1
  · obtain rfl : a = i := by omega
    exact hr
theorem RowOk.step {l : List ByteArray} {i k : Nat} {x y : ByteArray} (h : RowOk l i k) (hx : l[k]? = some x) (hy : l[i]? = some y) (hxy : shaB x = shaB y → x = y) : RowOk l i (k + 1) := by
  intro b hb x' y' hx' hy'
  rcases Nat.lt_or_ge b k with h1 | h1
  · exact h b h1 x' y' hx' hy'
  · obtain rfl : b = k := by omega
    rw [hx] at hx'
    rw [hy] at hy'
    injection hx' with hx'
    injection hy' with hy'
    subst hx' hy'
    exact hxy
theorem UptoOk.done {l : List ByteArray} (h : UptoOk l l.length) : NoClash l := by
  intro x hx y hy he
  obtain ⟨a, ha⟩ := List.getElem?_of_mem hx
  obtain ⟨b, hb⟩ := List.getElem?_of_mem hy
  rcases Nat.lt_trichotomy a b with h1 | h1 | h1
  · exact h b (List.getElem?_eq_some_iff.1 hb).1 a h1 x y ha hb he
  · subst h1; rw [ha] at hb; injection hb
  · exact (h a (List.getElem?_eq_some_iff.1 ha).1 b h1 y x hb ha he.symm).symm

set_option maxRecDepth 100000 in
set_option maxHeartbeats 1000000 in
theorem r_clash (l : List ByteArray) (A : Option Addr) (c : Nat) (w : World) (S : Nat → Prop) (hl : Rp.str.slice.R w S [.slice A l.length c] l) (hll : l.length ≤ 1000000) (hls : ∀ x ∈ l, x.size ≤ 1048576) :
    Calls Try.prog 40 #[.slice A l.length c] w fun e w' => e = .returned (.bool (!decide (NoClash l))) ∧ Kp No w w' := by
  have HL := Lib.hid hl
  have HLS := Lib.hid hls
  clear hl hls
  go_enter Try.func40, Try.ntmps40
  go_wp2_with fail
  obtain ⟨wo, hwo⟩ : ∃ wo : World, wo = w := ⟨_, rfl⟩
  go_loopw [3, 4] (fun dv iv wr => ∃ i : Nat, i ≤ l.length ∧ iv = .int .i64 (i : Int) ∧ Own Rp.str wr No w.heap.size 9 dv ((l.take i).map shaB) ∧ Hid (UptoOk l i) ∧ Kp No w wr) (fun _ iv _ => l.length - (intOf iv).toNat)
  case atStart => exact ⟨0, Nat.zero_le _, rfl, Own.nil _ _ _ _ _, Lib.hid (fun a ha => absurd ha (Nat.not_lt_zero _)), Kp.refl _ _⟩
  case round =>
    clear hwo
    obtain ⟨i, hi, rfl, hown, HU, hkr⟩ := hrel
    obtain ⟨Av, cv, rfl⟩ := hown.shape
    have hDl : ((l.take i).map shaB).length = i := by rw [List.length_map, List.length_take]; omega
    have HO := Lib.hid hown
    have HK := Lib.hid hkr
    clear hown hkr
    by_cases hlt : i < l.length
    · have hii : (i : Int) < (l.length : Int) := by omega
      obtain ⟨y, hy⟩ : ∃ y, l[i]? = some y := ⟨_, List.getElem?_eq_getElem hlt⟩
      obtain ⟨ad, rfl, _, hcell, _⟩ := Rp.at_str (Rp.str.slice.keptNo HL.out HK.out) hy
      have hys := HLS.out y (List.mem_of_getElem? hy)
      have hst : (l.take (i + 1)).map shaB = (l.take i).map shaB ++ [shaB y] := by
        obtain ⟨h, rfl⟩ := List.getElem?_eq_some_iff.1 hy
        rw [List.take_succ_eq_append_getElem h, List.map_append]; rfl
      have HST := Lib.hid hst
      have HY := Lib.hid hy
      clear hy hst
      go_wp2_with fail
      refine (r_sum y wr hys).mono ?_
      rintro e w2 ⟨rfl, hk2⟩
      rw [show bs (Go.Proofs.Ytflodiljgphkdaa.sha y.data.toList) = shaB y from rfl]
      have HO2 := Lib.hid (HO.out.keptNo hk2)
      have HK2 := Lib.hid (HK.out.trans' hk2)
      obtain ⟨D, hD⟩ : ∃ D, (l.take i).map shaB = D := ⟨_, rfl⟩
      rw [hD] at HO2 HST hDl
      rw [hD]
      have HDD := Lib.hid hD
      have HDL := Lib.hid hDl
      obtain ⟨Y, hY⟩ : ∃ Y, shaB y = Y := ⟨_, rfl⟩
      have hYs : Y.size = 32 := by rw [← hY]; exact shaB_size y
      rw [hY] at HST ⊢
      have HYS : Hid (Y.size ≤ maxLen) := Lib.hid (by rw [hYs]; decide)
      have HYY := Lib.hid hY
      clear hD hY hYs hk2 HO HK hcell
      have hDl2 : D.length ≤ 1000000 := by omega
      clear hDl
      go_wp2_with (at_builtin; refine wpList_append_lit Rp.str_by rfl _ (.tmp 12) (.tmp 18) 47 rfl w.heap.size 9 16 elem_strC (.slice Av D.length cv) D rfl No ?d0 w2.heap.size [Y] rfl _ _ _ (heap_alloc_new _ _) ?d1 ?d2 ?d3 ?d4 ?d5 ?d6 ?_)
      case d0 => exact HO2.out.alloc _
      case d2 => intro a ha; simp only [List.mem_cons, List.not_mem_nil, or_false] at ha; subst ha; exact HYS.out
      case d3 => simp [maxLen]; omega
      case d4 => simp; omega
      case d5 => have := HK2.out.size; simp; omega
      case d6 => intro h; have := (HO2.out.lt _ h).2; omega
      intro A3 c3 w6 hown hk6
      have HO6 := Lib.hid hown
      have HK6 := Lib.hid ((HK2.out.alloc _).trans hk6 (fun i hi hv => absurd (HO2.out.lt i hv).1 (by omega)))
      clear hown hk6 HO2 HK2
      rw [← HST.out] at HO6
      obtain ⟨E, hE⟩ : ∃ E, (l.take (i + 1)).map shaB = E := ⟨_, rfl⟩
      rw [hE] at HO6
      have HE := Lib.hid hE
      clear hE
      obtain ⟨m, hm⟩ : ∃ m, i + 1 = m := ⟨_, rfl⟩
      have hle : D.length + 1 = m := by rw [HDL.out]; exact hm
      have hmi : (i : Int) < (m : Int) := by omega
      rw [hle] at HO6
      rw [hle]
      have HL6 := Lib.hid (Rp.str.slice.keptNo HL.out HK6.out)
      have HR0 : Hid (RowOk l i 0) := Lib.hid (fun b hb => absurd hb (Nat.not_lt_zero _))
      clear hle HST
      go_wp2_with fail
      obtain ⟨wo, hwo⟩ : ∃ wo : World, wo = w6 := ⟨_, rfl⟩
      go_loopw [5] (fun kv wr => ∃ k d : Nat, k ≤ i ∧ kv = .int .i64 (k : Int) ∧ wr = w6.drewN d ∧ Hid (RowOk l i k)) (fun kv _ => i - (intOf kv).toNat)
      case atStart => exact ⟨0, 0, Nat.zero_le _, rfl, rfl, HR0⟩
      case round =>
        clear hwo HR0
        obtain ⟨k, d, hk, rfl, rfl, HR⟩ := hrel
        by_cases hki : k < i
        · have hkii : (k : Int) < (i : Int) := by omega
          obtain ⟨x, hx⟩ : ∃ x, l[k]? = some x := ⟨_, List.getElem?_eq_getElem (by omega)⟩
          have hdl : E.length = m := by rw [← HE.out, List.length_map, List.length_take]; omega
          have hdk : E[k]? = some (shaB x) := by rw [← HE.out, List.getElem?_map, List.getElem?_take_of_lt (by omega), hx]; rfl
          have hdi : E[i]? = some (shaB y) := by rw [← HE.out, List.getElem?_map, List.getElem?_take_of_lt (by omega), HY.out]; rfl
          have hO := HO6.out
          rw [← hdl] at hO
          obtain ⟨gc, hA3, hgc1, hgc2, hck, _, _⟩ := Own.cellBy Rp.str_by hO hdk
          obtain ⟨gc', hA3', _, _, hci, _, _⟩ := Own.cellBy Rp.str_by hO hdi
          rw [hA3] at hA3'
          injection hA3' with hA3'
          injection hA3' with hA3'
          subst hA3' hA3
          have hlx := HL6.out
          obtain ⟨ad, hA, _, hlk, _⟩ := Rp.at_str hlx hx
          obtain ⟨ad', hA', _, hli, _⟩ := Rp.at_str hlx HY.out
          injection hA with hA
          injection hA' with hA'
          subst hA hA'
          obtain ⟨X, hX⟩ : ∃ X, shaB x = X := ⟨_, rfl⟩
          rw [hX] at hck
          rw [HYY.out] at hci
          have HX := Lib.hid hX
          have hkl : (k : Int) < (l.length : Int) := by omega
          have hk1 : (k : Int) < (m : Int) := by omega
          have HXX := Lib.hid hx
          clear hX hdk hdi hO hdl hlx hx
          by_cases he : X = Y
          · have heq : (X.toList == Y.toList) = true := by rw [bytes_list_beqC]; exact decide_eq_true he
            by_cases hxy : x = y
            · have hne0 : (x.toList == y.toList) = true := by rw [bytes_list_beqC]; exact decide_eq_true hxy
              have hne : (x.toList != y.toList) = false := by unfold bne; rw [bytes_list_beqC, decide_eq_true hxy]; rfl
              have HN : Hid (RowOk l i (k + 1)) := Lib.hid (HR.out.step HXX.out HY.out (fun _ => hxy))
              clear he hxy
              go_wp2_with fail
              refine Reg.wp_region_plan [⟨0, false, []⟩, ⟨1, false, []⟩, ⟨2, false, []⟩, ⟨3, false, []⟩, ⟨4, false, []⟩, ⟨5, false, []⟩, ⟨6, false, []⟩, ⟨7, false, []⟩, ⟨8, false, []⟩, ⟨9, false, []⟩, ⟨10, false, []⟩, ⟨11, false, []⟩, ⟨12, false, []⟩, ⟨13, false, []⟩, ⟨14, false, []⟩, ⟨15, false, []⟩, ⟨16, false, []⟩, ⟨17, false, []⟩, ⟨18, false, []⟩, ⟨19, false, []⟩] rfl (by kernel_rfl) ?_
              repeat (first | (refine Reg.look rfl rfl rfl (by go_simp; rfl) rfl ?_; go_simp) | (refine Reg.skip rfl rfl rfl ?_; go_simp))
              (refine Reg.done ?_; simp only [Exit.then])
              go_wp2_with fail
              go_roundw
              case rel => exact ⟨k + 1, d + 1, by omega, by go_num, rfl, HN⟩
              case measure => simp [intOf]; omega
            · have hne0 : (x.toList == y.toList) = false := by rw [bytes_list_beqC]; exact decide_eq_false hxy
              have hne : (x.toList != y.toList) = true := by unfold bne; rw [bytes_list_beqC, decide_eq_false hxy]; rfl
              have HN : Hid (decide (NoClash l) = false) := Lib.hid (decide_eq_false (fun h => hxy (h x (List.mem_of_getElem? HXX.out) y (List.mem_of_getElem? HY.out) (by rw [HX.out, HYY.out]; exact he))))
              clear he hxy
              go_wp2_with fail
              refine Reg.wp_region_plan [⟨0, false, []⟩, ⟨1, false, []⟩, ⟨2, false, []⟩, ⟨3, false, []⟩, ⟨4, false, []⟩, ⟨5, false, []⟩, ⟨6, false, []⟩, ⟨7, false, []⟩, ⟨8, false, []⟩, ⟨9, false, []⟩, ⟨10, false, []⟩, ⟨11, false, []⟩, ⟨12, false, []⟩, ⟨13, false, []⟩, ⟨14, false, []⟩, ⟨15, false, []⟩, ⟨16, false, []⟩, ⟨17, false, []⟩, ⟨18, false, []⟩, ⟨19, false, []⟩] rfl (by kernel_rfl) ?_
              repeat (first | (refine Reg.look rfl rfl rfl (by go_simp; rfl) rfl ?_; go_simp) | (refine Reg.skip rfl rfl rfl ?_; go_simp))
              (refine Reg.done ?_; simp only [Exit.then])
              go_wp2_with fail
              go_ret
              exact ⟨by rw [HN.out]; rfl, (HK6.out.drewN _).drew⟩
          · have heq : (X.toList == Y.toList) = false := by rw [bytes_list_beqC]; exact decide_eq_false he
            have HN : Hid (RowOk l i (k + 1)) := Lib.hid (HR.out.step HXX.out HY.out (fun h => absurd (by rw [HX.out, HYY.out] at h; exact h) he))
            clear he
            go_wp2_with fail
            refine Reg.wp_region_plan [⟨0, false, []⟩, ⟨1, false, []⟩, ⟨2, false, []⟩, ⟨3, false, []⟩, ⟨4, false, []⟩, ⟨5, false, []⟩, ⟨6, false, []⟩, ⟨7, false, []⟩, ⟨8, false, []⟩, ⟨9, false, []⟩, ⟨10, false, []⟩, ⟨11, false, []⟩, ⟨12, false, []⟩, ⟨13, false, []⟩, ⟨14, false, []⟩, ⟨15, false, []⟩, ⟨16, false, []⟩, ⟨17, false, []⟩, ⟨18, false, []⟩, ⟨19, false, []⟩] rfl (by kernel_rfl) ?_
            repeat (first | (refine Reg.look rfl rfl rfl (by go_simp; rfl) rfl ?_; go_simp) | (refine Reg.skip rfl rfl rfl ?_; go_simp))
            (refine Reg.done ?_; simp only [Exit.then])
            go_wp2_with fail
            go_roundw
            case rel => exact ⟨k + 1, d + 1, by omega, by go_num, rfl, HN⟩
            case measure => simp [intOf]; omega
        · obtain rfl : k = i := by omega
          go_wp2_with fail
          go_roundw
          case rel => exact ⟨k + 1, by omega, by go_num, (by rw [HE.out]; exact HO6.out), Lib.hid (HU.out.step HR.out), HK6.out.drewN d⟩
          case measure => simp [intOf]; omega
    · obtain rfl : i = l.length := by omega
      have HN : Hid (decide (NoClash l) = true) := Lib.hid (decide_eq_true HU.out.done)
      go_wp2_with fail
      go_ret
      exact ⟨by rw [HN.out]; rfl, HK.out⟩
end Go.Proofs.Ytflodiljgphkdaa
