/-
  How bytes are parted makes no difference to the digest: ShaParts answers true for every input. No condition.
-/
import Derived.Test.YtejmbbnndagejaaS7
import Derived.Test.YtejmbbnndagejaaFShaParts
namespace Go.Proofs.Ytejmbbnndagejaa
open Go.RowKit Go.ChangeShapes Go.WideShapes Go.ChangeAt

/-- a text cut twice -/
def cut4 (s : ByteArray) (lo hi : Nat) : List ByteArray := [s.extract 0 lo, s.extract lo hi, ByteArray.empty, s.extract hi s.size]
theorem cut4_flat (s : ByteArray) (lo hi : Nat) (h1 : lo ≤ hi) (h2 : hi ≤ s.size) : ((cut4 s lo hi).map (·.data.toList)).flatten = s.data.toList := by
  obtain ⟨l, rfl⟩ : ∃ l, s = bs l := ⟨_, (bs_of s).symm⟩
  rw [bs_size] at h2
  unfold cut4
  rw [bs_extract, bs_extract, bs_extract, bs_size]
  simp only [List.map_cons, List.map_nil, bs_data, List.flatten_cons, List.flatten_nil, List.append_nil, Nat.sub_zero, List.drop_zero]
  rw [show (ByteArray.empty : ByteArray).data.toList = [] from rfl, List.nil_append, List.take_of_length_le (l := l.drop hi) (by rw [List.length_drop]; omega)]
  have e : l.drop hi = (l.drop lo).drop (hi - lo) := by rw [List.drop_drop]; congr 1; omega
  rw [e, List.take_append_drop, List.take_append_drop]


set_option maxRecDepth 100000 in
set_option maxHeartbeats 8000000 in
theorem shaParts_walk : ShaPartsWalk := by
  intro W v0 s v1 a v2 b h0 h1 h2
  obtain ⟨h0, w0⟩ := h0
  obtain ⟨h1, w1⟩ := h1
  obtain ⟨h2, w2⟩ := h2
  simp only [List.cons.injEq, and_true] at h0 h1 h2
  subst h0 h1 h2
  have b1 := bounds_i64 w1
  have b2 := bounds_i64 w2
  clear w1 w2
  unfold maxLen at w0
  go_enter Try.func4, Try.ntmps4
  go_wp2_with fail
  refine (awake03 _).mono ?_
  rintro e w2 ⟨rfl, hk2⟩
  have HK2 := Lib.hid hk2
  clear hk2
  by_cases b3 : 4096 < s.size
  · go_wp2_with fail
    refine (awake03 _).mono ?_
    rintro e w3 ⟨rfl, hk3⟩
    go_wp2_with fail
    go_ret
    exact ⟨rfl, HK2.out.trans' hk3⟩
  · have e1 : IntKind.i64.wrap ((s.size : Int) + 1) = (s.size : Int) + 1 := by rw [IntKind.wrap_i64]; omega
    have e1' : wrap64 ((s.size : Int) + 1) = (s.size : Int) + 1 := by unfold wrap64; omega
    have e2 : IntKind.u64.wrap ((s.size : Int) + 1) = (s.size : Int) + 1 := by simp [IntKind.wrap, IntKind.signed, IntKind.bits]; omega
    have e3 : ¬ (4096 : Int) < (s.size : Int) := by omega
    have e4 : (s.size : Int) + 1 ≠ 0 := by omega
    have key : ∀ a : Int, ∃ x : Nat, x ≤ s.size ∧ IntKind.u64.wrap a % ((s.size : Int) + 1) = (x : Int) ∧ (IntKind.u64.wrap a).tmod ((s.size : Int) + 1) = (x : Int) := by
      intro a
      have h0 : 0 ≤ IntKind.u64.wrap a := by simp [IntKind.wrap, IntKind.signed, IntKind.bits]; omega
      have h1 := Int.emod_nonneg (IntKind.u64.wrap a) e4
      have h2 := Int.emod_lt_of_pos (IntKind.u64.wrap a) (show (0 : Int) < (s.size : Int) + 1 by omega)
      refine ⟨(IntKind.u64.wrap a % ((s.size : Int) + 1)).toNat, by omega, by omega, ?_⟩
      rw [Int.tmod_eq_emod_of_nonneg h0]; omega
    obtain ⟨x, hx, x1, x2⟩ := key a
    obtain ⟨y, hy, y1, y2⟩ := key b
    clear key
    have x3 : IntKind.u64.wrap (x : Int) = (x : Int) := by simp [IntKind.wrap, IntKind.signed, IntKind.bits]; omega
    have x4 : IntKind.i64.wrap (x : Int) = (x : Int) := by rw [IntKind.wrap_i64]; omega
    have y3 : IntKind.u64.wrap (y : Int) = (y : Int) := by simp [IntKind.wrap, IntKind.signed, IntKind.bits]; omega
    have y4 : IntKind.i64.wrap (y : Int) = (y : Int) := by rw [IntKind.wrap_i64]; omega
    go_wp2_with fail
    refine Reg.wp_region_plan [⟨0, false, []⟩, ⟨1, false, []⟩, ⟨2, false, []⟩, ⟨3, false, []⟩, ⟨4, false, []⟩, ⟨5, false, []⟩, ⟨6, false, []⟩, ⟨7, false, []⟩, ⟨8, false, []⟩, ⟨9, false, []⟩, ⟨10, false, []⟩, ⟨11, false, []⟩, ⟨12, false, []⟩, ⟨13, false, []⟩, ⟨14, false, []⟩, ⟨15, false, []⟩, ⟨16, false, []⟩, ⟨17, false, []⟩] rfl (by kernel_rfl) ?_
    repeat (first | (refine Reg.look rfl rfl rfl (by go_simp; rfl) rfl ?_; go_simp) | (refine Reg.skip rfl rfl rfl ?_; go_simp))
    (refine Reg.done ?_; simp only [Exit.then])
    clear x1 x2 x3 x4 y1 y2 y3 y4 e1 e1' e2 e4
    go_wp2_with fail
    refine (t_sum1 s ((w2.alloc (.cells #[.string s] 9)).drew) (heap_alloc_new w2 _) (by omega)).mono ?_
    rintro e w3 ⟨rfl, hk3⟩
    have HK3 := Lib.hid (((HK2.out.alloc _).drew).trans' hk3)
    have hx32 : (shaB s).size = 32 := shaB_size s
    obtain ⟨D, hD⟩ : ∃ D, shaB s = D := ⟨_, rfl⟩
    have hdef : bs (Go.Proofs.Ytejmbbnndagejaa.sha s.data.toList) = D := hD
    rw [hD] at hx32
    rw [hD]
    have HD := Lib.hid hdef
    clear hk3 HK2 hD hdef
    have hxs : (x : Int) ≤ (s.size : Int) := by omega
    have hys : (y : Int) ≤ (s.size : Int) := by omega
    have hx0 : (0 : Int) ≤ (x : Int) := by omega
    have hy0 : (0 : Int) ≤ (y : Int) := by omega
    rcases Nat.lt_trichotomy y x with hxy | hxy | hxy
    · have g1 : (y : Int) < (x : Int) := by omega
      have g2 : ¬ x < y := by omega
      have g3 : (y : Int) ≤ (x : Int) := by omega
      have hflat := cut4_flat s y x (by omega) (by omega)
      have hsum := t_sum_at (cut4 s y x) w3.heap.size ((w3.alloc (.cells #[.string (s.extract 0 y), .string (s.extract y x), .string ByteArray.empty, .string (s.extract x s.size)] 9)).drew) (heap_alloc_new w3 _) rfl (by simp [cut4]) (by rw [hflat, data_length]; omega) (by
        intro z hz
        simp only [cut4, List.mem_cons, List.not_mem_nil, or_false] at hz
        rcases hz with rfl | rfl | rfl | rfl
        · rw [ByteArray.size_extract]; simp [maxLen]; omega
        · rw [ByteArray.size_extract]; simp [maxLen]; omega
        · simp [maxLen]
        · rw [ByteArray.size_extract]; simp [maxLen]; omega)
      rw [hflat, HD.out, show (cut4 s y x).length = 4 from rfl] at hsum
      have HS := Lib.hid hsum
      clear hsum hflat HD
      try clear hc4
      go_wp2_with fail
      refine Reg.wp_region_plan [⟨0, false, []⟩, ⟨1, false, []⟩, ⟨2, false, []⟩, ⟨3, false, []⟩, ⟨4, false, []⟩, ⟨5, false, []⟩, ⟨6, false, []⟩, ⟨7, false, []⟩, ⟨8, false, []⟩, ⟨9, false, []⟩, ⟨10, false, []⟩, ⟨11, false, []⟩, ⟨12, false, []⟩, ⟨13, false, []⟩, ⟨14, false, []⟩, ⟨15, false, []⟩, ⟨16, false, []⟩, ⟨17, false, []⟩, ⟨18, false, []⟩, ⟨19, false, []⟩, ⟨20, false, []⟩, ⟨21, false, []⟩, ⟨24, false, []⟩, ⟨22, true, []⟩, ⟨23, true, []⟩, ⟨25, false, []⟩, ⟨26, false, []⟩, ⟨27, false, []⟩] rfl (by kernel_rfl) ?_
      repeat (first | (refine Reg.look rfl rfl rfl (by go_simp; rfl) rfl ?_; go_simp) | (refine Reg.skip rfl rfl rfl ?_; go_simp))
      refine Reg.act rfl ?_
      go_wp2
      (refine ⟨?anew, ?_⟩; case anew => ((repeat (refine Reg.anew_cons rfl rfl (fun _ => by go_simp) ?_)); exact Reg.anew_nil))
      refine Reg.act rfl ?_
      go_wp2_with fail
      refine HS.out.mono ?_
      rintro e w4 ⟨rfl, hk4⟩
      have HK4 := Lib.hid (((HK3.out.alloc _).drew).trans' hk4)
      clear hk4
      go_wp2
      (refine ⟨?anew, ?_⟩; case anew => ((repeat (refine Reg.anew_cons rfl rfl (fun _ => by go_simp) ?_)); exact Reg.anew_nil))
      repeat (first | (refine Reg.look rfl rfl rfl (by go_simp; rfl) rfl ?_; go_simp) | (refine Reg.skip rfl rfl rfl ?_; go_simp))
      (refine Reg.done ?_; simp only [Exit.then])
      go_wp2
      go_ret
      exact ⟨rfl, HK4.out⟩
    · subst hxy
      have g1 : ¬ y < y := by omega
      have hmid : s.extract y y = ByteArray.empty := by
        apply ByteArray.ext
        rw [ByteArray.data_extract]
        simp
        omega
      have hc4 : (cut4 s y y).map Value.string = [.string (s.extract 0 y), .string ByteArray.empty, .string ByteArray.empty, .string (s.extract y s.size)] := by unfold cut4; rw [hmid]; rfl
      clear hmid
      have hflat := cut4_flat s y y (by omega) (by omega)
      have hsum := t_sum_at (cut4 s y y) w3.heap.size ((w3.alloc (.cells #[.string (s.extract 0 y), .string (ByteArray.empty), .string ByteArray.empty, .string (s.extract y s.size)] 9)).drew) (heap_alloc_new w3 _) hc4.symm (by simp [cut4]) (by rw [hflat, data_length]; omega) (by
        intro z hz
        simp only [cut4, List.mem_cons, List.not_mem_nil, or_false] at hz
        rcases hz with rfl | rfl | rfl | rfl
        · rw [ByteArray.size_extract]; simp [maxLen]; omega
        · rw [ByteArray.size_extract]; simp [maxLen]; omega
        · simp [maxLen]
        · rw [ByteArray.size_extract]; simp [maxLen]; omega)
      rw [hflat, HD.out, show (cut4 s y y).length = 4 from rfl] at hsum
      have HS := Lib.hid hsum
      clear hsum hflat HD
      try clear hc4
      go_wp2_with fail
      refine Reg.wp_region_plan [⟨0, false, []⟩, ⟨1, false, []⟩, ⟨2, false, []⟩, ⟨3, false, []⟩, ⟨4, false, []⟩, ⟨5, false, []⟩, ⟨6, false, []⟩, ⟨7, false, []⟩, ⟨8, false, []⟩, ⟨9, false, []⟩, ⟨10, false, []⟩, ⟨11, false, []⟩, ⟨12, false, []⟩, ⟨13, false, []⟩, ⟨14, false, []⟩, ⟨15, false, []⟩, ⟨16, false, []⟩, ⟨17, false, []⟩, ⟨18, false, []⟩, ⟨19, false, []⟩, ⟨20, false, []⟩, ⟨21, false, []⟩, ⟨24, false, []⟩, ⟨22, true, []⟩, ⟨23, true, []⟩, ⟨25, false, []⟩, ⟨26, false, []⟩, ⟨27, false, []⟩] rfl (by kernel_rfl) ?_
      repeat (first | (refine Reg.look rfl rfl rfl (by go_simp; rfl) rfl ?_; go_simp) | (refine Reg.skip rfl rfl rfl ?_; go_simp))
      refine Reg.act rfl ?_
      go_wp2
      (refine ⟨?anew, ?_⟩; case anew => ((repeat (refine Reg.anew_cons rfl rfl (fun _ => by go_simp) ?_)); exact Reg.anew_nil))
      refine Reg.act rfl ?_
      go_wp2_with fail
      refine HS.out.mono ?_
      rintro e w4 ⟨rfl, hk4⟩
      have HK4 := Lib.hid (((HK3.out.alloc _).drew).trans' hk4)
      clear hk4
      go_wp2
      (refine ⟨?anew, ?_⟩; case anew => ((repeat (refine Reg.anew_cons rfl rfl (fun _ => by go_simp) ?_)); exact Reg.anew_nil))
      repeat (first | (refine Reg.look rfl rfl rfl (by go_simp; rfl) rfl ?_; go_simp) | (refine Reg.skip rfl rfl rfl ?_; go_simp))
      (refine Reg.done ?_; simp only [Exit.then])
      go_wp2
      go_ret
      exact ⟨rfl, HK4.out⟩
    · have g1 : (x : Int) < (y : Int) := by omega
      have g2 : ¬ y < x := by omega
      have g3 : (x : Int) ≤ (y : Int) := by omega
      have hflat := cut4_flat s x y (by omega) (by omega)
      have hsum := t_sum_at (cut4 s x y) w3.heap.size ((w3.alloc (.cells #[.string (s.extract 0 x), .string (s.extract x y), .string ByteArray.empty, .string (s.extract y s.size)] 9)).drew) (heap_alloc_new w3 _) rfl (by simp [cut4]) (by rw [hflat, data_length]; omega) (by
        intro z hz
        simp only [cut4, List.mem_cons, List.not_mem_nil, or_false] at hz
        rcases hz with rfl | rfl | rfl | rfl
        · rw [ByteArray.size_extract]; simp [maxLen]; omega
        · rw [ByteArray.size_extract]; simp [maxLen]; omega
        · simp [maxLen]
        · rw [ByteArray.size_extract]; simp [maxLen]; omega)
      rw [hflat, HD.out, show (cut4 s x y).length = 4 from rfl] at hsum
      have HS := Lib.hid hsum
      clear hsum hflat HD
      try clear hc4
      go_wp2_with fail
      refine Reg.wp_region_plan [⟨0, false, []⟩, ⟨1, false, []⟩, ⟨2, false, []⟩, ⟨3, false, []⟩, ⟨4, false, []⟩, ⟨5, false, []⟩, ⟨6, false, []⟩, ⟨7, false, []⟩, ⟨8, false, []⟩, ⟨9, false, []⟩, ⟨10, false, []⟩, ⟨11, false, []⟩, ⟨12, false, []⟩, ⟨13, false, []⟩, ⟨14, false, []⟩, ⟨15, false, []⟩, ⟨16, false, []⟩, ⟨17, false, []⟩, ⟨18, false, []⟩, ⟨19, false, []⟩, ⟨20, false, []⟩, ⟨21, false, []⟩, ⟨24, false, []⟩, ⟨22, true, []⟩, ⟨23, true, []⟩, ⟨25, false, []⟩, ⟨26, false, []⟩, ⟨27, false, []⟩] rfl (by kernel_rfl) ?_
      repeat (first | (refine Reg.look rfl rfl rfl (by go_simp; rfl) rfl ?_; go_simp) | (refine Reg.skip rfl rfl rfl ?_; go_simp))
      refine Reg.act rfl ?_
      go_wp2
      (refine ⟨?anew, ?_⟩; case anew => ((repeat (refine Reg.anew_cons rfl rfl (fun _ => by go_simp) ?_)); exact Reg.anew_nil))
      refine Reg.act rfl ?_
      go_wp2_with fail
      refine HS.out.mono ?_
      rintro e w4 ⟨rfl, hk4⟩
      have HK4 := Lib.hid (((HK3.out.alloc _).drew).trans' hk4)
      clear hk4
      go_wp2
      (refine ⟨?anew, ?_⟩; case anew => ((repeat (refine Reg.anew_cons rfl rfl (fun _ => by go_simp) ?_)); exact Reg.anew_nil))
      repeat (first | (refine Reg.look rfl rfl rfl (by go_simp; rfl) rfl ?_; go_simp) | (refine Reg.skip rfl rfl rfl ?_; go_simp))
      (refine Reg.done ?_; simp only [Exit.then])
      go_wp2
      go_ret
      exact ⟨rfl, HK4.out⟩
theorem shaParts_holds : Rows.ShaPartsSaid := shaParts_of shaParts_walk
#print axioms shaParts_holds
end Go.Proofs.Ytejmbbnndagejaa
