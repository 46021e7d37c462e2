/-
  The functions of carve, walked once each.
-/
import Derived.Test.YtbncblnchcmgbaaCutL
import Derived.Test.YtbncblnchcmgbaaSame
namespace Go.Proofs.Ytbncblnchcmgbaa
open Go.RowKit Go.ChangeShapes Go.WideShapes Go.ChangeAt

theorem elem_str : Elem Try.prog 34 9 1 16 := Elem.of Try.underlying34 (z := .string ByteArray.empty) (by kernel_rfl) rfl (by decide)
def cnt (n : Int) : Int := if n ≤ 0 then 0 else (n - 1) / 64 + 1
theorem c_count (n : Int) (w : World) (h0 : -9223372036854775808 ≤ n) (h1 : n < 9223372036854775808) : Calls Try.prog 105 #[.int .i64 n] w fun e w' => e = .returned (.int .i64 (cnt n)) ∧ w = w' := by
  by_cases hn : n ≤ 0
  · rw [show cnt n = 0 from if_pos hn]
    go_enter Try.func105, Try.ntmps105
    go_wp2
    go_ret
    exact ⟨rfl, rfl⟩
  · rw [show cnt n = (n - 1) / 64 + 1 from if_neg hn]
    have e1 : IntKind.i64.wrap (n - 1) = n - 1 := by rw [IntKind.wrap_i64]; omega
    have e2 : IntKind.i64.wrap ((n - 1) / 64) = (n - 1) / 64 := by rw [IntKind.wrap_i64]; omega
    have e3 : IntKind.i64.wrap ((n - 1) / 64 + 1) = (n - 1) / 64 + 1 := by rw [IntKind.wrap_i64]; omega
    have e4 : (n - 1).tdiv 64 = (n - 1) / 64 := by rw [Int.tdiv_eq_ediv_of_nonneg (by omega)]
    go_enter Try.func105, Try.ntmps105
    go_wp2
    go_ret
    exact ⟨rfl, rfl⟩
theorem r_count (n : Int) (w : World) (h0 : -9223372036854775808 ≤ n) (h1 : n < 9223372036854775808) : Calls Try.prog 96 #[.int .i64 n] w fun e w' => e = .returned (.int .i64 (cnt n)) ∧ w = w' := by
  by_cases hn : n < 0
  · rw [show cnt n = 0 from if_pos (by omega)]
    go_enter Try.func96, Try.ntmps96
    go_wp2
    go_ret
    exact ⟨rfl, rfl⟩
  · have e4 : n.tdiv 64 = n / 64 := by rw [Int.tdiv_eq_ediv_of_nonneg (by omega)]
    have e2 : IntKind.i64.wrap (n / 64) = n / 64 := by rw [IntKind.wrap_i64]; omega
    have e1 : IntKind.i64.wrap (n / 64 * 64) = n / 64 * 64 := by rw [IntKind.wrap_i64]; omega
    have e3 : IntKind.i64.wrap (n / 64 + 1) = n / 64 + 1 := by rw [IntKind.wrap_i64]; omega
    by_cases hm : n / 64 * 64 < n
    · rw [show cnt n = n / 64 + 1 by unfold cnt; split <;> omega]
      go_enter Try.func96, Try.ntmps96
      go_wp2
      go_ret
      exact ⟨rfl, rfl⟩
    · rw [show cnt n = n / 64 by unfold cnt; split <;> omega]
      go_enter Try.func96, Try.ntmps96
      go_wp2
      go_ret
      exact ⟨rfl, rfl⟩

set_option maxHeartbeats 1000000 in
theorem c_cut (s : ByteArray) (w : World) (hs : s.size ≤ 1048576) : Calls Try.prog 100 #[.string s] w fun e w' =>
    ∃ A c, e = .returned (.slice A (cutsB s).length c) ∧ Own Rp.str w' No w.heap.size 9 (.slice A (cutsB s).length c) (cutsB s) ∧ Kp No w w' := by
  obtain ⟨n, hn⟩ : ∃ n, (s.size + 63) / 64 = n := ⟨_, rfl⟩
  have hcn : cnt (s.size : Int) = (n : Int) := by unfold cnt; split <;> omega
  have hnn : n ≤ 1048576 := by omega
  have HN := Lib.hid hn
  clear hn
  go_enter Try.func100, Try.ntmps100
  go_wp2_with fail
  refine (c_count _ _ (by omega) (by omega)).mono ?_
  rintro e w1 ⟨rfl, rfl⟩
  rw [hcn]
  clear hcn
  obtain ⟨w2, hrun, hown, hk⟩ := own_make Rp.str (P := Try.prog) w No w.heap.size 34 9 elem_str .i64 .i64 n (by omega) (by simp [maxLen]; omega) (Nat.le_refl _)
  have HO := Lib.hid hown
  have HK := Lib.hid hk
  clear hown hk hnn
  go_wp2_with fail
  clear hrun
  go_loopw [0, 3] (fun dv ov wr => ∃ (D : List ByteArray) (rest : List UInt8), dv = .string (bs rest) ∧ cutsB s = D ++ (cutsL rest).map bs ∧ rest.length ≤ s.size ∧ D.length + rest.length ≤ 1048576 ∧ Own Rp.str wr No w.heap.size 9 ov D ∧ Kp No w wr) (fun dv _ _ => vsize dv)
  case atStart => exact ⟨[], s.data.toList, by rw [bs_of], rfl, Nat.le_refl _, by simpa using hs, HO.out, HK.out⟩
  case round =>
    obtain ⟨D, rest, rfl, hcut, hrs, hDl, hown, hkp⟩ := hrel
    obtain ⟨Av, cv, rfl⟩ := hown.shape
    have HCUT := Lib.hid hcut
    have HO := Lib.hid hown
    have HK := Lib.hid hkp
    clear hcut hown hkp
    obtain ⟨r, hr⟩ : ∃ r, bs rest = r := ⟨_, rfl⟩
    have hrl : r.size = rest.length := by rw [← hr, bs_size]
    rw [hr]
    have HR := Lib.hid hr
    clear hr
    have hrm : r.size ≤ 1048576 := by omega
    have HRL := Lib.hid hrl
    clear hrl
    by_cases hlt : 64 < r.size
    · have h64 : (64 : Int) ≤ (r.size : Int) := by omega
      go_wp2_with fail
      refine Reg.wp_region_plan [⟨0, false, []⟩, ⟨1, false, []⟩, ⟨2, false, []⟩, ⟨5, false, []⟩, ⟨6, false, []⟩, ⟨3, true, [6]⟩, ⟨4, true, [6]⟩, ⟨7, false, []⟩, ⟨8, false, []⟩] rfl (by kernel_rfl) ?_
      repeat (first | (refine Reg.look rfl rfl rfl (by go_simp; rfl) rfl ?_; go_simp) | (refine Reg.skip rfl rfl rfl ?_; go_simp))
      refine Reg.act rfl ?_
      go_wp2
      (refine ⟨?anew, ?_⟩; case anew => ((repeat (refine Reg.anew_cons rfl rfl (fun _ => by go_simp) ?_)); exact Reg.anew_nil))
      refine Reg.act rfl ?_
      refine wpList_append_rp (E := Rp.str) rfl _ (.tmp 11) (.tmp 14) 34 rfl w.heap.size 9 16 elem_str (fun k => wr.heap.size ≤ k) (.slice Av D.length cv) D rfl ?d0 (some ⟨wr.heap.size, 0, none⟩) 1 (fun k => wr.heap.size ≤ k) [r.extract 0 64] rfl (Rp.of_block1 (E := Rp.str) rfl Value.string (heap_alloc_new wr _) (Nat.le_refl _) rfl (by simp) (by simp [maxLen]) (by intro a ha; simp only [List.mem_cons, List.not_mem_nil, or_false] at ha; subst ha; exact ⟨rfl, by simp [maxLen]; omega⟩)) Rp.str_one ?d1 ?d2 ?d3 ?d4 ?d5 ?_
      case d0 => exact ((HO.out.alloc _).drew).str_any _
      case d1 => simp [maxLen]; omega
      case d2 => simp; omega
      case d3 => simp; have := HK.out.size; omega
      case d4 => exact fun _ h => h
      case d5 => intro k' hk' hle; have := (HO.out.lt k' hk').2; omega
      intro r3 w3 hown hgr hat
      obtain ⟨Ar, cr, rfl⟩ := hown.shape
      have hkr : Kp (fun k => (Value.slice Av D.length cv).ownBlock = some k) wr w3 := (((Kp.refl _ _).alloc _).drew).grown hgr (fun g hg _ => hg)
      have HOWN := Lib.hid hown
      have HKR := Lib.hid (HK.out.trans hkr (fun i hi hv => absurd (HO.out.lt i hv).1 (by omega)))
      clear hown hgr hat hkr
      go_wp2
      (refine ⟨?anew, ?_⟩; case anew => ((repeat (refine Reg.anew_cons rfl rfl (fun _ => by go_simp) ?_)); exact Reg.anew_nil))
      repeat (first | (refine Reg.look rfl rfl rfl (by go_simp; rfl) rfl ?_; go_simp) | (refine Reg.skip rfl rfl rfl ?_; go_simp))
      (refine Reg.done ?_; simp only [Exit.then])
      go_wp2
      go_roundw
      case rel =>
        have hrl := HRL.out
        have h1 : r.extract 0 64 = bs (rest.take 64) := by rw [← HR.out, bs_extract]; simp
        have h2 : r.extract 64 r.size = bs (rest.drop 64) := by rw [← HR.out, bs_extract, bs_size, List.take_of_length_le (by rw [List.length_drop]; omega)]
        refine ⟨D ++ [r.extract 0 64], rest.drop 64, by rw [← h2], ?_, by rw [List.length_drop]; omega, by rw [List.length_append, List.length_drop]; simp; omega, ?_, HKR.out⟩
        · rw [HCUT.out, cutsL_cons (by intro e; rw [e, List.length_nil] at hrl; omega), List.map_cons, h1, List.append_assoc]; rfl
        · have h := HOWN.out.str_any No; rw [show (D ++ [r.extract 0 64]).length = D.length + 1 by simp] at h; exact h
      case measure => simp [vsize]; omega
    · have hrl := HRL.out
      by_cases hr0 : rest = []
      · subst hr0
        have hemp : r.toList.isEmpty = true := by rw [toList_isEmpty, hrl]; rfl
        have hc : cutsB s = D := by rw [HCUT.out, cutsL_nil]; simp
        have HC := Lib.hid hc
        clear hc hrl
        go_wp2_with fail
        go_ret
        rw [HC.out]
        exact ⟨Av, cv, rfl, HO.out, HK.out⟩
      · have hrp := List.length_pos_iff.2 hr0
        have hemp : r.toList.isEmpty = false := by rw [toList_isEmpty, hrl]; simp; omega
        have hc : cutsB s = D ++ [r] := by rw [HCUT.out, cutsL_short hr0 (by omega), ← HR.out]; rfl
        have HC := Lib.hid hc
        clear hc hrl
        go_wp2_with (at_builtin; refine wpList_append_rp (E := Rp.str) rfl _ (.tmp 20) (.tmp 22) 34 rfl w.heap.size 9 16 elem_str (fun k => wr.heap.size ≤ k) (.slice Av D.length cv) D rfl ?d0 (some ⟨wr.heap.size, 0, none⟩) 1 (fun k => wr.heap.size ≤ k) [r] rfl (Rp.of_block1 (E := Rp.str) rfl Value.string (heap_alloc_new wr _) (Nat.le_refl _) rfl (by simp) (by simp [maxLen]) (by intro a ha; simp only [List.mem_cons, List.not_mem_nil, or_false] at ha; subst ha; exact ⟨rfl, by simp [maxLen]; omega⟩)) Rp.str_one ?d1 ?d2 ?d3 ?d4 ?d5 ?_)
        case d0 => exact (HO.out.alloc _).str_any _
        case d1 => simp [maxLen]; omega
        case d2 => simp; omega
        case d3 => simp; have := HK.out.size; omega
        case d4 => exact fun _ h => h
        case d5 => intro k' hk' hle; have := (HO.out.lt k' hk').2; omega
        intro r3 w3 hown hgr hat
        obtain ⟨Ar, cr, rfl⟩ := hown.shape
        have hkr : Kp (fun k => (Value.slice Av D.length cv).ownBlock = some k) wr w3 := (((Kp.refl _ _).alloc _)).grown hgr (fun g hg _ => hg)
        have HOWN := Lib.hid (hown.str_any No)
        have HKR := Lib.hid (HK.out.trans hkr (fun i hi hv => absurd (HO.out.lt i hv).1 (by omega)))
        clear hown hgr hat hkr
        go_wp2_with fail
        go_ret
        rw [HC.out]
        exact ⟨Ar, cr, rfl, HOWN.out, HKR.out⟩

/-- The reference's cutting: byte by byte. -/
theorem cutsB_push (s : ByteArray) (i : Nat) (hi : i < s.size) :
    (i % 64 = 0 → cutsB (s.extract 0 (i + 1)) = cutsB (s.extract 0 i) ++ [s.extract i (i + 1)]) ∧
    (i % 64 ≠ 0 → ∃ z, (cutsB (s.extract 0 i))[i / 64]? = some z ∧ cutsB (s.extract 0 (i + 1)) = (cutsB (s.extract 0 i)).set (i / 64) (z ++ s.extract i (i + 1))) := by
  obtain ⟨l, rfl⟩ : ∃ l, s = bs l := ⟨_, (bs_of s).symm⟩
  rw [bs_size] at hi
  have e1 : (bs l).extract 0 (i + 1) = bs (l.take i ++ [l[i]]) := by rw [bs_extract, List.drop_zero, Nat.sub_zero, List.take_succ_eq_append_getElem hi]
  have e2 : (bs l).extract 0 i = bs (l.take i) := by rw [bs_extract]; simp
  have e3 : (bs l).extract i (i + 1) = bs [l[i]] := by rw [bs_extract, show i + 1 - i = 1 by omega, List.drop_eq_getElem_cons hi]; rfl
  have e4 : (l.take i).length = i := by rw [List.length_take]; omega
  rw [e1, e2, e3]
  unfold cutsB
  rw [bs_data, bs_data]
  constructor
  · intro h
    rw [cutsL_push_new _ _ (by rw [e4]; exact h), List.map_append]; rfl
  · intro h
    obtain ⟨z, h1, h2⟩ := cutsL_push (l.take i) l[i] (by rw [e4]; exact h)
    rw [e4] at h1 h2
    refine ⟨bs z, by rw [List.getElem?_map, h1]; rfl, ?_⟩
    rw [h2, List.map_set, bs_append]


set_option maxHeartbeats 1000000 in
theorem r_cut (s : ByteArray) (w : World) (hs : s.size ≤ 1048576) : Calls Try.prog 103 #[.string s] w fun e w' =>
    ∃ A c, e = .returned (.slice A (cutsB s).length c) ∧ Own Rp.str w' No w.heap.size 9 (.slice A (cutsB s).length c) (cutsB s) ∧ Kp No w w' := by
  go_enter Try.func103, Try.ntmps103
  go_wp2_with fail
  go_loopw [3, 4] (fun ov iv wr => ∃ k : Nat, k ≤ s.size ∧ iv = .int .i64 k ∧ Own Rp.str wr No w.heap.size 9 ov (cutsB (s.extract 0 k)) ∧ Kp No w wr) (fun _ iv _ => s.size - (intOf iv).toNat)
  case atStart =>
    refine ⟨0, Nat.zero_le _, rfl, ?_, Kp.refl _ _⟩
    have e : cutsB (s.extract 0 0) = [] := by
      apply List.eq_nil_of_length_eq_zero
      rw [cutsB_length, ByteArray.size_extract]; omega
    rw [e]; exact Own.nil _ _ _ _ _
  case round =>
    obtain ⟨k, hk, rfl, hown, hkp⟩ := hrel
    obtain ⟨Av, cv, rfl⟩ := hown.shape
    by_cases hlt : k < s.size
    · have hpush := cutsB_push s k hlt
      have hDl : (cutsB (s.extract 0 k)).length = (k + 63) / 64 := by rw [cutsB_length, ByteArray.size_extract]; omega
      have hsz := cutsB_sizes (s.extract 0 k)
      have HK := Lib.hid hkp
      clear hkp
      by_cases hm : k % 64 = 0
      · have hd : (((k : Int) % 64) == 0) = true := by rw [beq_iff_eq]; omega
        have hpush := hpush.1 hm
        generalize hD0 : cutsB (s.extract 0 k) = D0 at *
        clear hD0
        have HP := Lib.hid hpush
        have HO := Lib.hid hown
        have HSZ := Lib.hid hsz
        have HDL := Lib.hid hDl
        have hDm : D0.length ≤ 1048576 := by omega
        obtain ⟨q, hq⟩ : ∃ q, k / 64 = q := ⟨_, rfl⟩
        have HD0 : Hid (D0.length = q) := Lib.hid (by omega)
        clear hpush hown hsz hDl hm
        go_wp2_with (at_builtin; refine wpList_append_rp (E := Rp.str) rfl _ (.tmp 14) (.tmp 15) 34 rfl w.heap.size 9 16 elem_str (fun k => wr.heap.size ≤ k) (.slice Av D0.length cv) D0 rfl ?d0 (some ⟨wr.heap.size, 0, none⟩) 1 (fun k => wr.heap.size ≤ k) [ByteArray.empty] rfl (Rp.of_block1 (E := Rp.str) rfl Value.string (heap_alloc_new wr _) (Nat.le_refl _) rfl (by simp) (by simp [maxLen]) (by intro a ha; simp only [List.mem_cons, List.not_mem_nil, or_false] at ha; subst ha; exact ⟨rfl, by simp [maxLen]⟩)) Rp.str_one ?d1 ?d2 ?d3 ?d4 ?d5 ?_)
        case d0 => exact (HO.out.alloc _).str_any _
        case d1 => simp [maxLen]; omega
        case d2 => simp; omega
        case d3 => simp; have := HK.out.size; omega
        case d4 => exact fun _ h => h
        case d5 => intro k' hk' hle; have := (HO.out.lt k' hk').2; omega
        intro r3 w3 hown hgr hat
        have hkr : Kp (fun k => (Value.slice Av D0.length cv).ownBlock = some k) wr w3 := (((Kp.refl _ _).alloc _)).grown hgr (fun g hg _ => hg)
        have HKR := Lib.hid (HK.out.trans hkr (fun i hi hv => absurd (HO.out.lt i hv).1 (by omega)))
        have hDq : (D0 ++ [ByteArray.empty]).length = q + 1 := by simp; exact HD0.out
        have hlast : ∃ z, (D0 ++ [ByteArray.empty])[q]? = some z ∧ cutsB (s.extract 0 (k + 1)) = (D0 ++ [ByteArray.empty]).set q (z ++ s.extract k (k + 1)) := by
          have h0 : D0.length = q := HD0.out
          refine ⟨ByteArray.empty, by rw [← h0]; simp, ?_⟩
          rw [HP.out, ← h0, ByteArray.empty_append]; simp
        have hsz : ∀ x ∈ D0 ++ [ByteArray.empty], x.size ≤ 64 := by
          intro x hx
          rcases List.mem_append.1 hx with h | h
          · exact HSZ.out x h
          · simp only [List.mem_cons, List.not_mem_nil, or_false] at h; subst h; simp
        replace hown := hown.str_any No
        generalize D0 ++ [ByteArray.empty] = D at *
        obtain ⟨Ar, cr, rfl⟩ := hown.shape
        clear hgr hat hkr HK hDm HSZ
        have HK := HKR
        have HLAST := Lib.hid hlast
        have HDQ := Lib.hid hDq
        have HOWN := Lib.hid hown
        have HSZ := Lib.hid hsz
        clear HKR hlast hDq hown hsz
        go_wp2_with fail
        obtain ⟨z, hz, hset⟩ : ∃ z, D[q]? = some z ∧ cutsB (s.extract 0 (k + 1)) = D.set q (z ++ s.extract k (k + 1)) := HLAST.out
        obtain ⟨g, rfl, hgb, hgl, hcell, hfz, _⟩ := Own.cellBy Rp.str_by HOWN.out hz
        have hzs : z.size ≤ 64 := HSZ.out z (List.mem_of_getElem? hz)
        have hDq := HDQ.out
        have hps : (s.extract k (k + 1)).size ≤ 1 := by rw [ByteArray.size_extract]; omega
        have HZ := Lib.hid hzs
        have hql : q < D.length := (List.getElem?_eq_some_iff.1 hz).1
        have e1 : IntKind.i64.wrap ((D.length : Int) - 1) = (q : Int) := by rw [IntKind.wrap_i64]; omega
        have e2 : IntKind.i64.wrap ((k : Int) + 1) = (k : Int) + 1 := by rw [IntKind.wrap_i64]; omega
        have HSET := Lib.hid hset
        clear hset hz HLAST HSZ hDq hzs
        have hi1 : (0 : Int) ≤ (k : Int) + 1 := by omega
        have hi2 : (k : Int) + 1 ≤ (s.size : Int) := by omega
        have hi3 : (k : Int) ≤ (k : Int) + 1 := by omega
        have hi4 : ¬ 9223372036854775807 < z.size + (min (k + 1) s.size - k) := by have := HZ.out; omega
        refine Reg.wp_region_plan [⟨0, false, []⟩, ⟨1, false, []⟩, ⟨2, false, []⟩, ⟨3, false, []⟩, ⟨4, false, []⟩, ⟨5, false, []⟩, ⟨6, false, []⟩, ⟨7, false, []⟩, ⟨8, false, []⟩, ⟨9, false, []⟩, ⟨10, false, []⟩, ⟨11, false, []⟩, ⟨12, false, []⟩, ⟨13, true, []⟩] rfl (by kernel_rfl) ?_
        repeat (first | (refine Reg.look rfl rfl rfl (by go_simp; rfl) rfl ?_; go_simp) | (refine Reg.skip rfl rfl rfl ?_; go_simp))
        refine Reg.act rfl ?_
        go_wp2
        refine ⟨Reg.anew_nil, ?_⟩
        (refine Reg.done ?_; simp only [Exit.then])
        go_wp2
        go_roundw
        case rel =>
          refine ⟨k + 1, by omega, by go_num, ?_, ?_⟩
          · rw [HSET.out]
            have h := Own.storeBy Rp.str_by HOWN.out (i := q) hql (a := z ++ s.extract k (k + 1)) (by rw [ByteArray.size_append]; have := HZ.out; simp [maxLen]; omega)
            exact h.drew
          · exact (HK.out.setCell (fun h => absurd h (by simp; omega)) _).drew
        case measure => simp [intOf]; omega
      · have hd : (((k : Int) % 64) == 0) = false := by rw [beq_eq_false_iff_ne]; omega
        have hlast := hpush.2 hm
        clear hpush
        obtain ⟨q, hq⟩ : ∃ q, k / 64 = q := ⟨_, rfl⟩
        rw [hq] at hlast
        have hDq : (cutsB (s.extract 0 k)).length = q + 1 := by omega
        generalize cutsB (s.extract 0 k) = D at *
        have HLAST := Lib.hid hlast
        have HDQ := Lib.hid hDq
        have HOWN := Lib.hid hown
        have HSZ := Lib.hid hsz
        clear hDl hlast hDq hown hsz
        go_wp2_with fail
        obtain ⟨z, hz, hset⟩ : ∃ z, D[q]? = some z ∧ cutsB (s.extract 0 (k + 1)) = D.set q (z ++ s.extract k (k + 1)) := HLAST.out
        obtain ⟨g, rfl, hgb, hgl, hcell, hfz, _⟩ := Own.cellBy Rp.str_by HOWN.out hz
        have hzs : z.size ≤ 64 := HSZ.out z (List.mem_of_getElem? hz)
        have hDq := HDQ.out
        have hps : (s.extract k (k + 1)).size ≤ 1 := by rw [ByteArray.size_extract]; omega
        have HZ := Lib.hid hzs
        have hql : q < D.length := (List.getElem?_eq_some_iff.1 hz).1
        have e1 : IntKind.i64.wrap ((D.length : Int) - 1) = (q : Int) := by rw [IntKind.wrap_i64]; omega
        have e2 : IntKind.i64.wrap ((k : Int) + 1) = (k : Int) + 1 := by rw [IntKind.wrap_i64]; omega
        have HSET := Lib.hid hset
        clear hset hz HLAST HSZ hDq hzs
        have hi1 : (0 : Int) ≤ (k : Int) + 1 := by omega
        have hi2 : (k : Int) + 1 ≤ (s.size : Int) := by omega
        have hi3 : (k : Int) ≤ (k : Int) + 1 := by omega
        have hi4 : ¬ 9223372036854775807 < z.size + (min (k + 1) s.size - k) := by have := HZ.out; omega
        refine Reg.wp_region_plan [⟨0, false, []⟩, ⟨1, false, []⟩, ⟨2, false, []⟩, ⟨3, false, []⟩, ⟨4, false, []⟩, ⟨5, false, []⟩, ⟨6, false, []⟩, ⟨7, false, []⟩, ⟨8, false, []⟩, ⟨9, false, []⟩, ⟨10, false, []⟩, ⟨11, false, []⟩, ⟨12, false, []⟩, ⟨13, true, []⟩] rfl (by kernel_rfl) ?_
        repeat (first | (refine Reg.look rfl rfl rfl (by go_simp; rfl) rfl ?_; go_simp) | (refine Reg.skip rfl rfl rfl ?_; go_simp))
        refine Reg.act rfl ?_
        go_wp2
        refine ⟨Reg.anew_nil, ?_⟩
        (refine Reg.done ?_; simp only [Exit.then])
        go_wp2
        go_roundw
        case rel =>
          refine ⟨k + 1, by omega, by go_num, ?_, ?_⟩
          · rw [HSET.out]
            have h := Own.storeBy Rp.str_by HOWN.out (i := q) hql (a := z ++ s.extract k (k + 1)) (by rw [ByteArray.size_append]; have := HZ.out; simp [maxLen]; omega)
            exact h.drew
          · exact (HK.out.setCell (fun h => absurd h (by simp; omega)) _).drew
        case measure => simp [intOf]; omega
    · obtain rfl : k = s.size := by omega
      have e : s.extract 0 s.size = s := by simp
      rw [e] at hown ⊢
      have HO := Lib.hid hown
      clear hown
      go_wp2_with fail
      go_ret
      exact ⟨Av, cv, rfl, HO.out, hkp⟩
end Go.Proofs.Ytbncblnchcmgbaa
