/-
  The document's drive: Names.
-/
import Derived.Test.YtflodiljgphkdaaRef6
import Derived.Test.YtflodiljgphkdaaDisk10
namespace Go.Proofs.Ytflodiljgphkdaa
open Go.RowKit Go.ChangeShapes Go.WideShapes Go.ChangeAt

theorem prefixed_ext {p s : ByteArray} (_h : p.size ≤ s.size) : ((s.extract 0 p.size).toList == p.toList) = prefixed p s := by
  unfold prefixed
  rw [ByteArray.toList_eq, ByteArray.toList_eq, Bool.eq_iff_iff, beq_iff_eq, List.isPrefixOf_iff_prefix, List.prefix_iff_eq_take]
  simp only [ByteArray.data_extract, Array.toList_extract, List.extract_eq_take_drop, List.drop_zero, Nat.sub_zero, data_length]
  exact eq_comm
theorem prefixed_short {p s : ByteArray} (h : ¬ p.size ≤ s.size) : prefixed p s = false := by
  unfold prefixed
  rw [Bool.eq_false_iff, ne_eq, List.isPrefixOf_iff_prefix]
  intro hp
  have := hp.length_le
  rw [data_length, data_length] at this
  exact h this
set_option maxRecDepth 100000 in
set_option maxHeartbeats 1000000 in
theorem r_names (r : Nat) (x : DV) (F : Nat → Prop) (p : ByteArray) (w : World) (h : RAt w r x F) (hx : x.files.length ≤ 1000000) :
    Calls Try.prog 28 #[.pointer (some ⟨r, 0, none⟩), .string p] w fun e w' => ∃ A c, e = .returned (.slice A (namesD p x).length c) ∧ Own Rp.str w' No w.heap.size 9 (.slice A (namesD p x).length c) (namesD p x) ∧ Kp No w w' := by
  obtain ⟨v, h, _⟩ := h
  obtain ⟨A0, c0, rfl, hc1, hc2, _⟩ := id h.row
  have H := Lib.hid h
  have HX := Lib.hid hx
  clear h hc1 hc2 hx
  cases hoff : x.off with
  | true =>
    have e : namesD p x = [] := by unfold namesD; rw [hoff]; rfl
    rw [e]
    have d2 : w.cell? ⟨r, 2, none⟩ = some (.bool x.off) := Blk.cell H.out.blk rfl
    have d0 : w.cell? ⟨r, 0, none⟩ = some _ := Blk.cell H.out.blk rfl
    rw [hoff] at d2
    clear e hoff
    go_enter Try.func28, Try.ntmps28
    go_wp2_with fail
    go_loopw [5, 6] (fun ov iv wr => ov = .slice none 0 0 ∧ iv = .int .i64 0 ∧ wr = w) (fun _ _ _ => 0)
    case atStart => exact ⟨rfl, rfl, rfl⟩
    case round =>
      obtain ⟨rfl, rfl, rfl⟩ := hrel
      go_wp2_with fail
      all_goals
        go_ret
        exact ⟨none, 0, rfl, Own.nil _ _ _ _ _, Kp.refl _ _⟩
  | false =>
    have e : namesD p x = (x.files.map (·.1)).filter (prefixed p) := by unfold namesD; rw [hoff]; rfl
    rw [e]
    obtain ⟨N, hN⟩ : ∃ N, x.files.map (·.1) = N := ⟨_, rfl⟩
    rw [hN]
    have hNl : N.length = x.files.length := by rw [← hN, List.length_map]
    have HN := Lib.hid hN
    have HX2 : Hid (N.length ≤ 1000000) := Lib.hid (by rw [hNl]; exact HX.out)
    have d2 : w.cell? ⟨r, 2, none⟩ = some (.bool x.off) := Blk.cell H.out.blk rfl
    have d0 : w.cell? ⟨r, 0, none⟩ = some (.slice A0 x.files.length c0) := Blk.cell H.out.blk rfl
    rw [hoff] at d2
    rw [← hNl] at d0
    have HNL := Lib.hid hNl
    have HOF := Lib.hid hoff
    clear e hoff hN hNl
    go_enter Try.func28, Try.ntmps28
    go_wp2_with fail
    clear d0 d2
    go_loopw [5, 6] (fun ov iv wr => ∃ (i : Nat) (A : Option Addr) (c : Nat), i ≤ N.length ∧ iv = .int .i64 (i : Int) ∧ ov = .slice A ((N.take i).filter (prefixed p)).length c ∧ Own Rp.str wr No w.heap.size 9 (.slice A ((N.take i).filter (prefixed p)).length c) ((N.take i).filter (prefixed p)) ∧ Kp No w wr) (fun _ iv _ => N.length - (intOf iv).toNat)
    case atStart => exact ⟨0, none, 0, Nat.zero_le _, rfl, rfl, Own.nil _ _ _ _ _, Kp.refl _ _⟩
    case round =>
      obtain ⟨i, A, c, hi, rfl, rfl, hown, hk⟩ := hrel
      have hr := H.out.keptNo hk
      have d2 : wr.cell? ⟨r, 2, none⟩ = some (.bool false) := by rw [← HOF.out]; exact Blk.cell hr.blk rfl
      have d0 : wr.cell? ⟨r, 0, none⟩ = some (.slice A0 N.length c0) := by rw [HNL.out]; exact Blk.cell hr.blk rfl
      have HO := Lib.hid hown
      have HK := Lib.hid hk
      have hNl := HX2.out
      clear hown hk
      by_cases hlt : i < N.length
      · have hli : (i : Int) < (N.length : Int) := by omega
        obtain ⟨q, hq⟩ : ∃ q, x.files[i]? = some q := ⟨_, List.getElem?_eq_getElem (by rw [← HNL.out]; exact hlt)⟩
        have hy : N[i]? = some q.1 := by rw [← HN.out, List.getElem?_map, hq]; rfl
        have hst := filter_take (p := prefixed p) hy
        obtain ⟨g, rfl, _, hcell, _⟩ := hr.row.cell hq
        have c1 : wr.cell? ⟨g, i * 4, none⟩ = some (.string q.1) := hcell 0 _ rfl
        obtain ⟨y, hyy⟩ : ∃ y, q.1 = y := ⟨_, rfl⟩
        have HY8 : Hid (y.size ≤ 80) := Lib.hid (by rw [← hyy]; exact (H.out.ok.file q (List.mem_of_getElem? hq)).2)
        rw [hyy] at c1 hst
        obtain ⟨D, hD⟩ : ∃ D, (N.take i).filter (prefixed p) = D := ⟨_, rfl⟩
        rw [hD] at HO hst
        rw [hD]
        have hDl : D.length ≤ 1000000 := by rw [← hD]; exact Nat.le_trans (List.length_filter_le _ _) (by rw [List.length_take]; omega)
        clear hy hcell hr hq hyy hD
        by_cases hle : (p.size : Int) ≤ (y.size : Int)
        · have hext := prefixed_ext (p := p) (s := y) (by omega)
          cases hpy : prefixed p y with
          | true =>
            rw [hpy] at hext hst
            simp only [if_true] at hst
            have HST := Lib.hid hst
            clear hst hpy
            go_wp2_with (at_builtin; refine wpList_append_lit Rp.str_by rfl _ (.tmp 45) (.tmp 47) 47 rfl w.heap.size 9 16 el_names (.slice A D.length c) D rfl No ?d0 wr.heap.size [y] rfl _ _ _ (heap_alloc_new _ _) ?d1 ?d2 ?d3 ?d4 ?d5 ?d6 ?_)
            case d0 => exact HO.out.alloc _
            case d2 => intro a ha; simp only [List.mem_cons, List.not_mem_nil, or_false] at ha; subst ha; have := HY8.out; unfold maxLen; omega
            case d3 => simp [maxLen]; omega
            case d4 => simp; omega
            case d5 => have := HK.out.size; simp; omega
            case d6 => intro h; have := (HO.out.lt _ h).2; omega
            intro A3 c3 w6 hown hk6
            have HO6 := Lib.hid hown
            have HK6 := Lib.hid ((HK.out.alloc _).trans hk6 (fun i hi hv => absurd (HO.out.lt i hv).1 (by omega)))
            clear hown hk6 HO HK
            go_wp2_with fail
            go_roundw
            case rel => exact ⟨i + 1, A3, c3, by omega, by go_num, by rw [HST.out]; simp, by rw [HST.out, show (D ++ [y]).length = D.length + 1 by simp]; exact HO6.out, HK6.out⟩
            case measure => simp [intOf]; omega
          | false =>
            rw [hpy] at hext hst
            simp only [Bool.false_eq_true, if_false, List.append_nil] at hst
            have HST := Lib.hid hst
            clear hst hpy
            go_wp2_with fail
            go_roundw
            case rel => exact ⟨i + 1, A, c, by omega, by go_num, by rw [HST.out], by rw [HST.out]; exact HO.out, HK.out⟩
            case measure => simp [intOf]; omega
        · have hpy := prefixed_short (p := p) (s := y) (by omega)
          rw [hpy] at hst
          simp only [Bool.false_eq_true, if_false, List.append_nil] at hst
          have HST := Lib.hid hst
          clear hst hpy
          go_wp2_with fail
          go_roundw
          case rel => exact ⟨i + 1, A, c, by omega, by go_num, by rw [HST.out], by rw [HST.out]; exact HO.out, HK.out⟩
          case measure => simp [intOf]; omega
      · obtain rfl : i = N.length := by omega
        rw [List.take_length] at HO
        rw [List.take_length]
        go_wp2_with fail
        go_ret
        exact ⟨A, c, rfl, HO.out, HK.out⟩
end Go.Proofs.Ytflodiljgphkdaa
