/-
  disk.Names.
-/
import Derived.Test.YtflodiljgphkdaaDisk9
import Derived.Test.YtflodiljgphkdaaBy
namespace Go.Proofs.Ytflodiljgphkdaa
open Go.RowKit Go.ChangeShapes Go.WideShapes Go.ChangeAt

theorem el_names : Elem Try.prog 47 9 1 16 := Elem.of Try.underlying47 (z := .string ByteArray.empty) (by kernel_rfl) rfl (by decide)
theorem DiskIn.keys {w : World} {d m : Nat} {l : List (ByteArray × Value)} {L : Loc} {x : DV} (h : DiskIn w d m l L x) : sortedN (l.map (·.1)) = x.files.map (·.1) ∧ (∀ p ∈ l, p.1.size ≤ 80) ∧ l.length = x.files.length := by
  have hnd : (l.map (·.1)).Nodup := by obtain ⟨_, _, _, _, hnd, _⟩ := h.map; exact hnd
  have hp := perm_names hnd h.ok.rising.nodup h.names
  refine ⟨sortedN_eq hp h.ok.rising.names, fun p hpl => ?_, by have := hp.length_eq; simpa using this⟩
  have h1 : p.1 ∈ x.files.map (·.1) := hp.mem_iff.1 (List.mem_map.2 ⟨p, hpl, rfl⟩)
  obtain ⟨q, hq, he⟩ := List.mem_map.1 h1
  rw [← he]
  exact (h.ok.file q hq).2

theorem filter_take {p : ByteArray → Bool} {l : List ByteArray} {i : Nat} {y : ByteArray} (h : l[i]? = some y) : (l.take (i + 1)).filter p = (l.take i).filter p ++ (if p y then [y] else []) := by
  obtain ⟨hi, rfl⟩ := List.getElem?_eq_some_iff.1 h
  rw [List.take_succ_eq_append_getElem hi, List.filter_append]
  congr 1
  simp [List.filter_cons]

set_option maxRecDepth 100000 in
set_option maxHeartbeats 1000000 in
theorem d_names (d : Nat) (x : DV) (F : Nat → Prop) (p : ByteArray) (w : World) (h : DiskAt w d x F) (hn : x.files.length ≤ 1000000) :
    Calls Try.prog 27 #[.pointer (some ⟨d, 0, none⟩), .string p] w fun e w' => ∃ A c, e = .returned (.slice A (namesD p x).length c) ∧ Own Rp.str w' No w.heap.size 9 (.slice A (namesD p x).length c) (namesD p x) ∧ Kp No w w' := by
  obtain ⟨m, l, L, h, hF⟩ := h
  have H := Lib.hid h
  clear hF
  have d2 : w.cell? ⟨d, 2, none⟩ = some (.bool x.off) := Blk.cell H.out.blk rfl
  have d0 : w.cell? ⟨d, 0, none⟩ = some _ := Blk.cell H.out.blk rfl
  unfold namesD
  cases hoff : x.off with
  | true =>
    rw [hoff] at d2
    clear d0 hoff
    simp only [if_true]
    go_enter Try.func27, Try.ntmps27
    go_wp2_with fail
    go_ret
    exact ⟨none, 0, rfl, Own.nil _ _ _ _ _, Kp.refl _ _⟩
  | false =>
    rw [hoff] at d2
    simp only [Bool.false_eq_true, if_false]
    clear hoff
    obtain ⟨hk1, hk2, hk3⟩ := h.keys
    obtain ⟨N, hN⟩ : ∃ N, x.files.map (·.1) = N := ⟨_, rfl⟩
    rw [hN] at hk1 ⊢
    have hNl : N.length ≤ 1000000 := by rw [← hN, List.length_map]; exact hn
    have hN80 : ∀ (j : Nat) y, N[j]? = some y → y.size ≤ 80 := by
      intro j y hj
      rw [← hk1] at hj
      have := mem_sortedN.1 (List.mem_of_getElem? hj)
      obtain ⟨q, hq, rfl⟩ := List.mem_map.1 this
      exact hk2 q hq
    have hks := c_keys_file m w
    have hso := c_sorted_file m l w h.map (fun p hp => by have := hk2 p hp; unfold maxLen; omega) (by omega)
    rw [hk1] at hso
    have HK8 := Lib.hid hN80
    clear hN hn hk1 hk2 hk3 h hN80
    go_enter Try.func27, Try.ntmps27
    go_wp2_with fail
    refine hks.mono ?_
    rintro e w1 ⟨rfl, rfl⟩
    clear hks
    go_wp2_with fail
    refine hso.mono ?_
    rintro e w2 ⟨An, cn, rfl, hown, hk2⟩
    have HN := Lib.hid hown.readFrom
    have HK2 := Lib.hid hk2
    have hs2 := hk2.size
    clear hso hown hk2 d0 d2
    go_wp2_with fail
    go_loopw [5, 23] (fun ov iv wr => ∃ (i : Nat) (A : Option Addr) (c : Nat), i ≤ N.length ∧ iv = .int .i64 (i : Int) ∧ ov = .slice A ((N.take i).filter (prefixed p)).length c ∧ Own Rp.str wr No w2.heap.size 9 (.slice A ((N.take i).filter (prefixed p)).length c) ((N.take i).filter (prefixed p)) ∧ Kp No w2 wr) (fun _ iv _ => N.length - (intOf iv).toNat)
    case atStart => exact ⟨0, none, 0, Nat.zero_le _, rfl, rfl, Own.nil _ _ _ _ _, Kp.refl _ _⟩
    case round =>
      obtain ⟨i, A, c, hi, rfl, rfl, hown, hk⟩ := hrel
      have HO := Lib.hid hown
      have HK := Lib.hid hk
      clear hown hk
      by_cases hlt : i < N.length
      · have hli : (i : Int) < (N.length : Int) := by omega
        obtain ⟨y, hy⟩ : ∃ y, N[i]? = some y := ⟨_, List.getElem?_eq_getElem hlt⟩
        have hst := filter_take (p := prefixed p) hy
        have HN' := Rp.str.slice.keptNo HN.out HK.out
        obtain ⟨ad, rfl, _, hcell, _⟩ := Rp.at_str HN' hy
        have HY8 := Lib.hid (HK8.out i y hy)
        clear hy HN'
        have hpre := s_hasPrefix y p wr
        obtain ⟨D, hD⟩ : ∃ D, (N.take i).filter (prefixed p) = D := ⟨_, rfl⟩
        rw [hD] at HO hst
        rw [hD]
        have hDl : D.length ≤ 1000000 := by rw [← hD]; exact Nat.le_trans (List.length_filter_le _ _) (by rw [List.length_take]; omega)
        cases hpy : prefixed p y with
        | true =>
          rw [hpy] at hpre hst
          simp only [if_true] at hst
          have HST := Lib.hid hst
          clear hst hD hpy
          go_wp2_with fail
          refine hpre.mono ?_
          rintro e w3 ⟨rfl, rfl⟩
          clear hpre hcell
          go_wp2_with (at_builtin; refine wpList_append_lit Rp.str_by rfl _ (.tmp 30) (.tmp 32) 47 rfl w2.heap.size 9 16 el_names (.slice A D.length c) D rfl No ?d0 w3.heap.size [y] rfl _ _ _ (heap_alloc_new _ _) ?d1 ?d2 ?d3 ?d4 ?d5 ?d6 ?_)
          case d0 => exact HO.out.alloc _
          case d2 => intro a ha; simp only [List.mem_cons, List.not_mem_nil, or_false] at ha; subst ha; have := HY8.out; unfold maxLen; omega
          case d3 => simp [maxLen]; omega
          case d4 => simp; omega
          case d5 => have := HK.out.size; simp; omega
          case d6 => intro h; have := (HO.out.lt _ h).2; omega
          intro A3 c3 w6 hown hk6
          have HO6 := Lib.hid hown
          have HK6 := Lib.hid ((HK.out.alloc _).trans hk6 (fun i hi hv => absurd (HO.out.lt i hv).1 (by omega)))
          clear hown hk6 HO HK
          go_wp2_with fail
          go_roundw
          case rel => exact ⟨i + 1, A3, c3, by omega, by go_num, by rw [HST.out]; simp, by rw [HST.out, show (D ++ [y]).length = D.length + 1 by simp]; exact HO6.out, HK6.out⟩
          case measure => simp [intOf]; omega
        | false =>
          rw [hpy] at hpre hst
          simp only [Bool.false_eq_true, if_false, List.append_nil] at hst
          have HST := Lib.hid hst
          clear hst hD hpy
          go_wp2_with fail
          refine hpre.mono ?_
          rintro e w3 ⟨rfl, rfl⟩
          clear hpre hcell
          go_wp2_with fail
          go_roundw
          case rel => exact ⟨i + 1, A, c, by omega, by go_num, by rw [HST.out], by rw [HST.out]; exact HO.out, HK.out⟩
          case measure => simp [intOf]; omega
      · obtain rfl : i = N.length := by omega
        rw [List.take_length] at HO
        rw [List.take_length]
        go_wp2_with fail
        go_ret
        exact ⟨A, c, rfl, HO.out.mono (by omega) (fun _ h => h), HK2.out.trans' HK.out⟩
end Go.Proofs.Ytflodiljgphkdaa
