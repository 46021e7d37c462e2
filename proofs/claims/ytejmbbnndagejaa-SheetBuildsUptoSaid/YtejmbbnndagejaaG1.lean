/-
  great (layer 8): is there more than is played? own: a sheet with a list of its own.
-/
import Derived.Test.YtejmbbnndagejaaH3
namespace Go.Proofs.Ytejmbbnndagejaa
open Go.RowKit Go.ChangeShapes Go.WideShapes Go.ChangeAt

/-- what texts count -/
def wt (l : List ByteArray) : Nat := (l.map fun s => min s.size 1048576).sum
theorem wt_step {l : List ByteArray} {k : Nat} {x : ByteArray} (hx : l[k]? = some x) : wt (l.take (k + 1)) = wt (l.take k) + min x.size 1048576 := by
  obtain ⟨hlt, rfl⟩ := List.getElem?_eq_some_iff.1 hx
  unfold wt
  rw [List.take_succ_eq_append_getElem hlt, List.map_append, List.sum_append]
  simp
theorem wt_take (l : List ByteArray) (k : Nat) : wt (l.take k) ≤ wt l := by
  have h : l = l.take k ++ l.drop k := (List.take_append_drop k l).symm
  unfold wt
  conv => rhs; rw [h, List.map_append, List.sum_append]
  omega
theorem wt_one {l : List ByteArray} {x : ByteArray} (h : x ∈ l) : min x.size 1048576 ≤ wt l := by
  induction l with
  | nil => cases h
  | cons y l ih =>
    have e : wt (y :: l) = min y.size 1048576 + wt l := by simp [wt]
    rw [e]
    rcases List.mem_cons.1 h with rfl | h
    · omega
    · have := ih h; omega
theorem wt_join {l : List ByteArray} (h : wt l ≤ 1000000) : (joinB l).size ≤ wt l := by
  unfold joinB
  rw [bs_size]
  induction l with
  | nil => simp
  | cons x l ih =>
    have e : wt (x :: l) = min x.size 1048576 + wt l := by simp [wt]
    rw [e] at h ⊢
    simp only [List.map_cons, List.flatten_cons, List.length_append]
    rw [data_length]
    have := ih (by omega)
    omega
/-- more than is played -/
def greatB (l cs : List ByteArray) : Bool := decide (3000 < l.length + cs.length + wt l + wt cs)
/-- behind so many of the two lists, amid the one that is gone over -/
def GreatAt (l cs : List ByteArray) (j k n : Nat) : Prop := (j = 0 ∧ n = l.length + cs.length + wt (l.take k)) ∨ (j = 1 ∧ n = l.length + cs.length + wt l + wt (cs.take k))
theorem GreatAt.over {l cs : List ByteArray} {j k n : Nat} (h : GreatAt l cs j k n) (hn : 3000 < n) : greatB l cs = true := by
  unfold greatB
  rw [decide_eq_true_eq]
  rcases h with ⟨_, h⟩ | ⟨_, h⟩
  · have := wt_take l k; omega
  · have := wt_take cs k; omega

set_option maxRecDepth 100000 in
set_option maxHeartbeats 1000000 in
theorem h_own (n : Int) (l : List ByteArray) (A : Option Addr) (c : Nat) (w : World) (S : Nat → Prop) (hl : Rp.str.slice.R w S [.slice A l.length c] l) (hll : l.length ≤ 1000000) :
    Calls Try.prog 27 #[.agg #[.int .i64 n, .slice A l.length c]] w fun e w' => (∃ A' c', e = .returned (.agg #[.int .i64 n, .slice A' l.length c']) ∧ Own Rp.str w' No w.heap.size 9 (.slice A' l.length c') l) ∧ Kp No w w' := by
  have HL := Lib.hid hl
  clear hl
  obtain ⟨w1, hw1⟩ : ∃ w1, (w.alloc (.cells #[.int .i64 n, .slice A l.length c] 34)).alloc (.cells #[.int .i64 0, .slice none 0 0] 34) = w1 := ⟨_, rfl⟩
  have HB1 : Hid (Blk w1 w.heap.size 34 [.int .i64 n, .slice A l.length c]) := Lib.hid (by rw [← hw1]; exact (Blk.new w _ _).kept (S := No) ((Kp.refl _ _).alloc _) (fun x => x))
  have HB2 : Hid (Blk w1 (w.heap.size + 1) 34 [.int .i64 0, .slice none 0 0]) := Lib.hid (by
    rw [← hw1]
    have h := Blk.new (w.alloc (.cells #[.int .i64 n, .slice A l.length c] 34)) [.int .i64 0, .slice none 0 0] 34
    simpa using h)
  have HK1 : Hid (Kp No w w1) := Lib.hid (by rw [← hw1]; exact ((Kp.refl _ _).alloc _).alloc _)
  have HW1 := Lib.hid hw1
  clear hw1
  go_enter Try.func27, Try.ntmps27
  go_wp2_with (at_builtin; refine wpList_copy_lit (E := Rp.str) rfl ((w.alloc (.cells #[.int .i64 n, .slice A l.length c] 34)).alloc (.cells #[.int .i64 0, .slice none 0 0] 34)) (.tmp 3) (.tmp 5) 22 rfl 9 16 elem_str (show Value.slice (some ⟨w.heap.size + 1 + 1, 0, none⟩) 0 0 = _ from congrArg (fun k => Value.slice (some ⟨k, 0, none⟩) 0 0) (by simp)) A c S l rfl (Rp.str.slice.keptNo HL.out (((Kp.refl _ _).alloc _).alloc _)) Rp.str_one (by omega) ?_; intro A5 c5 w5 hown hk5; rw [HW1.out] at hown hk5; have HO5 := Lib.hid (hown.str_any No); have HB15 := Lib.hid (HB1.out.kept hk5 (fun x => x)); have HB25 := Lib.hid (HB2.out.kept hk5 (fun x => x)); have HK5 := Lib.hid (HK1.out.trans' hk5); have hlt1 := HB2.out.lt; have d0 : w5.cell? ⟨w.heap.size, 0, none⟩ = some (.int .i64 n) := HB15.out.cell rfl; have d1 : w5.cell? ⟨w.heap.size, 1, none⟩ = some (.slice A l.length c) := HB15.out.cell rfl; have e0 : w5.cell? ⟨w.heap.size + 1, 0, none⟩ = some (.int .i64 0) := HB25.out.cell rfl; have e1 : w5.cell? ⟨w.heap.size + 1, 1, none⟩ = some (.slice none 0 0) := HB25.out.cell rfl; have f1 := HB15.out.fr 1; have g0 := HB25.out.fr 0; have g1 := HB25.out.fr 1; have hl1 := HB15.out.lt; have hl2 := HB25.out.lt; clear hown hk5)
  have hk6 : Kp (· = w.heap.size) w5 (w5.setCell ⟨w.heap.size, 1, none⟩ (.slice A5 l.length c5)) := (Kp.refl (· = w.heap.size) w5).setCell (p := ⟨w.heap.size, 1, none⟩) (fun _ => rfl) _
  have HB26 := HB25.out.kept hk6 (fun e => by omega)
  have hfin := (HB26.set 0 (.int .i64 n)).set 1 (.slice A5 l.length c5)
  have hk8 : Kp (fun k => k = w.heap.size ∨ k = w.heap.size + 1) w5 (((w5.setCell ⟨w.heap.size, 1, none⟩ (.slice A5 l.length c5)).setCell ⟨w.heap.size + 1, 0, none⟩ (.int .i64 n)).setCell ⟨w.heap.size + 1, 1, none⟩ (.slice A5 l.length c5)) := (((Kp.refl _ w5).setCell (p := ⟨w.heap.size, 1, none⟩) (fun _ => .inl rfl) _).setCell (p := ⟨w.heap.size + 1, 0, none⟩) (fun _ => .inr rfl) _).setCell (p := ⟨w.heap.size + 1, 1, none⟩) (fun _ => .inr rfl) _
  refine bodyPost_ret (results_cell_row rfl _ _ (w.heap.size + 1) _ _ _ _ rfl hfin Try.underlying34 rfl (by kernel_rfl)) rfl ⟨⟨A5, c5, rfl, ?_⟩, ?_⟩
  · exact (HO5.out.kept hk8 (fun _ h => h.elim) (fun g hg e => by have := (HO5.out.lt g hg).1; omega)).mono (by omega) (fun _ h => h)
  · exact HK5.out.trans hk8 (fun i hi e => by omega)

set_option maxRecDepth 100000 in
set_option maxHeartbeats 1000000 in
theorem h_great (n : Int) (l cs : List ByteArray) (A A2 : Option Addr) (c c2 : Nat) (w : World) (S S2 : Nat → Prop) (hl : Rp.str.slice.R w S [.slice A l.length c] l) (hc : Rp.str.slice.R w S2 [.slice A2 cs.length c2] cs) (hll : l.length ≤ 1048576) (hcl : cs.length ≤ 1048576) :
    Calls Try.prog 25 #[.agg #[.int .i64 n, .slice A l.length c], .slice A2 cs.length c2] w fun e w' => e = .returned (.bool (greatB l cs)) ∧ Kp No w w' := by
  obtain ⟨w1, hw1⟩ : ∃ w1, w.alloc (.cells #[.int .i64 n, .slice A l.length c] 34) = w1 := ⟨_, rfl⟩
  have HK1 : Hid (Kp No w w1) := Lib.hid (by rw [← hw1]; exact (Kp.refl _ _).alloc _)
  have HL := Lib.hid (Rp.str.slice.keptNo hl HK1.out)
  have HC := Lib.hid (Rp.str.slice.keptNo hc HK1.out)
  obtain ⟨B, hB⟩ : ∃ B, l.length + cs.length = B := ⟨_, rfl⟩
  have hBl : B ≤ 2097152 := by omega
  have a1 : w1.cell? ⟨w.heap.size, 1, none⟩ = some (.slice A l.length c) := by rw [← hw1]; exact Blk.cell (Blk.new w [.int .i64 n, .slice A l.length c] _) rfl
  have hsum : (l.length : Int) + (cs.length : Int) = (B : Int) := by omega
  have HB := Lib.hid hB
  clear hl hc hB
  go_enter Try.func25, Try.ntmps25
  go_wp2_with fail
  clear hw1 a1
  go_loop [5, 20] (fun nv jv => ∃ (m j : Nat), nv = .int .i64 (m : Int) ∧ jv = .int .i64 (j : Int) ∧ j ≤ 2 ∧ m ≤ B + 3000 ∧ Hid (m = B + (if 0 < j then wt l else 0) + (if 1 < j then wt cs else 0))) (fun _ jv => 2 - (intOf jv).toNat)
  case atStart => exact ⟨B, 0, rfl, rfl, by omega, by omega, Lib.hid (by simp)⟩
  case round =>
    obtain ⟨m, j, rfl, rfl, hj, hm, HM⟩ := hrel
    by_cases hj2 : j < 2
    · have hd : ∃ (M : List ByteArray) (AM : Option Addr) (cm : Nat) (SM : Nat → Prop), (Instr.index 71 (.agg #[.slice A l.length c, .slice A2 cs.length c2]) (.int .i64 (j : Int))).run Try.prog w1 = .ok (.slice AM M.length cm) w1 ∧ Hid (Rp.str.slice.R w1 SM [.slice AM M.length cm] M) ∧ M.length ≤ 1048576 ∧ Hid ((j = 0 ∧ M = l) ∨ (j = 1 ∧ M = cs)) := by
        rcases (by omega : j = 0 ∨ j = 1) with rfl | rfl
        · exact ⟨l, A, c, S, by kernel_rfl, HL, by omega, Lib.hid (.inl ⟨rfl, rfl⟩)⟩
        · exact ⟨cs, A2, c2, S2, by kernel_rfl, HC, by omega, Lib.hid (.inr ⟨rfl, rfl⟩)⟩
      obtain ⟨M, AM, cm, SM, hidx, HMR, hml, HWH⟩ := hd
      have Bj : (j : Int) < 2 := by omega
      go_wp2_with fail
      go_loop [5, 25] (fun nv kv => ∃ (q k : Nat), nv = .int .i64 (q : Int) ∧ kv = .int .i64 (k : Int) ∧ k ≤ M.length ∧ q ≤ B + 3000 ∧ Hid (q = m + wt (M.take k))) (fun _ kv => M.length - (intOf kv).toNat)
      case atStart => exact ⟨m, 0, rfl, rfl, by omega, hm, Lib.hid (by simp [wt])⟩
      case round =>
        obtain ⟨q, k, rfl, rfl, hk, hq, HQ⟩ := hrel
        by_cases hkl : k < M.length
        · obtain ⟨x, hx⟩ : ∃ x, M[k]? = some x := ⟨_, List.getElem?_eq_getElem hkl⟩
          obtain ⟨ad, rfl, _, hcell, hxm⟩ := Rp.at_str HMR.out hx
          have hki : (k : Int) < (M.length : Int) := by omega
          obtain ⟨z, hz⟩ : ∃ z, min x.size 1048576 = z := ⟨_, rfl⟩
          have hzl : z ≤ 1048576 := by omega
          have HN : Hid (q + z = m + wt (M.take (k + 1))) := Lib.hid (by rw [wt_step hx, HQ.out, hz]; omega)
          have HF : Hid (3000 < q + z → greatB l cs = true) := Lib.hid (fun h => by
            refine GreatAt.over (j := j) (k := k + 1) (n := q + z) ?_ h
            rcases HWH.out with ⟨rfl, rfl⟩ | ⟨rfl, rfl⟩
            · refine .inl ⟨rfl, ?_⟩
              rw [HN.out, HM.out, ← HB.out]; simp
            · refine .inr ⟨rfl, ?_⟩
              rw [HN.out, HM.out, ← HB.out]; simp)
          have hmin : min (x.size : Int) 1048576 = (z : Int) := by omega
          clear hx hz
          by_cases hgt : 3000 < q + z
          · have hgi : (3000 : Int) < (q : Int) + (z : Int) := by omega
            have hfin := HF.out hgt
            clear HF
            go_wp2_with fail
            go_ret
            exact ⟨rfl, HK1.out⟩
          · have hgi : ¬ (3000 : Int) < (q : Int) + (z : Int) := by omega
            go_wp2_with fail
            go_round
            case rel => exact ⟨q + z, k + 1, by go_num, by go_num, by omega, by omega, HN⟩
            case measure => simp [intOf]; omega
        · obtain rfl : k = M.length := by omega
          rw [List.take_length] at HQ
          go_wp2_with fail
          go_round
          case rel =>
            refine ⟨q, j + 1, by go_num, by go_num, by omega, by omega, Lib.hid ?_⟩
            rw [HQ.out, HM.out]
            rcases HWH.out with ⟨rfl, rfl⟩ | ⟨rfl, rfl⟩
            · simp
            · simp
          case measure => simp [intOf]; omega
    · obtain rfl : j = 2 := by omega
      have HF : Hid (greatB l cs = decide (3000 < m)) := Lib.hid (by unfold greatB; rw [HM.out, ← HB.out]; simp)
      by_cases hgt : 3000 < m
      · have hgi : (3000 : Int) < (m : Int) := by omega
        go_wp2_with fail
        go_ret
        exact ⟨congrArg (fun b => Ending.returned (Value.bool b)) (HF.out.trans (decide_eq_true hgt)).symm, HK1.out⟩
      · have hgi : ¬ (3000 : Int) < (m : Int) := by omega
        go_wp2_with fail
        go_ret
        exact ⟨congrArg (fun b => Ending.returned (Value.bool b)) (HF.out.trans (decide_eq_false hgt)).symm, HK1.out⟩
theorem great_not {l cs : List ByteArray} (h : greatB l cs = false) : l.length + cs.length + wt l + wt cs ≤ 3000 := by
  unfold greatB at h
  have := of_decide_eq_false h
  omega
end Go.Proofs.Ytejmbbnndagejaa
