/-
  sheet: Check; the reference's Right.
-/
import Derived.Test.YtbncblnchcmgbaaC1
import Derived.Test.YtbncblnchcmgbaaW32
namespace Go.Proofs.Ytbncblnchcmgbaa
open Go.RowKit Go.ChangeShapes Go.WideShapes Go.ChangeAt

/-- may it be a sheet? -/
def okSheet (n : Int) (l : List ByteArray) : Bool := decide (0 ≤ n ∧ n ≤ 512 ∧ (l.length : Int) = cnt n) && l.all fun s => s.size == 32
/-- what Check answers -/
def chkN (n : Int) (l : List ByteArray) : Int := if okSheet n l = true then 0 else 3
/-- so many digests are of 32 bytes -/
def allT (l : List ByteArray) (k : Nat) : Bool := (l.take k).all fun s => s.size == 32
theorem allT_step {l : List ByteArray} {k : Nat} {x : ByteArray} (h : l[k]? = some x) : allT l (k + 1) = (allT l k && (x.size == 32)) := by
  obtain ⟨hlt, rfl⟩ := List.getElem?_eq_some_iff.1 h
  unfold allT
  rw [List.take_succ_eq_append_getElem hlt, List.all_append]; simp
theorem allT_full (l : List ByteArray) : allT l l.length = l.all fun s => s.size == 32 := by unfold allT; rw [List.take_length]
theorem cnt_bounds (n : Int) (h0 : 0 ≤ n) (h1 : n ≤ 512) : 0 ≤ cnt n ∧ cnt n ≤ 8 := by unfold cnt; split <;> omega


set_option maxRecDepth 100000 in
set_option maxHeartbeats 1000000 in
theorem c_check (n : Int) (l : List ByteArray) (A : Option Addr) (c : Nat) (w : World) (S : Nat → Prop) (hl : Rp.str.slice.R w S [.slice A l.length c] l) (h0 : -9223372036854775808 ≤ n) (h1 : n < 9223372036854775808) (hll : l.length ≤ 1000000) :
    Calls Try.prog 94 #[.agg #[.int .i64 n, .slice A l.length c]] w fun e w' => e = .returned (.int .i64 (chkN n l)) ∧ Kp No w w' := by
  have HL := Lib.hid hl
  clear hl
  go_enter Try.func94, Try.ntmps94
  go_wp2_with fail
  obtain ⟨w1, hw1⟩ : ∃ w1, w.alloc (.cells #[.int .i64 n, .slice A l.length c] 36) = w1 := ⟨_, rfl⟩
  have HB : Hid (Blk w1 w.heap.size 36 [.int .i64 n, .slice A l.length c]) := Lib.hid (by rw [← hw1]; exact Blk.new w _ _)
  have HK1 : Hid (Kp No w w1.drew) := Lib.hid (by rw [← hw1]; exact ((Kp.refl _ _).alloc _).drew)
  have HL1 := Lib.hid (Rp.str.slice.keptNo HL.out HK1.out)
  rw [hw1]
  clear hw1
  have c0 : w1.cell? ⟨w.heap.size, 0, none⟩ = some (.int .i64 n) := HB.out.cell rfl
  have c1 : w1.cell? ⟨w.heap.size, 1, none⟩ = some (.slice A l.length c) := HB.out.cell rfl
  by_cases hn0 : 0 ≤ n
  · by_cases hn1 : n ≤ 512
    · obtain ⟨m, hm⟩ : ∃ m, cnt n = m := ⟨_, rfl⟩
      by_cases heq : (l.length : Int) = m
      · have HOK : Hid ((true && l.all fun s => s.size == 32) = okSheet n l) := Lib.hid (by unfold okSheet; rw [decide_eq_true ⟨hn0, hn1, by rw [hm]; exact heq⟩])
        have hq : ((l.length : Int) == m) = true := by simp [heq]
        clear heq
        refine Reg.wp_region_plan [⟨0, false, []⟩, ⟨1, false, []⟩, ⟨2, false, []⟩, ⟨3, false, []⟩, ⟨4, false, []⟩, ⟨5, false, []⟩, ⟨6, false, []⟩, ⟨7, false, []⟩, ⟨8, false, []⟩, ⟨9, false, []⟩, ⟨10, false, []⟩, ⟨11, false, []⟩, ⟨12, false, []⟩, ⟨13, false, []⟩, ⟨14, true, [9, 10, 11]⟩, ⟨15, false, []⟩, ⟨16, false, []⟩, ⟨17, false, []⟩] rfl (by kernel_rfl) ?_
        repeat (first | (refine Reg.look rfl rfl rfl (by go_simp; rfl) rfl ?_; go_simp) | (refine Reg.skip rfl rfl rfl ?_; go_simp))
        refine Reg.act rfl ?_
        go_wp2_with fail
        refine (c_count n _ h0 h1).mono ?_
        rintro e w2 ⟨rfl, rfl⟩
        rw [hm]
        go_wp2_with fail
        (refine ⟨?anew, ?_⟩; case anew => ((repeat (refine Reg.anew_cons rfl rfl (fun _ => by go_simp) ?_)); exact Reg.anew_nil))
        repeat (first | (refine Reg.look rfl rfl rfl (by go_simp; rfl) rfl ?_; go_simp) | (refine Reg.skip rfl rfl rfl ?_; go_simp))
        (refine Reg.done ?_; simp only [Exit.then])
        clear hq
        go_wp2_with fail
        obtain ⟨wo, hwo⟩ : ∃ wo : World, wo = w := ⟨_, rfl⟩
        go_loop [3, 26] (fun ov iv => ∃ (k : Nat) (b : Bool), k ≤ l.length ∧ iv = .int .i64 (k : Int) ∧ ov = .bool b ∧ Hid (b = (true && allT l k))) (fun _ iv => l.length - (intOf iv).toNat)
        case atStart => exact ⟨0, true, Nat.zero_le _, rfl, rfl, Lib.hid (by simp [allT])⟩
        case round =>
          obtain ⟨k, b, hk, rfl, rfl, HB⟩ := hrel
          by_cases hlt : k < l.length
          · obtain ⟨x, hx⟩ : ∃ x, l[k]? = some x := ⟨_, List.getElem?_eq_getElem hlt⟩
            obtain ⟨ad, rfl, _, hcell, _⟩ := Rp.at_str HL1.out hx
            have HST := Lib.hid (allT_step hx)
            clear hx
            cases b with
            | false =>
              have HN : Hid (false = (true && allT l (k + 1))) := Lib.hid (by rw [HST.out, ← Bool.and_assoc, ← HB.out]; rfl)
              go_wp2
              go_round
              case rel => exact ⟨k + 1, false, by omega, by go_num, rfl, HN⟩
              case measure => simp [intOf]; omega
            | true =>
              by_cases h32 : x.size = 32
              · have HN : Hid (true = (true && allT l (k + 1))) := Lib.hid (by rw [HST.out, ← Bool.and_assoc, ← HB.out]; simp [h32])
                have hq : ((x.size : Int) == 32) = true := by simp; omega
                clear h32
                go_wp2
                go_round
                case rel => exact ⟨k + 1, true, by omega, by go_num, rfl, HN⟩
                case measure => simp [intOf]; omega
              · have HN : Hid (false = (true && allT l (k + 1))) := Lib.hid (by rw [HST.out, ← Bool.and_assoc, ← HB.out]; simp [h32])
                have hq : ((x.size : Int) == 32) = false := by simp; omega
                clear h32
                go_wp2
                go_round
                case rel => exact ⟨k + 1, false, by omega, by go_num, rfl, HN⟩
                case measure => simp [intOf]; omega
          · obtain rfl : k = l.length := by omega
            have hb : b = okSheet n l := by rw [HB.out, allT_full]; exact HOK.out
            cases b with
            | true =>
              have HE : Hid (chkN n l = 0) := Lib.hid (by unfold chkN; rw [← hb]; rfl)
              clear hb
              go_wp2_with fail
              all_goals go_ret
              all_goals exact ⟨congrArg (fun z => Ending.returned (Value.int .i64 z)) HE.out.symm, HK1.out⟩
            | false =>
              have HE : Hid (chkN n l = 3) := Lib.hid (by unfold chkN; rw [← hb]; rfl)
              clear hb
              go_wp2_with fail
              all_goals go_ret
              all_goals exact ⟨congrArg (fun z => Ending.returned (Value.int .i64 z)) HE.out.symm, HK1.out⟩
      · have HOK : Hid ((false && l.all fun s => s.size == 32) = okSheet n l) := Lib.hid (by unfold okSheet; rw [decide_eq_false (fun h => heq (by rw [← hm]; exact h.2.2))])
        have hq : ((l.length : Int) == m) = false := by simp [heq]
        clear heq
        refine Reg.wp_region_plan [⟨0, false, []⟩, ⟨1, false, []⟩, ⟨2, false, []⟩, ⟨3, false, []⟩, ⟨4, false, []⟩, ⟨5, false, []⟩, ⟨6, false, []⟩, ⟨7, false, []⟩, ⟨8, false, []⟩, ⟨9, false, []⟩, ⟨10, false, []⟩, ⟨11, false, []⟩, ⟨12, false, []⟩, ⟨13, false, []⟩, ⟨14, true, [9, 10, 11]⟩, ⟨15, false, []⟩, ⟨16, false, []⟩, ⟨17, false, []⟩] rfl (by kernel_rfl) ?_
        repeat (first | (refine Reg.look rfl rfl rfl (by go_simp; rfl) rfl ?_; go_simp) | (refine Reg.skip rfl rfl rfl ?_; go_simp))
        refine Reg.act rfl ?_
        go_wp2_with fail
        refine (c_count n _ h0 h1).mono ?_
        rintro e w2 ⟨rfl, rfl⟩
        rw [hm]
        go_wp2_with fail
        (refine ⟨?anew, ?_⟩; case anew => ((repeat (refine Reg.anew_cons rfl rfl (fun _ => by go_simp) ?_)); exact Reg.anew_nil))
        repeat (first | (refine Reg.look rfl rfl rfl (by go_simp; rfl) rfl ?_; go_simp) | (refine Reg.skip rfl rfl rfl ?_; go_simp))
        (refine Reg.done ?_; simp only [Exit.then])
        clear hq
        go_wp2_with fail
        obtain ⟨wo, hwo⟩ : ∃ wo : World, wo = w := ⟨_, rfl⟩
        go_loop [3, 26] (fun ov iv => ∃ (k : Nat) (b : Bool), k ≤ l.length ∧ iv = .int .i64 (k : Int) ∧ ov = .bool b ∧ Hid (b = (false && allT l k))) (fun _ iv => l.length - (intOf iv).toNat)
        case atStart => exact ⟨0, false, Nat.zero_le _, rfl, rfl, Lib.hid (by simp [allT])⟩
        case round =>
          obtain ⟨k, b, hk, rfl, rfl, HB⟩ := hrel
          by_cases hlt : k < l.length
          · obtain ⟨x, hx⟩ : ∃ x, l[k]? = some x := ⟨_, List.getElem?_eq_getElem hlt⟩
            obtain ⟨ad, rfl, _, hcell, _⟩ := Rp.at_str HL1.out hx
            have HST := Lib.hid (allT_step hx)
            clear hx
            cases b with
            | false =>
              have HN : Hid (false = (false && allT l (k + 1))) := Lib.hid (by rw [HST.out, ← Bool.and_assoc, ← HB.out]; rfl)
              go_wp2
              go_round
              case rel => exact ⟨k + 1, false, by omega, by go_num, rfl, HN⟩
              case measure => simp [intOf]; omega
            | true =>
              by_cases h32 : x.size = 32
              · have HN : Hid (true = (false && allT l (k + 1))) := Lib.hid (by rw [HST.out, ← Bool.and_assoc, ← HB.out]; simp [h32])
                have hq : ((x.size : Int) == 32) = true := by simp; omega
                clear h32
                go_wp2
                go_round
                case rel => exact ⟨k + 1, true, by omega, by go_num, rfl, HN⟩
                case measure => simp [intOf]; omega
              · have HN : Hid (false = (false && allT l (k + 1))) := Lib.hid (by rw [HST.out, ← Bool.and_assoc, ← HB.out]; simp [h32])
                have hq : ((x.size : Int) == 32) = false := by simp; omega
                clear h32
                go_wp2
                go_round
                case rel => exact ⟨k + 1, false, by omega, by go_num, rfl, HN⟩
                case measure => simp [intOf]; omega
          · obtain rfl : k = l.length := by omega
            have hb : b = okSheet n l := by rw [HB.out, allT_full]; exact HOK.out
            cases b with
            | true =>
              have HE : Hid (chkN n l = 0) := Lib.hid (by unfold chkN; rw [← hb]; rfl)
              clear hb
              go_wp2_with fail
              all_goals go_ret
              all_goals exact ⟨congrArg (fun z => Ending.returned (Value.int .i64 z)) HE.out.symm, HK1.out⟩
            | false =>
              have HE : Hid (chkN n l = 3) := Lib.hid (by unfold chkN; rw [← hb]; rfl)
              clear hb
              go_wp2_with fail
              all_goals go_ret
              all_goals exact ⟨congrArg (fun z => Ending.returned (Value.int .i64 z)) HE.out.symm, HK1.out⟩
    · have HOK : Hid ((false && l.all fun s => s.size == 32) = okSheet n l) := Lib.hid (by unfold okSheet; rw [decide_eq_false (fun h => hn1 h.2.1)])
      refine Reg.wp_region_plan [⟨0, false, []⟩, ⟨1, false, []⟩, ⟨2, false, []⟩, ⟨3, false, []⟩, ⟨4, false, []⟩, ⟨5, false, []⟩, ⟨6, false, []⟩, ⟨7, false, []⟩, ⟨8, false, []⟩, ⟨9, false, []⟩, ⟨10, false, []⟩, ⟨11, false, []⟩, ⟨12, false, []⟩, ⟨13, false, []⟩, ⟨14, true, [9, 10, 11]⟩, ⟨15, false, []⟩, ⟨16, false, []⟩, ⟨17, false, []⟩] rfl (by kernel_rfl) ?_
      repeat (first | (refine Reg.look rfl rfl rfl (by go_simp; rfl) rfl ?_; go_simp) | (refine Reg.skip rfl rfl rfl ?_; go_simp))
      refine Reg.act rfl ?_
      go_wp2_with fail
      (refine ⟨?anew, ?_⟩; case anew => ((repeat (refine Reg.anew_cons rfl rfl (fun h => by first | (go_simp; done) | exact Bool.noConfusion (show false = true from h)) ?_)); exact Reg.anew_nil))
      repeat (first | (refine Reg.look rfl rfl rfl (by go_simp; rfl) rfl ?_; go_simp) | (refine Reg.skip rfl rfl rfl ?_; go_simp))
      (refine Reg.done ?_; simp only [Exit.then])
      go_wp2_with fail
      obtain ⟨wo, hwo⟩ : ∃ wo : World, wo = w := ⟨_, rfl⟩
      go_loop [3, 26] (fun ov iv => ∃ (k : Nat) (b : Bool), k ≤ l.length ∧ iv = .int .i64 (k : Int) ∧ ov = .bool b ∧ Hid (b = (false && allT l k))) (fun _ iv => l.length - (intOf iv).toNat)
      case atStart => exact ⟨0, false, Nat.zero_le _, rfl, rfl, Lib.hid (by simp [allT])⟩
      case round =>
        obtain ⟨k, b, hk, rfl, rfl, HB⟩ := hrel
        by_cases hlt : k < l.length
        · obtain ⟨x, hx⟩ : ∃ x, l[k]? = some x := ⟨_, List.getElem?_eq_getElem hlt⟩
          obtain ⟨ad, rfl, _, hcell, _⟩ := Rp.at_str HL1.out hx
          have HST := Lib.hid (allT_step hx)
          clear hx
          cases b with
          | false =>
            have HN : Hid (false = (false && allT l (k + 1))) := Lib.hid (by rw [HST.out, ← Bool.and_assoc, ← HB.out]; rfl)
            go_wp2
            go_round
            case rel => exact ⟨k + 1, false, by omega, by go_num, rfl, HN⟩
            case measure => simp [intOf]; omega
          | true =>
            by_cases h32 : x.size = 32
            · have HN : Hid (true = (false && allT l (k + 1))) := Lib.hid (by rw [HST.out, ← Bool.and_assoc, ← HB.out]; simp [h32])
              have hq : ((x.size : Int) == 32) = true := by simp; omega
              clear h32
              go_wp2
              go_round
              case rel => exact ⟨k + 1, true, by omega, by go_num, rfl, HN⟩
              case measure => simp [intOf]; omega
            · have HN : Hid (false = (false && allT l (k + 1))) := Lib.hid (by rw [HST.out, ← Bool.and_assoc, ← HB.out]; simp [h32])
              have hq : ((x.size : Int) == 32) = false := by simp; omega
              clear h32
              go_wp2
              go_round
              case rel => exact ⟨k + 1, false, by omega, by go_num, rfl, HN⟩
              case measure => simp [intOf]; omega
        · obtain rfl : k = l.length := by omega
          have hb : b = okSheet n l := by rw [HB.out, allT_full]; exact HOK.out
          cases b with
          | true =>
            have HE : Hid (chkN n l = 0) := Lib.hid (by unfold chkN; rw [← hb]; rfl)
            clear hb
            go_wp2_with fail
            all_goals go_ret
            all_goals exact ⟨congrArg (fun z => Ending.returned (Value.int .i64 z)) HE.out.symm, HK1.out⟩
          | false =>
            have HE : Hid (chkN n l = 3) := Lib.hid (by unfold chkN; rw [← hb]; rfl)
            clear hb
            go_wp2_with fail
            all_goals go_ret
            all_goals exact ⟨congrArg (fun z => Ending.returned (Value.int .i64 z)) HE.out.symm, HK1.out⟩
  · have HOK : Hid ((false && l.all fun s => s.size == 32) = okSheet n l) := Lib.hid (by unfold okSheet; rw [decide_eq_false (fun h => hn0 h.1)])
    refine Reg.wp_region_plan [⟨0, false, []⟩, ⟨1, false, []⟩, ⟨2, false, []⟩, ⟨3, false, []⟩, ⟨4, false, []⟩, ⟨5, false, []⟩, ⟨6, false, []⟩, ⟨7, false, []⟩, ⟨8, false, []⟩, ⟨9, false, []⟩, ⟨10, false, []⟩, ⟨11, false, []⟩, ⟨12, false, []⟩, ⟨13, false, []⟩, ⟨14, true, [9, 10, 11]⟩, ⟨15, false, []⟩, ⟨16, false, []⟩, ⟨17, false, []⟩] rfl (by kernel_rfl) ?_
    repeat (first | (refine Reg.look rfl rfl rfl (by go_simp; rfl) rfl ?_; go_simp) | (refine Reg.skip rfl rfl rfl ?_; go_simp))
    refine Reg.act rfl ?_
    go_wp2_with fail
    (refine ⟨?anew, ?_⟩; case anew => ((repeat (refine Reg.anew_cons rfl rfl (fun h => by first | (go_simp; done) | exact Bool.noConfusion (show false = true from h)) ?_)); exact Reg.anew_nil))
    repeat (first | (refine Reg.look rfl rfl rfl (by go_simp; rfl) rfl ?_; go_simp) | (refine Reg.skip rfl rfl rfl ?_; go_simp))
    (refine Reg.done ?_; simp only [Exit.then])
    go_wp2_with fail
    obtain ⟨wo, hwo⟩ : ∃ wo : World, wo = w := ⟨_, rfl⟩
    go_loop [3, 26] (fun ov iv => ∃ (k : Nat) (b : Bool), k ≤ l.length ∧ iv = .int .i64 (k : Int) ∧ ov = .bool b ∧ Hid (b = (false && allT l k))) (fun _ iv => l.length - (intOf iv).toNat)
    case atStart => exact ⟨0, false, Nat.zero_le _, rfl, rfl, Lib.hid (by simp [allT])⟩
    case round =>
      obtain ⟨k, b, hk, rfl, rfl, HB⟩ := hrel
      by_cases hlt : k < l.length
      · obtain ⟨x, hx⟩ : ∃ x, l[k]? = some x := ⟨_, List.getElem?_eq_getElem hlt⟩
        obtain ⟨ad, rfl, _, hcell, _⟩ := Rp.at_str HL1.out hx
        have HST := Lib.hid (allT_step hx)
        clear hx
        cases b with
        | false =>
          have HN : Hid (false = (false && allT l (k + 1))) := Lib.hid (by rw [HST.out, ← Bool.and_assoc, ← HB.out]; rfl)
          go_wp2
          go_round
          case rel => exact ⟨k + 1, false, by omega, by go_num, rfl, HN⟩
          case measure => simp [intOf]; omega
        | true =>
          by_cases h32 : x.size = 32
          · have HN : Hid (true = (false && allT l (k + 1))) := Lib.hid (by rw [HST.out, ← Bool.and_assoc, ← HB.out]; simp [h32])
            have hq : ((x.size : Int) == 32) = true := by simp; omega
            clear h32
            go_wp2
            go_round
            case rel => exact ⟨k + 1, true, by omega, by go_num, rfl, HN⟩
            case measure => simp [intOf]; omega
          · have HN : Hid (false = (false && allT l (k + 1))) := Lib.hid (by rw [HST.out, ← Bool.and_assoc, ← HB.out]; simp [h32])
            have hq : ((x.size : Int) == 32) = false := by simp; omega
            clear h32
            go_wp2
            go_round
            case rel => exact ⟨k + 1, false, by omega, by go_num, rfl, HN⟩
            case measure => simp [intOf]; omega
      · obtain rfl : k = l.length := by omega
        have hb : b = okSheet n l := by rw [HB.out, allT_full]; exact HOK.out
        cases b with
        | true =>
          have HE : Hid (chkN n l = 0) := Lib.hid (by unfold chkN; rw [← hb]; rfl)
          clear hb
          go_wp2_with fail
          all_goals go_ret
          all_goals exact ⟨congrArg (fun z => Ending.returned (Value.int .i64 z)) HE.out.symm, HK1.out⟩
        | false =>
          have HE : Hid (chkN n l = 3) := Lib.hid (by unfold chkN; rw [← hb]; rfl)
          clear hb
          go_wp2_with fail
          all_goals go_ret
          all_goals exact ⟨congrArg (fun z => Ending.returned (Value.int .i64 z)) HE.out.symm, HK1.out⟩
end Go.Proofs.Ytbncblnchcmgbaa
