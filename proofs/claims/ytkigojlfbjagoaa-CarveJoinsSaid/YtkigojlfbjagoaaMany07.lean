/-
  many (layer 7): are texts together more than is played?
-/
import Derived.Test.YtkigojlfbjagoaaOwn
namespace Go.Proofs.Ytkigojlfbjagoaa
open Go.RowKit Go.ChangeShapes Go.WideShapes Go.ChangeAt
/-- are texts together more than is played? -/
def manyB (l : List ByteArray) : Bool := decide (8192 < (l.map fun s => 1 + min s.size 1048576).sum)
theorem sum_take_le (f : ByteArray → Nat) (l : List ByteArray) (k : Nat) : ((l.take k).map f).sum ≤ (l.map f).sum := by
  have : l = l.take k ++ l.drop k := (List.take_append_drop k l).symm
  rw [this, List.map_append, List.sum_append, ← this]
  omega
theorem manyB_length {l : List ByteArray} (h : manyB l = false) : l.length ≤ 8192 := by
  have : l.length ≤ (l.map fun s => 1 + min s.size 1048576).sum := by
    clear h
    induction l with
    | nil => simp
    | cons x l ih => simp only [List.length_cons, List.map_cons, List.sum_cons]; omega
  unfold manyB at h
  simp at h
  omega
/-- amid the counting -/
def ManyRel (l : List ByteArray) (k : Nat) (n : Nat) : Prop := n = ((l.take k).map fun s => 1 + min s.size 1048576).sum ∧ n ≤ 8192
theorem ManyRel.step {l k n x} (h : ManyRel l k n) (hx : l[k]? = some x) : (n + (1 + min x.size 1048576) ≤ 8192 → ManyRel l (k + 1) (n + (1 + min x.size 1048576))) ∧ (8192 < n + (1 + min x.size 1048576) → manyB l = true) := by
  obtain ⟨hlt, rfl⟩ := List.getElem?_eq_some_iff.1 hx
  have e : ((l.take (k + 1)).map fun s => 1 + min s.size 1048576).sum = n + (1 + min l[k].size 1048576) := by
    rw [List.take_succ_eq_append_getElem hlt, List.map_append, List.sum_append, ← h.1]
    simp
  refine ⟨fun hle => ⟨e.symm, hle⟩, fun hgt => ?_⟩
  unfold manyB
  have := sum_take_le (fun s => 1 + min s.size 1048576) l (k + 1)
  simp only [decide_eq_true_eq]
  omega
theorem ManyRel.stop {l n} (h : ManyRel l l.length n) : manyB l = false := by
  obtain ⟨h1, h2⟩ := h
  rw [List.take_length] at h1
  unfold manyB
  simp only [decide_eq_false_iff_not]
  omega

set_option maxRecDepth 100000 in
theorem h_many (l : List ByteArray) (A : Option Addr) (c : Nat) (w : World) (S : Nat → Prop) (hl : Rp.str.slice.R w S [.slice A l.length c] l) :
    Calls Try.prog 21 #[.slice A l.length c] w fun e w' => e = .returned (.bool (manyB l)) ∧ w = w' := by
  have hlen : l.length ≤ maxLen := by obtain ⟨_, _, _, h1, h2, _⟩ := hl; omega
  unfold maxLen at hlen
  have h0 : ManyRel l 0 0 := ⟨by simp, by omega⟩
  go_enter Try.func21, Try.ntmps21
  go_wp2
  go_loop [3, 8] (fun n i => ∃ (k m : Nat), k ≤ l.length ∧ i = .int .i64 k ∧ n = .int .i64 m ∧ ManyRel l k m) (fun _ i => l.length - (intOf i).toNat)
  case atStart => exact ⟨0, 0, Nat.zero_le _, rfl, rfl, h0⟩
  case round =>
    obtain ⟨k, m, hk, rfl, rfl, hr⟩ := hrel
    have hm := hr.2
    by_cases hlt : k < l.length
    · obtain ⟨y, hy⟩ : ∃ y, l[k]? = some y := ⟨_, List.getElem?_eq_getElem hlt⟩
      obtain ⟨ad, rfl, had, hv, hys⟩ := Rp.at_str hl hy
      unfold maxLen at hys
      have step := Lib.hid (hr.step hy)
      clear hr hl hy h0 had
      by_cases hbig : 1048576 < y.size
      · have hq := Lib.hid (step.out.2 (by omega))
        have hgt : (8192 : Int) < (m : Int) + (1 + if (1048576 : Int) < (y.size : Int) then 1048576 else (y.size : Int)) := by split <;> omega
        clear hbig
        go_wp2
        all_goals go_ret
        all_goals exact ⟨congrArg (fun b => Ending.returned (Value.bool b)) hq.out.symm, rfl⟩
      · go_wp2
        · have hgt : (8192 : Int) < m + (1 + y.size) := by assumption
          have hq := step.out.2 (by omega)
          clear step
          go_ret
          exact ⟨congrArg (fun b => Ending.returned (Value.bool b)) hq.symm, rfl⟩
        · have hle : (m : Int) + (1 + y.size) ≤ 8192 := by assumption
          go_round
          case rel => exact ⟨k + 1, m + (1 + min y.size 1048576), by omega, by go_num, by rw [Nat.min_eq_left (by omega)]; go_num, step.out.1 (by omega)⟩
          case measure => simp [intOf]; omega
    · obtain rfl : k = l.length := by omega
      have fin := Lib.hid hr.stop
      clear hr hl
      go_wp2
      go_ret
      exact ⟨congrArg (fun b => Ending.returned (Value.bool b)) fin.out.symm, rfl⟩
end Go.Proofs.Ytkigojlfbjagoaa
