/-
  redoubtlaw10.great, of one call: it answers.
-/
import Derived.Test.YtflodiljgphkdaaVlt5
namespace Go.Proofs.Ytflodiljgphkdaa
open Go.RowKit Go.ChangeShapes Go.WideShapes Go.ChangeAt

set_option maxRecDepth 100000 in
set_option maxHeartbeats 2000000 in
theorem h_great10 (w : World) (g : Nat) (l : List ByteArray) (A : Option Addr) (c : Nat) (S : Nat → Prop) (hb : Blk w g 59 [.int .i64 0, .string ⟨#[]⟩, .slice A l.length c, .string ⟨#[]⟩, .int .i64 0, .slice none 0 0])
    (hl : Rp.str.slice.R w S [.slice A l.length c] l) :
    Calls Try.prog 33 #[.slice (some ⟨g, 0, none⟩) 1 1] w fun e w' => (∃ B, e = .returned (.bool B)) ∧ Kp No w w' := by
  have HB := Lib.hid hb
  have HL := Lib.hid hl
  have hll : (l.length : Int) ≤ 9223372036854775807 := by obtain ⟨_, _, he, h1, h2, _⟩ := hl; unfold maxLen at h2; omega
  clear hb hl
  go_enter Try.func33, Try.ntmps33
  go_wp2_with fail
  go_loopw [3, 10] (fun nv iv wr => ∃ (i : Nat) (x : Int), i ≤ 1 ∧ iv = .int .i64 (i : Int) ∧ nv = .int .i64 x ∧ Hid (Kp No w wr)) (fun _ iv _ => 1 - (intOf iv).toNat)
  case atStart => exact ⟨0, 0, by omega, rfl, rfl, Lib.hid (Kp.refl _ _)⟩
  case round =>
    obtain ⟨i, x, hi, rfl, rfl, HK⟩ := hrel
    by_cases h0 : i = 0
    · subst h0
      have hb := HB.out.kept HK.out (fun x => x)
      have c0 : wr.cell? ⟨g, 0, none⟩ = some (.int .i64 0) := hb.cell rfl
      have c1 : wr.cell? ⟨g, 1, none⟩ = some (.string ⟨#[]⟩) := hb.cell rfl
      have c2 : wr.cell? ⟨g, 2, none⟩ = some (.slice A l.length c) := hb.cell rfl
      have c3 : wr.cell? ⟨g, 3, none⟩ = some (.string ⟨#[]⟩) := hb.cell rfl
      have c4 : wr.cell? ⟨g, 4, none⟩ = some (.int .i64 0) := hb.cell rfl
      have c5 : wr.cell? ⟨g, 5, none⟩ = some (.slice none 0 0) := hb.cell rfl
      clear hb
      go_wp2_with fail
      · go_ret
        exact ⟨⟨_, rfl⟩, HK.out.alloc _⟩
      · clear c0 c1 c2 c3 c4 c5
        go_loopw [3, 39] (fun nv iv wr2 => ∃ (j : Nat) (y : Int), j ≤ l.length ∧ iv = .int .i64 (j : Int) ∧ nv = .int .i64 y ∧ Hid (Kp No w wr2)) (fun _ iv _ => l.length - (intOf iv).toNat)
        case atStart => exact ⟨0, _, Nat.zero_le _, rfl, rfl, Lib.hid (HK.out.alloc _)⟩
        case round =>
          obtain ⟨j, y, hj, rfl, rfl, HK2⟩ := hrel
          by_cases hlt : j < l.length
          · have hli : (j : Int) < (l.length : Int) := by omega
            obtain ⟨s, hs⟩ : ∃ s, l[j]? = some s := ⟨_, List.getElem?_eq_getElem hlt⟩
            obtain ⟨ad, rfl, _, hcell, _⟩ := Rp.at_str (Rp.str.slice.keptNo HL.out HK2.out) hs
            clear hs
            go_wp2_with fail
            all_goals first
              | (go_ret
                 exact ⟨⟨_, rfl⟩, HK2.out⟩)
              | (go_roundw
                 case rel => exact ⟨j + 1, _, by omega, by go_num, rfl, HK2⟩
                 case measure => simp [intOf]; omega)
          · obtain rfl : j = l.length := by omega
            go_wp2_with fail
            go_roundw
            case rel => exact ⟨1, _, by omega, by go_num, rfl, HK2⟩
            case measure => simp [intOf]
    · obtain rfl : i = 1 := by omega
      go_wp2_with fail
      go_ret
      exact ⟨⟨_, rfl⟩, HK.out⟩
end Go.Proofs.Ytflodiljgphkdaa
