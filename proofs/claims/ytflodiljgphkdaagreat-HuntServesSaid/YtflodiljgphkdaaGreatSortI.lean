/-
  The keys of a map of numbers, sorted.
-/
import Derived.Test.YtflodiljgphkdaaGreatSort
namespace Go.Proofs.YtflodiljgphkdaaGreat
open Go.RowKit Go.ChangeShapes Go.WideShapes Go.ChangeAt

theorem c_keys_int (m : Nat) (w : World) : Calls Tryz.prog 57 #[.map (some m)] w fun e w' => e = .returned (.func (.func 85) #[] #[.pointer (some ⟨w.heap.size, 0, none⟩)]) ∧ w' = w.alloc (.cells #[.map (some m)] 70) :=
  callsIn_wide.1 (sh_keys_int (some m) w)
theorem c_sorted_int (m : Nat) (l : List (ByteArray × Value)) (w : World) (hM : MapOf w m Value.string l) (hs : ∀ p ∈ l, p.1.size ≤ maxLen) (hn : l.length ≤ 2000000) :
    Calls Tryz.prog 56 #[.func (.func 85) #[] #[.pointer (some ⟨w.heap.size, 0, none⟩)]] (w.alloc (.cells #[.map (some m)] 70)) fun e w' =>
      ∃ A c, e = .returned (.slice A (sortedN (l.map (·.1))).length c) ∧ Own Rp.str w' No (w.heap.size + 1) 9 (.slice A (sortedN (l.map (·.1))).length c) (sortedN (l.map (·.1))) ∧ Kp No w w' := by
  obtain ⟨D0, h1, h2, h3⟩ := hM.owns (P := Tryz.prog) 9 Tryz.underlying9 hs (by unfold maxLen; omega)
  refine (callsIn_wide.1 (sh_sorted_int m l.length D0 _ w h1 (by rw [h3]; unfold maxLen; omega) (by rw [h3]; omega))).mono ?_
  rintro e w' ⟨v, ss, rfl, hp, hrow, _, hb⟩
  have hown := own_of_sorted (l := l.map (·.1)) hrow (by rw [List.map_map]; exact hp.trans h2) (fun s hs' => by obtain ⟨p, hp, rfl⟩ := List.mem_map.1 hs'; exact hs p hp)
  have e1 : (w.alloc (.cells #[.map (some m)] 70)).heap.size = w.heap.size + 1 := by simp
  rw [e1] at hown
  obtain ⟨A, c, rfl⟩ := hown.shape
  exact ⟨A, c, rfl, hown, ((Kp.refl No w).alloc _).transNo (Kp.ofBelow hb (Nat.le_refl _))⟩
end Go.Proofs.YtflodiljgphkdaaGreat
