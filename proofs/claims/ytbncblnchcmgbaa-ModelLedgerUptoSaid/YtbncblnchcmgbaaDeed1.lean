/-
  deed: reigned, bare, blank, CheckOp.
-/
import Derived.Test.YtbncblnchcmgbaaDeedL
import Derived.Deep.DeepCutAuto
namespace Go.Proofs.Ytbncblnchcmgbaa
open Go.RowKit Go.ChangeShapes Go.WideShapes Go.ChangeAt

theorem size_ne {s : ByteArray} (h : s.size ≠ 0) : (!s.toList.isEmpty) = true ∧ s.toList.isEmpty = false := by
  have : s.toList.isEmpty = false := by
    rw [ByteArray.toList_eq]
    cases hl : s.data.toList with
    | nil =>
      have h2 : s.data.toList.length = s.size := by rw [Array.length_toList]; rfl
      rw [hl] at h2
      exact absurd h2.symm h
    | cons => rfl
  exact ⟨by rw [this]; rfl, this⟩
theorem size_eq {s : ByteArray} (h : s.size = 0) : s = ⟨#[]⟩ := by
  apply ByteArray.ext
  exact Array.eq_empty_of_size_eq_zero h
/-- an operation as a value -/
def opV (o : OpL) (v : Value) : Value := .agg #[.int .i64 o.n, .int .i64 o.epoch, .int .i64 o.kind, .int .i64 o.site, .int .i64 o.client, .int .i64 o.seq, .string o.name, .int .i64 o.size, v]
set_option maxRecDepth 100000 in
theorem c_reigned (e s : Int) (w : World) : Calls Try.prog 89 #[.int .i64 e, .int .i64 s] w fun x w' => x = .returned (.bool (decide (reignP e s))) ∧ w' = w := by
  by_cases h : reignP e s
  · rw [decide_eq_true h]
    obtain ⟨h1, h2, h3, h4⟩ := h
    have h4' : s < 2 := by omega
    go_enter Try.func89, Try.ntmps89
    go_wp2_with fail
    go_ret
    exact ⟨rfl, rfl⟩
  · rw [decide_eq_false h]
    unfold reignP at h
    have HN := Lib.hid h
    clear h
    go_enter Try.func89, Try.ntmps89
    go_wp2_with fail
    all_goals
      go_ret
      first
        | exact ⟨rfl, rfl⟩
        | (exfalso; have := HN.out; omega)
        | (refine ⟨?_, rfl⟩; have := HN.out; simp; omega)
set_option maxRecDepth 100000 in
theorem c_bare (n : Int) (l : List ByteArray) (A : Option Addr) (c : Nat) (w : World) : Calls Try.prog 95 #[.agg #[.int .i64 n, .slice A l.length c]] w fun x w' => x = .returned (.bool (decide (n = 0 ∧ l.length = 0))) ∧ Kp No w w' := by
  have hk := (Kp.refl No w).alloc (.cells #[.int .i64 n, .slice A l.length c] 36)
  have HK := Lib.hid hk
  clear hk
  by_cases h0 : n = 0
  · subst h0
    by_cases hl : l.length = 0
    · have hli : ((l.length : Int) == 0) = true := by simp [hl]
      rw [decide_eq_true ⟨rfl, hl⟩]
      clear hl
      go_enter Try.func95, Try.ntmps95
      go_wp2_with fail
      go_ret
      exact ⟨rfl, HK.out⟩
    · have hli : ((l.length : Int) == 0) = false := beq_eq_false_iff_ne.2 (by omega)
      rw [decide_eq_false (fun h => hl h.2)]
      clear hl
      go_enter Try.func95, Try.ntmps95
      go_wp2_with fail
      go_ret
      exact ⟨rfl, HK.out⟩
  · have hn : (n == 0) = false := beq_eq_false_iff_ne.2 h0
    rw [decide_eq_false (fun h => h0 h.1)]
    go_enter Try.func95, Try.ntmps95
    go_wp2_with fail
    go_ret
    exact ⟨rfl, HK.out⟩
set_option maxRecDepth 100000 in
set_option maxHeartbeats 1000000 in
theorem c_blank (o : OpL) (A : Option Addr) (c : Nat) (w : World) : Calls Try.prog 87 #[opV o (.slice A o.hashes.length c)] w fun x w' => x = .returned (.bool (decide (blankP o))) ∧ Kp No w w' := by
  obtain ⟨B, hB⟩ : ∃ B, decide (blankP o) = B := ⟨_, rfl⟩
  rw [hB]
  have HB := Lib.hid hB
  clear hB
  have hb := fun w1 => c_bare o.size o.hashes A c w1
  have HBA := Lib.hid hb
  clear hb
  unfold opV
  obtain ⟨n, ep, k, st, cl, sq, nm, sz, hs⟩ := o
  simp only at HBA ⊢
  have HK : Hid (Kp No w (w.alloc (.cells #[.int .i64 n, .int .i64 ep, .int .i64 k, .int .i64 st, .int .i64 cl, .int .i64 sq, .string nm, .int .i64 sz, .slice A hs.length c] 38))) := Lib.hid ((Kp.refl _ _).alloc _)
  by_cases h1 : cl = 0
  · by_cases h2 : sq = 0
    · by_cases h3 : nm.size = 0
      · obtain rfl := size_eq h3
        obtain ⟨B2, hB2⟩ : ∃ B2, decide (sz = 0 ∧ hs.length = 0) = B2 := ⟨_, rfl⟩
        rw [hB2] at HBA
        have HBB : Hid (B = B2) := Lib.hid (by rw [← HB.out, ← hB2]; unfold blankP bareP; simp [h1, h2, h3])
        subst h1 h2
        clear hB2 h3 HB
        go_enter Try.func87, Try.ntmps87
        go_wp2_with fail
        refine (HBA.out _).mono ?_
        rintro e w2 ⟨rfl, hk⟩
        have HK2 := Lib.hid (HK.out.trans' hk)
        clear hk
        go_wp2_with fail
        go_ret
        exact ⟨by rw [HBB.out]; rfl, HK2.out⟩
      · obtain ⟨h4, h5⟩ := size_ne h3
        have HBB : Hid (B = false) := Lib.hid (by rw [← HB.out]; unfold blankP; simp [h3])
        clear h3 HB
        subst h1 h2
        go_enter Try.func87, Try.ntmps87
        go_wp2_with fail
        go_ret
        exact ⟨by rw [HBB.out]; rfl, HK.out⟩
    · have HBB : Hid (B = false) := Lib.hid (by rw [← HB.out]; unfold blankP; simp [h2])
      have h2b : (sq == 0) = false := beq_eq_false_iff_ne.2 h2
      clear HB
      subst h1
      go_enter Try.func87, Try.ntmps87
      go_wp2_with fail
      go_ret
      exact ⟨by rw [HBB.out]; rfl, HK.out⟩
  · have HBB : Hid (B = false) := Lib.hid (by rw [← HB.out]; unfold blankP; simp [h1])
    have h1b : (cl == 0) = false := beq_eq_false_iff_ne.2 h1
    clear HB
    go_enter Try.func87, Try.ntmps87
    go_wp2_with fail
    go_ret
    exact ⟨by rw [HBB.out]; rfl, HK.out⟩
end Go.Proofs.Ytbncblnchcmgbaa
