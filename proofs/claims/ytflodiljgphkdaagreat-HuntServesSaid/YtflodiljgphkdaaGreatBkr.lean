/-
  The reference's bucket: New, Take.
-/
import Derived.Test.YtflodiljgphkdaaGreatBkt
import Derived.Test.YtflodiljgphkdaaGreatReg
namespace Go.Proofs.YtflodiljgphkdaaGreat
open Go.RowKit Go.ChangeShapes Go.WideShapes Go.ChangeAt

/-- The reference's bucket: rate, burst, what it holds. -/
def Rk (w : World) (b : Nat) (r u h : Int) : Prop :=
  w.heap[b]? = some (.cells #[.int .i64 r, .int .i64 u, .int .i64 h] 57 (0, 0)) ∧ 1 ≤ r ∧ r ≤ 4096 ∧ 64 ≤ u ∧ u ≤ 16384 ∧ 0 ≤ h ∧ h ≤ u
theorem Rk.lt {w b r u s} (h : Rk w b r u s) : b < w.heap.size := by
  rcases Nat.lt_or_ge b w.heap.size with hlt | hge
  · exact hlt
  · have := h.1; rw [Array.getElem?_eq_none hge] at this; cases this
theorem Rk.c0 {w b r u s} (h : Rk w b r u s) : w.cell? ⟨b, 0, none⟩ = some (.int .i64 r) := by simp [World.cell?, h.1]
theorem Rk.c1 {w b r u s} (h : Rk w b r u s) : w.cell? ⟨b, 1, none⟩ = some (.int .i64 u) := by simp [World.cell?, h.1]
theorem Rk.c2 {w b r u s} (h : Rk w b r u s) : w.cell? ⟨b, 2, none⟩ = some (.int .i64 s) := by simp [World.cell?, h.1]
theorem Rk.fr {w b r u s} (h : Rk w b r u s) (i : Nat) : w.frozen? ⟨b, i, none⟩ = false := by simp [World.frozen?, h.1]
theorem Rk.kept {w w' b r u s} {S : Nat → Prop} (h : Rk w b r u s) (hk : Kp S w w') (hs : ¬ S b) : Rk w' b r u s := ⟨(hk.block b h.lt hs).trans h.1, h.2⟩
theorem Rk.drewN {w b r u s} (h : Rk w b r u s) (n : Nat) : Rk (w.drewN n) b r u s := h
theorem Rk.drew {w b r u s} (h : Rk w b r u s) : Rk w.drew b r u s := h
theorem Rk.set {w b r u s} (h : Rk w b r u s) {x : Int} (h0 : 0 ≤ x) (h1 : x ≤ u) : Rk (w.setCell ⟨b, 2, none⟩ (.int .i64 x)) b r u x := by
  refine ⟨?_, h.2.1, h.2.2.1, h.2.2.2.1, h.2.2.2.2.1, h0, h1⟩
  simp [World.setCell, Array.getElem?_modify, h.1]

theorem r_new_bad (r b : Int) (w : World) (h : r < 1 ∨ 4096 < r ∨ b < 64 ∨ 16384 < b) :
    Calls Tryz.prog 17 #[.int .i64 r, .int .i64 b] w fun e w' => e = .returned (.tuple #[.pointer none, .int .i64 1]) ∧ w = w' := by
  go_enter Tryz.func17, Tryz.ntmps17
  go_wp2
  all_goals first | (exfalso; omega) | (go_ret2; exact ⟨rfl, rfl⟩)
theorem r_new_ok (r b : Int) (w : World) (h1 : 1 ≤ r) (h2 : r ≤ 4096) (h3 : 64 ≤ b) (h4 : b ≤ 16384) :
    Calls Tryz.prog 17 #[.int .i64 r, .int .i64 b] w fun e w' => e = .returned (.tuple #[.pointer (some ⟨w.heap.size, 0, none⟩), .int .i64 0]) ∧ Rk w' w.heap.size r b b ∧ Kp No w w' := by
  go_enter Tryz.func17, Tryz.ntmps17
  go_wp2
  go_ret2
  exact ⟨rfl, ⟨heap_alloc_new w _, h1, h2, h3, h4, by omega, by omega⟩, (Kp.refl _ _).alloc _⟩

/-- amid the reference's taking -/
def RtRel (b : Nat) (r u s : Int) (l : List Int) (w : World) (k : Nat) (h : Int) (wr : World) : Prop :=
  take s l = (k + (take h (l.drop k)).1, (take h (l.drop k)).2) ∧ Rk wr b r u h ∧ Kp (· = b) w wr
theorem RtRel.step {b r u s l w k h wr x} (hr : RtRel b r u s l w k h wr) (hx : l[k]? = some x) (h0 : 0 ≤ x) (h1 : x ≤ h) {w' : World} (hw : Rk w' b r u (h - x)) (hk : Kp (· = b) w w') :
    RtRel b r u s l w (k + 1) (h - x) w' := by
  obtain ⟨h2, _, _⟩ := hr
  refine ⟨?_, hw, hk⟩
  obtain ⟨hkl, rfl⟩ := List.getElem?_eq_some_iff.1 hx
  rw [h2, List.drop_eq_getElem_cons hkl]
  rw [show take h (l[k] :: l.drop (k + 1)) = ((take (h - l[k]) (l.drop (k+1))).1 + 1, (take (h - l[k]) (l.drop (k+1))).2) by rw [take, if_neg (by omega)]]
  simp only [Prod.mk.injEq, and_true]
  omega
theorem RtRel.stop {b r u s l w k h wr} (hr : RtRel b r u s l w k h wr) (hx : k = l.length ∨ ∃ x, l[k]? = some x ∧ (x < 0 ∨ h < x)) :
    k = (take s l).1 ∧ Rk wr b r u (take s l).2 ∧ Kp (· = b) w wr := by
  obtain ⟨h2, h3, h4⟩ := hr
  have : take h (l.drop k) = (0, h) := by
    rcases hx with rfl | ⟨x, hx, hn⟩
    · simp [take]
    · obtain ⟨hkl, rfl⟩ := List.getElem?_eq_some_iff.1 hx
      rw [List.drop_eq_getElem_cons hkl, take, if_pos hn]
  rw [h2, this]
  exact ⟨by simp, h3, h4⟩

set_option maxHeartbeats 2000000 in
theorem r_take (b : Nat) (r u s : Int) (l : List Int) (A : Option Addr) (c : Nat) (w : World) (S : Nat → Prop) (h : Rk w b r u s) (hl : (Rp.int .i64).slice.R w S [.slice A l.length c] l) (hS : ¬ S b) :
    Calls Tryz.prog 55 #[.pointer (some ⟨b, 0, none⟩), .slice A l.length c] w fun e w' =>
      e = .returned (.int .i64 (take s l).1) ∧ Rk w' b r u (take s l).2 ∧ Kp (· = b) w w' := by
  have hlen : l.length ≤ maxLen := by obtain ⟨_, _, _, h1, h2, _⟩ := hl; omega
  unfold maxLen at hlen
  have h0 : RtRel b r u s l w 0 s w := ⟨by simp, h, Kp.refl _ _⟩
  have hu := h.2
  go_enter Tryz.func55, Tryz.ntmps55
  go_wp2
  go_loopw [5] (fun i wr => ∃ (k : Nat) (x : Int), k ≤ l.length ∧ i = .int .i64 k ∧ RtRel b r u s l w k x wr) (fun i _ => l.length - (intOf i).toNat)
  case atStart => exact ⟨0, _, Nat.zero_le _, rfl, h0⟩
  case round =>
    obtain ⟨k, x, hk, rfl, hr⟩ := hrel
    have hb := hr.2.1
    have hkp := hr.2.2
    have hs := (Rp.slice _).kept hl hkp (fun i hi _ e => hS (e ▸ hi))
    have c2 := hb.c2
    have hf := hb.fr 2
    have hu := hb.2
    by_cases hlt : k < l.length
    · obtain ⟨y, hy⟩ : ∃ y, l[k]? = some y := ⟨_, List.getElem?_eq_getElem hlt⟩
      obtain ⟨ad, rfl, had, hv, hwy⟩ := Rp.at_int hs hy
      have hne : ad.block ≠ b := fun e => hS (e ▸ had)
      have hby := bounds_i64 hwy
      have stop := Lib.hid fun h => hr.stop (.inr ⟨y, hy, h⟩)
      have step := Lib.hid fun h0 h1 w' => hr.step hy h0 h1 (w' := w')
      have HB := Lib.hid hb
      have HK := Lib.hid hkp
      clear hr hs hl hb hkp hy h h0 had
      by_cases hneg : y < 0
      · have hd : decide (y < 0) = true := by simpa using hneg
        go_wp2
        refine Reg.wp_region_plan [⟨0, false, []⟩, ⟨1, false, []⟩, ⟨2, false, []⟩, ⟨3, false, []⟩, ⟨4, false, []⟩, ⟨5, false, []⟩, ⟨6, false, []⟩, ⟨7, false, []⟩, ⟨8, false, []⟩, ⟨9, false, []⟩, ⟨10, false, []⟩, ⟨11, false, []⟩, ⟨12, false, []⟩, ⟨13, false, []⟩, ⟨14, false, []⟩, ⟨15, false, []⟩] rfl (by kernel_rfl) ?_
        repeat (first | (refine Reg.look rfl rfl rfl (by go_simp; rfl) rfl ?_; go_simp) | (refine Reg.skip rfl rfl rfl ?_; go_simp))
        (refine Reg.done ?_; simp only [Exit.then])
        go_wp2
        go_ret
        have fin := stop.out (by omega)
        exact ⟨ret_int (by rw [← fin.1]), fin.2.1.drew, fin.2.2.drew⟩
      · have hd : decide (y < 0) = false := by simpa using hneg
        by_cases hgt : x < y
        · have hd2 : decide (x < y) = true := by simpa using hgt
          go_wp2
          refine Reg.wp_region_plan [⟨0, false, []⟩, ⟨1, false, []⟩, ⟨2, false, []⟩, ⟨3, false, []⟩, ⟨4, false, []⟩, ⟨5, false, []⟩, ⟨6, false, []⟩, ⟨7, false, []⟩, ⟨8, false, []⟩, ⟨9, false, []⟩, ⟨10, false, []⟩, ⟨11, false, []⟩, ⟨12, false, []⟩, ⟨13, false, []⟩, ⟨14, false, []⟩, ⟨15, false, []⟩] rfl (by kernel_rfl) ?_
          repeat (first | (refine Reg.look rfl rfl rfl (by go_simp; rfl) rfl ?_; go_simp) | (refine Reg.skip rfl rfl rfl ?_; go_simp))
          (refine Reg.done ?_; simp only [Exit.then])
          go_wp2
          go_ret
          have fin := stop.out (by omega)
          exact ⟨ret_int (by rw [← fin.1]), fin.2.1.drew, fin.2.2.drew⟩
        · have hd2 : decide (x < y) = false := by simpa using hgt
          go_wp2
          refine Reg.wp_region_plan [⟨0, false, []⟩, ⟨1, false, []⟩, ⟨2, false, []⟩, ⟨3, false, []⟩, ⟨4, false, []⟩, ⟨5, false, []⟩, ⟨6, false, []⟩, ⟨7, false, []⟩, ⟨8, false, []⟩, ⟨9, false, []⟩, ⟨10, false, []⟩, ⟨11, false, []⟩, ⟨12, false, []⟩, ⟨13, false, []⟩, ⟨14, false, []⟩, ⟨15, false, []⟩] rfl (by kernel_rfl) ?_
          repeat (first | (refine Reg.look rfl rfl rfl (by go_simp; rfl) rfl ?_; go_simp) | (refine Reg.skip rfl rfl rfl ?_; go_simp))
          (refine Reg.done ?_; simp only [Exit.then])
          go_wp2
          refine Reg.wp_region_plan [⟨0, false, []⟩, ⟨1, false, []⟩, ⟨2, false, []⟩, ⟨3, false, []⟩, ⟨4, false, []⟩, ⟨5, false, []⟩, ⟨6, false, []⟩, ⟨7, false, []⟩, ⟨8, false, []⟩, ⟨9, false, []⟩, ⟨10, false, []⟩, ⟨11, true, []⟩] rfl (by kernel_rfl) ?_
          repeat (first | (refine Reg.look rfl rfl rfl (by go_simp; rfl) rfl ?_; go_simp) | (refine Reg.skip rfl rfl rfl ?_; go_simp))
          refine Reg.act rfl ?_
          go_wp2
          refine ⟨Reg.anew_nil, ?_⟩
          (refine Reg.done ?_; simp only [Exit.then])
          go_wp2
          go_roundw
          case rel => exact ⟨k + 1, x - y, by omega, by go_num, step.out (by omega) (by omega) _ (Rk.set HB.out (by omega) (by omega)).drew.drew (HK.out.setCell (p := ⟨b, 2, none⟩) (fun _ => rfl) _).drew.drew⟩
          case measure => simp [intOf]; omega
    · have fin := hr.stop (.inl (by omega))
      clear hr hs hl
      go_wp2
      go_ret
      exact ⟨ret_int (by rw [← fin.1]; omega), fin.2⟩
end Go.Proofs.YtflodiljgphkdaaGreat
