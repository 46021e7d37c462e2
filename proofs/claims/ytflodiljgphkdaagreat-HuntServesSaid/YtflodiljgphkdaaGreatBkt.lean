/-
  The bucket: New, Left, Take.
-/
import Derived.Test.YtflodiljgphkdaaGreatOwn
namespace Go.Proofs.YtflodiljgphkdaaGreat
open Go.RowKit Go.ChangeShapes Go.WideShapes Go.ChangeAt

theorem elem_intB : Elem Tryz.prog 23 3 1 8 := Elem.of Tryz.underlying23 (z := .int .i64 0) (by kernel_rfl) rfl (by decide)

/-! layer 16: the bucket -/
theorem b_new_bad (r b : Int) (w : World) (h : r < 1 ∨ 4096 < r ∨ b < 64 ∨ 16384 < b) :
    Calls Tryz.prog 16 #[.int .i64 r, .int .i64 b] w fun e w' => e = .returned (.tuple #[.pointer none, .int .i64 1]) ∧ w = w' := by
  go_enter Tryz.func16, Tryz.ntmps16
  go_wp2
  all_goals first | (exfalso; omega) | (go_ret2; exact ⟨rfl, rfl⟩)

/-- A bucket: rate, burst, what went of it. -/
def Bk (w : World) (b : Nat) (r u s : Int) : Prop :=
  w.heap[b]? = some (.cells #[.int .i64 r, .int .i64 u, .int .i64 s] 102 (0, 0)) ∧ 1 ≤ r ∧ r ≤ 4096 ∧ 64 ≤ u ∧ u ≤ 16384 ∧ 0 ≤ s ∧ s ≤ u

theorem Bk.lt {w b r u s} (h : Bk w b r u s) : b < w.heap.size := by
  rcases Nat.lt_or_ge b w.heap.size with hlt | hge
  · exact hlt
  · have := h.1; rw [Array.getElem?_eq_none hge] at this; cases this
theorem Bk.c0 {w b r u s} (h : Bk w b r u s) : w.cell? ⟨b, 0, none⟩ = some (.int .i64 r) := by simp [World.cell?, h.1]
theorem Bk.c1 {w b r u s} (h : Bk w b r u s) : w.cell? ⟨b, 1, none⟩ = some (.int .i64 u) := by simp [World.cell?, h.1]
theorem Bk.c2 {w b r u s} (h : Bk w b r u s) : w.cell? ⟨b, 2, none⟩ = some (.int .i64 s) := by simp [World.cell?, h.1]
theorem Bk.fr {w b r u s} (h : Bk w b r u s) (i : Nat) : w.frozen? ⟨b, i, none⟩ = false := by simp [World.frozen?, h.1]
theorem Bk.kept {w w' b r u s} {S : Nat → Prop} (h : Bk w b r u s) (hk : Kp S w w') (hs : ¬ S b) : Bk w' b r u s := ⟨(hk.block b h.lt hs).trans h.1, h.2⟩
theorem Bk.bd {w b r u s} (h : Bk w b r u s) : 0 ≤ s ∧ s ≤ u := h.2.2.2.2.2
theorem Bk.drew {w b r u s} (h : Bk w b r u s) : Bk w.drew b r u s := h
theorem Bk.drewN {w b r u s} (h : Bk w b r u s) (n : Nat) : Bk (w.drewN n) b r u s := h
theorem Bk.set {w b r u s} (h : Bk w b r u s) {x : Int} (h0 : 0 ≤ x) (h1 : x ≤ u) : Bk (w.setCell ⟨b, 2, none⟩ (.int .i64 x)) b r u x := by
  refine ⟨?_, h.2.1, h.2.2.1, h.2.2.2.1, h.2.2.2.2.1, h0, h1⟩
  simp [World.setCell, Array.getElem?_modify, h.1]

theorem b_new_ok (r b : Int) (w : World) (h1 : 1 ≤ r) (h2 : r ≤ 4096) (h3 : 64 ≤ b) (h4 : b ≤ 16384) :
    Calls Tryz.prog 16 #[.int .i64 r, .int .i64 b] w fun e w' => e = .returned (.tuple #[.pointer (some ⟨w.heap.size, 0, none⟩), .int .i64 0]) ∧ Bk w' w.heap.size r b 0 ∧ Kp No w w' := by
  go_enter Tryz.func16, Tryz.ntmps16
  go_wp2
  go_ret2
  exact ⟨rfl, ⟨heap_alloc_new w _, h1, h2, h3, h4, by omega, by omega⟩, (Kp.refl _ _).alloc _⟩

theorem b_left (b : Nat) (r u s : Int) (w : World) (h : Bk w b r u s) :
    Calls Tryz.prog 22 #[.pointer (some ⟨b, 0, none⟩)] w fun e w' => e = .returned (.int .i64 (u - s)) ∧ ∃ n, w' = w.drewN n := by
  have c1 := h.c1
  have c2 := h.c2
  obtain ⟨_, h1, h2, h3, h4, h5, h6⟩ := h
  go_enter Tryz.func22, Tryz.ntmps22
  go_wp2
  go_quiet (fail)
  go_wp2
  go_ret
  exact ⟨rfl, _, rfl⟩

def take : Int → List Int → Nat × Int
  | h, [] => (0, h)
  | h, x :: l => if x < 0 ∨ h < x then (0, h) else ((take (h - x) l).1 + 1, (take (h - x) l).2)

theorem ret_int {k : IntKind} {a b : Int} (h : a = b) : Ending.returned (.int k a) = .returned (.int k b) := by rw [h]
/-- amid a taking: k of them went, h are left -/
def TkRel (b : Nat) (r u s : Int) (l : List Int) (w : World) (k : Nat) (h : Int) (wr : World) : Prop :=
  take (u - s) l = (k + (take h (l.drop k)).1, (take h (l.drop k)).2) ∧ Bk wr b r u (u - h) ∧ Kp (· = b) w wr

theorem TkRel.step {b r u s l w k h wr x} (hr : TkRel b r u s l w k h wr) (hx : l[k]? = some x) (h0 : 0 ≤ x) (h1 : x ≤ h) {w' : World} (hw : Bk w' b r u (u - (h - x))) (hk : Kp (· = b) w w') :
    TkRel b r u s l w (k + 1) (h - x) w' := by
  obtain ⟨h2, _, _⟩ := hr
  refine ⟨?_, hw, hk⟩
  obtain ⟨hkl, rfl⟩ := List.getElem?_eq_some_iff.1 hx
  rw [h2, List.drop_eq_getElem_cons hkl]
  rw [show take h (l[k] :: l.drop (k + 1)) = ((take (h - l[k]) (l.drop (k+1))).1 + 1, (take (h - l[k]) (l.drop (k+1))).2) by rw [take, if_neg (by omega)]]
  simp only [Prod.mk.injEq, and_true]
  omega
theorem TkRel.stop {b r u s l w k h wr} (hr : TkRel b r u s l w k h wr) (hx : k = l.length ∨ ∃ x, l[k]? = some x ∧ (x < 0 ∨ h < x)) :
    k = (take (u - s) l).1 ∧ Bk wr b r u (u - (take (u - s) l).2) ∧ Kp (· = b) w wr := by
  obtain ⟨h2, h3, h4⟩ := hr
  have : take h (l.drop k) = (0, h) := by
    rcases hx with rfl | ⟨x, hx, hn⟩
    · simp [take]
    · obtain ⟨hkl, rfl⟩ := List.getElem?_eq_some_iff.1 hx
      rw [List.drop_eq_getElem_cons hkl, take, if_pos hn]
  rw [h2, this]
  exact ⟨by simp, h3, h4⟩

theorem b_take (b : Nat) (r u s : Int) (l : List Int) (A : Option Addr) (c : Nat) (w : World) (S : Nat → Prop) (h : Bk w b r u s) (hl : (Rp.int .i64).slice.R w S [.slice A l.length c] l) (hS : ¬ S b) :
    Calls Tryz.prog 53 #[.pointer (some ⟨b, 0, none⟩), .slice A l.length c] w fun e w' =>
      e = .returned (.int .i64 (take (u - s) l).1) ∧ Bk w' b r u (u - (take (u - s) l).2) ∧ Kp (· = b) w w' := by
  have hlen : l.length ≤ maxLen := by obtain ⟨_, _, _, h1, h2, _⟩ := hl; omega
  unfold maxLen at hlen
  have h0 : TkRel b r u s l w 0 (u - s) w := ⟨by simp, by rw [show u - (u - s) = s by omega]; exact h, Kp.refl _ _⟩
  have hu := h.2
  go_enter Tryz.func53, Tryz.ntmps53
  go_wp2
  go_loopw [4, 11] (fun n i wr => ∃ (k : Nat) (x : Int), k ≤ l.length ∧ i = .int .i64 k ∧ n = .int .i64 k ∧ TkRel b r u s l w k x wr) (fun _ i _ => l.length - (intOf i).toNat)
  case atStart => exact ⟨0, _, Nat.zero_le _, rfl, rfl, h0⟩
  case round =>
    obtain ⟨k, x, hk, rfl, rfl, hr⟩ := hrel
    have hb := hr.2.1
    have hkp := hr.2.2
    have hs := (Rp.slice _).kept hl hkp (fun i hi _ e => hS (e ▸ hi))
    have c2 := hb.c2
    have c1 := hb.c1
    have hf := hb.fr 2
    have hu := hb.2
    by_cases hlt : k < l.length
    · obtain ⟨y, hy⟩ : ∃ y, l[k]? = some y := ⟨_, List.getElem?_eq_getElem hlt⟩
      obtain ⟨ad, rfl, had, hv, hwy⟩ := Rp.at_int hs hy
      have hby := bounds_i64 hwy
      have stop := Lib.hid fun h => hr.stop (.inr ⟨y, hy, h⟩)
      have step := Lib.hid fun h0 h1 w' => hr.step hy h0 h1 (w' := w')
      have HB := Lib.hid hb
      have HK := Lib.hid hkp
      clear hr hs hl hb hkp hy h h0 had
      go_wp2_with (go_at_call 22; refine (b_left b r u (u - x) _ HB.out).mono ?_; rintro e w' ⟨rfl, n, rfl⟩)
      · go_ret
        have fin := stop.out (by omega)
        exact ⟨ret_int (by rw [fin.1]), (Bk.drewN fin.2.1 _), fin.2.2.drewN _⟩
      · have h1 : 0 ≤ y := by assumption
        go_roundw
        case rel => exact ⟨k + 1, x - y, by omega, by go_num, by go_num, step.out (by omega) (by omega) _ (by rw [show u - (x - y) = u - x + y by omega]; exact Bk.set (HB.out.drewN _) (by omega) (by omega)) ((HK.out.drewN _).setCell (fun _ => rfl) _)⟩
        case measure => simp [intOf]; omega
      · go_ret
        have fin := stop.out (by omega)
        exact ⟨ret_int (by rw [fin.1]), fin.2⟩
    · have fin := hr.stop (.inl (by omega))
      clear hr hs hl
      go_wp2
      go_ret
      exact ⟨ret_int (by rw [fin.1]), fin.2⟩
end Go.Proofs.YtflodiljgphkdaaGreat
