import Derived.Test.YtkghckeoplolpaaT4
namespace Go.Proofs.Ytkghckeoplolpaa
open Go.RowKit Go.ChangeShapes Go.WideShapes Go.ChangeAt

theorem bytes_list_beq (a b : ByteArray) : (a.toList == b.toList) = decide (a = b) := by
  by_cases h : a = b
  · subst h; simp
  · simp only [h, decide_false, beq_eq_false_iff_ne]
    intro e
    rw [ByteArray.toList_eq, ByteArray.toList_eq] at e
    exact h (WideShapes.bytes_inj e)

def SaRel (l1 l2 : List ByteArray) (k : Nat) : Prop := l1.take k = l2.take k
theorem SaRel.step {l1 l2 : List ByteArray} {k : Nat} {x : ByteArray} (h : SaRel l1 l2 k) (h1 : l1[k]? = some x) (h2 : l2[k]? = some x) : SaRel l1 l2 (k + 1) := by
  obtain ⟨a, rfl⟩ := List.getElem?_eq_some_iff.1 h1
  obtain ⟨b, e⟩ := List.getElem?_eq_some_iff.1 h2
  unfold SaRel at *
  rw [List.take_succ_eq_append_getElem a, List.take_succ_eq_append_getElem b, h, e]
/-- redoubtref04.Same -/
theorem r_same (l1 l2 : List ByteArray) (A1 A2 : Option Addr) (c1 c2 : Nat) (w : World) (S1 S2 : Nat → Prop) (h1 : Rp.str.slice.R w S1 [.slice A1 l1.length c1] l1) (h2 : Rp.str.slice.R w S2 [.slice A2 l2.length c2] l2) :
    Calls Try.prog 20 #[.slice A1 l1.length c1, .slice A2 l2.length c2] w fun e w' => e = .returned (.bool (decide (l1 = l2))) ∧ ∃ n, w' = w.drewN n := by
  have hlen1 : l1.length ≤ maxLen := by obtain ⟨_, _, _, h1, h2, _⟩ := h1; omega
  have hlen2 : l2.length ≤ maxLen := by obtain ⟨_, _, _, h1, h2, _⟩ := h2; omega
  unfold maxLen at hlen1 hlen2
  by_cases hne : l1.length = l2.length
  · have hd : ((l1.length : Int) != (l2.length : Int)) = false := by simp [hne]
    have HNE := Lib.hid hne
    clear hne
    go_enter Try.func20, Try.ntmps20
    go_wp2
    go_loopw [5] (fun i wr => ∃ k n : Nat, k ≤ l1.length ∧ i = .int .i64 k ∧ wr = w.drewN n ∧ SaRel l1 l2 k) (fun i _ => l1.length - (intOf i).toNat)
    case atStart => exact ⟨0, 0, Nat.zero_le _, rfl, rfl, rfl⟩
    case round =>
      obtain ⟨k, n, hk, rfl, rfl, hr⟩ := hrel
      have HR := Lib.hid hr
      clear hr
      by_cases hlt : k < l1.length
      · obtain ⟨x, hx⟩ : ∃ x, l1[k]? = some x := ⟨_, List.getElem?_eq_getElem hlt⟩
        obtain ⟨y, hy⟩ : ∃ y, l2[k]? = some y := ⟨_, List.getElem?_eq_getElem (by rw [← HNE.out]; exact hlt)⟩
        obtain ⟨ad1, rfl, _, hv1, _⟩ := Rp.at_str h1 hx
        obtain ⟨ad2, rfl, _, hv2, _⟩ := Rp.at_str h2 hy
        have HX := Lib.hid hx
        have HY := Lib.hid hy
        have hlt2 : k < l2.length := by rw [← HNE.out]; exact hlt
        clear hx hy h1 h2
        by_cases hxy : x = y
        · subst hxy
          go_wp2
          refine Reg.wp_region_plan [⟨0, false, []⟩, ⟨1, false, []⟩, ⟨2, false, []⟩, ⟨3, false, []⟩, ⟨4, false, []⟩, ⟨5, false, []⟩, ⟨6, false, []⟩, ⟨7, false, []⟩, ⟨8, false, []⟩] rfl (by kernel_rfl) ?_
          repeat (first | (refine Reg.look rfl rfl rfl (by go_simp; rfl) rfl ?_; go_simp) | (refine Reg.skip rfl rfl rfl ?_; go_simp))
          (refine Reg.done ?_; simp only [Exit.then])
          go_wp2
          go_roundw
          case rel => exact ⟨k + 1, n + 1, by omega, by go_num, rfl, SaRel.step HR.out HX.out HY.out⟩
          case measure => simp [intOf]; omega
        · have hd : (x.toList == y.toList) = false := by rw [bytes_list_beq]; simp [hxy]
          have hq : decide (l1 = l2) = false := by
            simp only [decide_eq_false_iff_not]
            intro e
            have h3 := HX.out
            rw [e, HY.out] at h3
            injection h3 with h3
            exact hxy h3.symm
          have HQ := Lib.hid hq
          clear hq hxy
          go_wp2
          refine Reg.wp_region_plan [⟨0, false, []⟩, ⟨1, false, []⟩, ⟨2, false, []⟩, ⟨3, false, []⟩, ⟨4, false, []⟩, ⟨5, false, []⟩, ⟨6, false, []⟩, ⟨7, false, []⟩, ⟨8, false, []⟩] rfl (by kernel_rfl) ?_
          repeat (first | (refine Reg.look rfl rfl rfl (by go_simp; rfl) rfl ?_; go_simp) | (refine Reg.skip rfl rfl rfl ?_; go_simp))
          (refine Reg.done ?_; simp only [Exit.then])
          go_wp2
          go_ret
          exact ⟨congrArg (fun b => Ending.returned (Value.bool b)) HQ.out.symm, n + 1, rfl⟩
      · have hq : decide (l1 = l2) = true := by
          have h3 := HR.out
          obtain rfl : k = l1.length := by omega
          unfold SaRel at h3
          rw [List.take_length, HNE.out, List.take_length] at h3
          simp [h3]
        have HQ := Lib.hid hq
        clear hq
        go_wp2
        go_ret
        exact ⟨congrArg (fun b => Ending.returned (Value.bool b)) HQ.out.symm, n, rfl⟩
  · have hd : ((l1.length : Int) != (l2.length : Int)) = true := by simp; omega
    have hq : decide (l1 = l2) = false := by simp; intro e; exact hne (by rw [e])
    have HQ := Lib.hid hq
    clear hq
    go_enter Try.func20, Try.ntmps20
    go_wp2
    go_ret
    exact ⟨congrArg (fun b => Ending.returned (Value.bool b)) HQ.out.symm, 0, rfl⟩
theorem elem_strs : Elem Try.prog 42 22 1 24 := Elem.of Try.underlying42 (z := .slice none 0 0) (by kernel_rfl) rfl (by decide)

theorem row_old {α : Type} (l : List α) (i r : Nat) (h : r < i / 4) : ((l.take (i + 1)).drop (r * 4)).take 4 = ((l.take i).drop (r * 4)).take 4 := by
  rw [List.drop_take, List.drop_take, List.take_take, List.take_take]
  congr 1
  omega
theorem row_new {α : Type} (l : List α) (i : Nat) (x : α) (h : l[i]? = some x) : ((l.take (i + 1)).drop (i / 4 * 4)).take 4 = ((l.take i).drop (i / 4 * 4)).take 4 ++ [x] := by
  obtain ⟨hlt, rfl⟩ := List.getElem?_eq_some_iff.1 h
  rw [List.take_of_length_le (l := (l.take i).drop _) (by rw [List.length_drop, List.length_take]; omega), List.take_of_length_le (by rw [List.length_drop, List.length_take]; omega),
    List.take_succ_eq_append_getElem hlt, List.drop_append_of_le_length (by rw [List.length_take]; omega)]

/-- The rows that are made: so many, each one's own, no two in one block. -/
def RowsAt (l : List ByteArray) (base : Nat) (v : Value) (i n : Nat) (wr : World) : Prop :=
  ∃ vals, Own Rp.raw wr No base 22 v vals ∧ vals.length = n ∧ (∀ r u, vals[r]? = some u → Own Rp.str wr No base 9 u (((l.take i).drop (r * 4)).take 4)) ∧
    ∀ (r r' : Nat) (u u' : Value) (g : Nat), vals[r]? = some u → vals[r']? = some u' → u.ownBlock = some g → u'.ownBlock = some g → r = r'
namespace RowsAt
variable {l : List ByteArray} {base : Nat} {v : Value} {i n : Nat} {w w' : World}
theorem start (l : List ByteArray) (base : Nat) (w : World) : RowsAt l base (.slice none 0 0) 0 0 w := ⟨[], Own.nil _ _ _ _ _, rfl, by simp, by simp⟩
theorem kept (h : RowsAt l base v i n w) (hk : Kp No w w') : RowsAt l base v i n w' := by
  obtain ⟨vals, h1, h2, h3, h4⟩ := h
  exact ⟨vals, h1.keptNo hk, h2, fun r u hu => (h3 r u hu).keptNo hk, h4⟩
/-- a row more, empty -/
theorem more (vals : List Value) (h1 : Own Rp.raw w No base 22 v vals) (hn : vals.length = n) (h3 : ∀ r u, vals[r]? = some u → Own Rp.str w No base 9 u (((l.take i).drop (r * 4)).take 4))
    (h4 : ∀ (r r' : Nat) (u u' : Value) (g : Nat), vals[r]? = some u → vals[r']? = some u' → u.ownBlock = some g → u'.ownBlock = some g → r = r') (hin : i ≤ n * 4)
    {v' : Value} (h : Own Rp.raw w' No base 22 v' (vals ++ [.slice none 0 0])) (hk : Kp (fun k => v.ownBlock = some k) w w') : RowsAt l base v' i (n + 1) w' := by
  refine ⟨_, h, by simp [hn], fun r u hu => ?_, fun r r' u u' g hu hu' hg hg' => ?_⟩
  · rcases Nat.lt_or_ge r vals.length with hlt | hge
    · rw [List.getElem?_append_left hlt] at hu
      have := h3 r u hu
      exact this.kept hk (fun _ h _ => h.elim) (fun k hk' hv => h1.ne_block this (by decide) hv hk')
    · rw [List.getElem?_append_right hge] at hu
      have hr : r = n := by
        have := (List.getElem?_eq_some_iff.1 hu).1
        simp at this
        omega
      subst hr
      rw [hn, Nat.sub_self] at hu
      simp only [List.getElem?_cons_zero, Option.some.injEq] at hu
      subst hu
      rw [List.drop_eq_nil_of_le (by rw [List.length_take]; omega), List.take_nil]
      exact Own.nil _ _ _ _ _
  · have side : ∀ (r : Nat) u g, (vals ++ [Value.slice none 0 0])[r]? = some u → u.ownBlock = some g → vals[r]? = some u := fun r u g hu hg => by
      rcases Nat.lt_or_ge r vals.length with hlt | hge
      · rwa [List.getElem?_append_left hlt] at hu
      · rw [List.getElem?_append_right hge] at hu
        have hr : r - vals.length = 0 := by
          have := (List.getElem?_eq_some_iff.1 hu).1
          simp at this
          omega
        rw [hr] at hu
        simp only [List.getElem?_cons_zero, Option.some.injEq] at hu
        subst hu
        simp [Value.ownBlock] at hg
    exact h4 r r' u u' g (side r u g hu hg) (side r' u' g hu' hg') hg hg'
/-- the last row grows by one -/
theorem grow (vals : List Value) (h1 : Own Rp.raw w No base 22 v vals) (hn : vals.length = i / 4 + 1) (h3 : ∀ (r : Nat) (u : Value), vals[r]? = some u → Own Rp.str w No base 9 u (((l.take i).drop (r * 4)).take 4))
    (h4 : ∀ (r r' : Nat) (u u' : Value) (g : Nat), vals[r]? = some u → vals[r']? = some u' → u.ownBlock = some g → u'.ownBlock = some g → r = r')
    {x : ByteArray} (hx : l[i]? = some x) {last last' : Value} (hl : vals[i / 4]? = some last) (ho : Own Rp.str w' No base 9 last' (((l.take i).drop (i / 4 * 4)).take 4 ++ [x])) (hk : Kp (fun k => last.ownBlock = some k) w w')
    (hat : ∀ g, last'.ownBlock = some g → last.ownBlock = some g ∨ w.heap.size ≤ g)
    {g c : Nat} (hv : v = .slice (some ⟨g, 0, none⟩) vals.length c) : RowsAt l base v (i + 1) (i / 4 + 1) (w'.setCell ⟨g, i / 4, none⟩ last') := by
  subst hv
  have hlo := h3 _ _ hl
  have hgl : last.ownBlock ≠ some g := h1.ne_block hlo (by decide) rfl
  have h1' := h1.kept hk (fun _ h _ => h.elim) (fun k hk' hv => by
    have : g = k := by simpa [Value.ownBlock] using hk'
    subst this; exact hgl hv)
  have hone : last'.oneCell' = true := by obtain ⟨A, c, rfl⟩ := ho.shape; rfl
  have hst := h1'.raw_store (i := i / 4) (by omega) hone
  rw [List.length_set] at hst
  have hks : Kp (· = g) w' (w'.setCell ⟨g, i / 4, none⟩ last') := (Kp.refl (· = g) w').setCell (p := ⟨g, i / 4, none⟩) (fun _ => rfl) _
  have hgb := h1'.lt g rfl
  refine ⟨_, hst, by simp [hn], fun r u hu => ?_, fun r r' u u' g' hu hu' hg hg' => ?_⟩
  · by_cases hr : r = i / 4
    · subst hr
      rw [List.getElem?_set_self (by omega)] at hu
      injection hu with hu
      subst hu
      rw [row_new l i x hx]
      exact ho.kept hks (fun _ h _ => h.elim) (fun k hk' e => by subst e; exact h1'.ne_block ho (by decide) rfl hk')
    · rw [List.getElem?_set_ne (fun e => hr e.symm)] at hu
      have hlt := (List.getElem?_eq_some_iff.1 hu).1
      rw [row_old l i r (by omega)]
      have h5 := h3 r u hu
      have h6 := h5.kept hk (fun _ h _ => h.elim) (fun k hk' hv => hr (h4 r (i / 4) u last k hu hl hk' hv))
      exact h6.kept hks (fun _ h _ => h.elim) (fun k hk' e => by subst e; exact h1'.ne_block h6 (by decide) rfl hk')
  · have side : ∀ (r : Nat) (u : Value), (vals.set (i / 4) last')[r]? = some u → u.ownBlock = some g' → r ≠ i / 4 → vals[r]? = some u ∧ g' < w.heap.size := fun r u hu hg hr => by
      rw [List.getElem?_set_ne (fun e => hr e.symm)] at hu
      exact ⟨hu, ((h3 r u hu).lt g' hg).2⟩
    have self : ∀ (u : Value), (vals.set (i / 4) last')[i / 4]? = some u → u = last' := fun u hu => by
      rw [List.getElem?_set_self (by omega)] at hu
      injection hu with hu
      exact hu.symm
    by_cases hr : r = i / 4 <;> by_cases hr' : r' = i / 4
    · omega
    · subst hr
      have e := self u hu
      subst e
      obtain ⟨h7, h8⟩ := side r' u' hu' hg' hr'
      rcases hat g' hg with h9 | h9
      · exact (h4 r' (i / 4) u' last g' h7 hl hg' h9).symm
      · omega
    · subst hr'
      have e := self u' hu'
      subst e
      obtain ⟨h7, h8⟩ := side r u hu hg hr
      rcases hat g' hg' with h9 | h9
      · exact h4 r (i / 4) u last g' h7 hl hg h9
      · omega
    · exact h4 r r' u u' g' (side r u hu hg hr).1 (side r' u' hu' hg' hr').1 hg hg'
end RowsAt
end Go.Proofs.Ytkghckeoplolpaa
