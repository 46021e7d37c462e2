/-
  A drive, plainly: what lasts.
-/
import Derived.Test.YtflodiljgphkdaaDskP
namespace Go.Proofs.Ytflodiljgphkdaa
open Go.RowKit Go.ChangeShapes Go.WideShapes Go.ChangeAt

/-! ### behind a loss of power -/
theorem mget_consIf {n k : ByteArray} {g : FV} {l : List (ByteArray × FV)} (h : ∀ p ∈ l, p.1 ≠ n) : mget k (consIf n g l) = if k = n then (if g.old then some g else none) else mget k l := by
  unfold consIf
  by_cases ho : g.old = true
  · simp only [ho, if_true, mget]
  · simp only [ho, if_false, Bool.false_eq_true]
    by_cases hk : k = n
    · subst hk
      rw [if_pos rfl]
      exact (mget_none_iff k l).2 fun hm => by obtain ⟨p, hp, he⟩ := List.mem_map.1 hm; exact h p hp he
    · rw [if_neg hk]
/-- each file by itself: it is cut by some number, and stays if it was old or something was kept -/
theorem mget_crashF : ∀ {l : List (ByteArray × FV)}, Rising l → ∀ (ks : List Int) {n : ByteArray} {f : FV}, mget n l = some f → ∃ k, mget n (crashF l ks) = if (crash1 f k).old then some (crash1 f k) else none
  | (m, g) :: l, hr, ks, n, f, h => by
    unfold Rising at hr
    rw [List.pairwise_cons] at hr
    unfold crashF
    have hne : ∀ p ∈ crashF l (nextK g ks), p.1 ≠ m := fun p hp => by
      obtain ⟨f', k, h1, _⟩ := mem_crashF hp
      exact (nlt_ne (hr.1 _ h1)).symm
    rw [mget_consIf hne]
    unfold mget at h
    by_cases e : n = m
    · rw [if_pos e] at h ⊢
      injection h with h
      subst h
      exact ⟨_, rfl⟩
    · rw [if_neg e] at h ⊢
      exact mget_crashF hr.2 _ h
theorem crash1_old {f : FV} (h : f.old = true) (k : Int) : (crash1 f k).old = true := by
  unfold crash1 cutF
  split
  · simp [h]
  · exact h
theorem crash1_bytes {f : FV} (ho : OkF f) (k : Int) : ∃ m, f.sure ≤ m ∧ m ≤ f.bytes.length ∧ (crash1 f k).bytes = f.bytes.take m ∧ (crash1 f k).sure = m := by
  have h1 := ho.1
  unfold crash1 waits
  split
  · rename_i hw
    simp only [decide_eq_true_eq] at hw
    have := keepOf_le f k
    exact ⟨f.sure + keepOf f k, by omega, by omega, rfl, rfl⟩
  · rename_i hw
    simp only [decide_eq_true_eq] at hw
    exact ⟨f.bytes.length, by omega, Nat.le_refl _, (List.take_length).symm, by omega⟩

/-! ### what was synced lasts -/
/-- the file is there, old, and these bytes stand at the front of what lasts of it -/
def Lasts (n : ByteArray) (s : List UInt8) (x : DV) : Prop := ∃ f, fileD n x = some f ∧ f.old = true ∧ s <+: f.bytes.take f.sure
theorem stepD_files_eq (x : DV) (f : DV → DV) : (stepD x f).2.files = x.files ∨ ((stepD x f).1 = 0 ∧ (stepD x f).2 = f { x with fuse := max (x.fuse - 1) (-1), steps := inc64 x.steps }) := by
  unfold stepD
  split
  · exact .inl rfl
  · exact .inr ⟨rfl, rfl⟩
theorem lasts_of_files {n : ByteArray} {s : List UInt8} {x y : DV} (h : Lasts n s x) (e : y.files = x.files) : Lasts n s y := by
  obtain ⟨f, h1, h2⟩ := h
  exact ⟨f, by unfold fileD at *; rw [e]; exact h1, h2⟩
theorem lasts_append {n m t : ByteArray} {s : List UInt8} {x : DV} (hx : OkD x) (h : Lasts n s x) : Lasts n s (appendD m t x).2 := by
  unfold appendD
  split
  · exact h
  simp only
  split
  · exact h
  rcases stepD_files_eq x (fun y => { y with files := ins m { (fileD m x).getD ⟨[], 0, false⟩ with bytes := ((fileD m x).getD ⟨[], 0, false⟩).bytes ++ t.data.toList } y.files }) with e | ⟨_, e⟩
  · exact lasts_of_files h e
  · rw [e]
    obtain ⟨f, h1, h2, h3⟩ := h
    by_cases hn : n = m
    · subst hn
      refine ⟨{ f with bytes := f.bytes ++ t.data.toList }, ?_, h2, ?_⟩
      · show mget n (ins n _ x.files) = _
        rw [mget_ins, if_pos rfl, h1]; rfl
      · show s <+: (f.bytes ++ t.data.toList).take f.sure
        rw [List.take_append_of_le_length (hx.at h1).1.1]; exact h3
    · refine ⟨f, ?_, h2, h3⟩
      show mget n (ins m _ x.files) = _
      rw [mget_ins, if_neg hn]; exact h1
theorem lasts_sync {n m : ByteArray} {s : List UInt8} {x : DV} (h : Lasts n s x) : Lasts n s (syncD m x).2 := by
  unfold syncD knownD
  split
  · exact h
  split
  · exact h
  rename_i f0 hf0
  rcases stepD_files_eq x (fun y => { y with files := ins m (syncF f0) y.files }) with e | ⟨_, e⟩
  · exact lasts_of_files h e
  · rw [e]
    obtain ⟨f, h1, h2, h3⟩ := h
    by_cases hn : n = m
    · subst hn
      rw [h1] at hf0
      injection hf0 with hf0
      subst hf0
      refine ⟨syncF f, ?_, rfl, ?_⟩
      · show mget n (ins n _ x.files) = _
        rw [mget_ins, if_pos rfl]
      · show s <+: f.bytes.take f.bytes.length
        rw [List.take_length]; exact h3.trans (List.take_prefix _ _)
    · refine ⟨f, ?_, h2, h3⟩
      show mget n (ins m _ x.files) = _
      rw [mget_ins, if_neg hn]; exact h1
/-- a Sync that is answered OK -/
theorem sync_ok {n : ByteArray} {x : DV} (h : (syncD n x).1 = 0) : ∃ f, fileD n (syncD n x).2 = some (syncF f) ∧ (syncD n x).2.off = false := by
  unfold syncD knownD at h ⊢
  split at h
  · rename_i hr; exact absurd h hr
  · rename_i hr
    rw [if_neg hr]
    have hr := readyD_fine (by simpa using hr)
    split at h
    · cases h
    · rename_i f hf
      unfold stepD at h ⊢
      split at h
      · cases h
      · rename_i hfu
        rw [if_neg hfu]
        refine ⟨f, ?_, hr.2.1⟩
        show mget n (ins n _ x.files) = _
        rw [mget_ins, if_pos rfl]
theorem lasts_sync_ok {n : ByteArray} {x : DV} (h : (syncD n x).1 = 0) : ∃ b, readD n (syncD n x).2 = some (bs b) ∧ Lasts n b (syncD n x).2 := by
  obtain ⟨f, h1, h2⟩ := sync_ok h
  refine ⟨f.bytes, ?_, syncF f, h1, rfl, ?_⟩
  · unfold readD; rw [h2, h1]; rfl
  · show f.bytes <+: f.bytes.take f.bytes.length
    rw [List.take_length]
    exact List.prefix_refl _
theorem lasts_remove {n m : ByteArray} {s : List UInt8} {x : DV} (hx : OkD x) (h : Lasts n s x) (hn : n ≠ m ∨ (removeD m x).1 ≠ 0) : Lasts n s (removeD m x).2 := by
  unfold removeD knownD at hn ⊢
  split
  · exact h
  rename_i hr
  rw [if_neg hr] at hn
  split
  · exact h
  rename_i f0 hf0
  simp only [hf0] at hn
  rcases stepD_files_eq x (fun y => { y with files := mdel m y.files }) with e | ⟨e0, e⟩
  · exact lasts_of_files h e
  · rw [e]
    have hnm : n ≠ m := by
      rcases hn with h | h
      · exact h
      · exact absurd e0 h
    obtain ⟨f, h1, h2, h3⟩ := h
    refine ⟨f, ?_, h2, h3⟩
    show mget n (mdel m x.files) = _
    rw [mget_del m n _ hx.rising.nodup, if_neg hnm]; exact h1
theorem lasts_crash {n : ByteArray} {s : List UInt8} {x : DV} (hx : OkD x) (ks : List Int) (h : Lasts n s x) : Lasts n s (crashD ks x) := by
  obtain ⟨f, h1, h2, h3⟩ := h
  obtain ⟨k, hk⟩ := mget_crashF hx.rising ks h1
  obtain ⟨m, m1, m2, m3, m4⟩ := crash1_bytes (hx.at h1).1 k
  refine ⟨crash1 f k, ?_, crash1_old h2 k, ?_⟩
  · show mget n (crashF x.files ks) = _
    rw [hk, if_pos (crash1_old h2 k)]
  · rw [m3, m4, List.take_take, Nat.min_self]
    exact h3.trans (List.take_prefix_take_left m1)
/-- and what a reader sees of it behind a loss of power -/
theorem lasts_read {n : ByteArray} {s : List UInt8} {x : DV} (h : Lasts n s x) (ho : x.off = false) : ∃ t, readD n x = some (bs t) ∧ s <+: t := by
  obtain ⟨f, h1, h2, h3⟩ := h
  exact ⟨f.bytes, by unfold readD; rw [ho, h1]; rfl, h3.trans (List.take_prefix _ _)⟩

/-! ### what is left is left again -/
theorem crash_again {x : DV} (hx : OkD x) (ks more : List Int) : crashD more (crashD ks x) = crashD ks x := by
  have : ∀ (l : List (ByteArray × FV)) (ks more : List Int), (∀ p ∈ l, OkF p.2) → (∀ p ∈ crashF l ks, p.2.old = true ∧ p.2.sure = p.2.bytes.length) := by
    intro l ks more hl p hp
    obtain ⟨f, k, h1, h2, h3⟩ := mem_crashF hp
    exact ⟨h2, by rw [h3]; exact crash1_full (hl _ h1) k⟩
  have h2 : ∀ (l : List (ByteArray × FV)) (more : List Int), (∀ p ∈ l, p.2.old = true ∧ p.2.sure = p.2.bytes.length) → crashF l more = l := by
    intro l
    induction l with
    | nil => intro _ _; rfl
    | cons p l ih =>
      intro more h
      obtain ⟨n, f⟩ := p
      have h1 : f.old = true ∧ f.sure = f.bytes.length := h (n, f) (List.mem_cons_self ..)
      have hw : waits f = false := by unfold waits; rw [h1.2]; simp
      unfold crashF crash1 nextK consIf
      rw [hw]
      simp only [Bool.false_eq_true, if_false, h1.1, if_true]
      rw [ih more fun q hq => h q (List.mem_cons_of_mem _ hq)]
  unfold crashD
  simp only
  rw [h2 _ more (this x.files ks more fun p hp => (hx.file p hp).1)]
end Go.Proofs.Ytflodiljgphkdaa
