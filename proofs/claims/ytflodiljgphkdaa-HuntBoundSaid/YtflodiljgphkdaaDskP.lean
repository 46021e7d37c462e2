/-
  A drive, plainly: what its calls keep.
-/
import Derived.Test.YtflodiljgphkdaaDskL
namespace Go.Proofs.Ytflodiljgphkdaa
open Go.RowKit Go.ChangeShapes Go.WideShapes Go.ChangeAt

theorem wf_wrap64 (n : Int) : (Lit.int .i64 (RowKit.wrap64 n)).wf = true := by
  unfold RowKit.wrap64
  simp [Lit.wf, IntKind.bits, IntKind.signed, IntKind.min, IntKind.max]
  omega
theorem wf64 {n : Int} (h : (Lit.int .i64 n).wf = true) : -9223372036854775808 ≤ n ∧ n ≤ 9223372036854775807 := by
  simp [Lit.wf, IntKind.bits, IntKind.signed, IntKind.min, IntKind.max] at h
  omega
theorem of_wf64 {n : Int} (h : -9223372036854775808 ≤ n) (h2 : n ≤ 9223372036854775807) : (Lit.int .i64 n).wf = true := by
  simp [Lit.wf, IntKind.bits, IntKind.signed, IntKind.min, IntKind.max]
  omega

theorem newD_ok : OkD newD := ⟨List.Pairwise.nil, (by intro p h; cases h), (by decide), by decide, by decide⟩
theorem OkD.off {x : DV} (h : OkD x) (b : Bool) : OkD { x with off := b } := ⟨h.rising, h.file, h.fuse, h.fuseW, h.stepsW⟩
theorem OkD.stepped {x : DV} (h : OkD x) : OkD { x with fuse := max (x.fuse - 1) (-1), steps := inc64 x.steps } := by
  have h1 := h.fuse
  have h2 := wf64 h.fuseW
  exact ⟨h.rising, h.file, by show -1 ≤ max (x.fuse - 1) (-1); omega, of_wf64 (by show _ ≤ max (x.fuse - 1) (-1); omega) (by show max (x.fuse - 1) (-1) ≤ _; omega), wf_wrap64 _⟩
theorem OkD.with {x : DV} (h : OkD x) {l : List (ByteArray × FV)} (hr : Rising l) (hf : ∀ p ∈ l, OkF p.2 ∧ p.1.size ≤ 80) : OkD { x with files := l } := ⟨hr, hf, h.fuse, h.fuseW, h.stepsW⟩
theorem OkD.put {x : DV} (h : OkD x) (n : ByteArray) (f : FV) (hn : n.size ≤ 80) (hf : OkF f) : OkD { x with files := ins n f x.files } :=
  h.with (h.rising.ins n f) fun p hp => by
    rcases mem_ins hp with rfl | hp
    · exact ⟨hf, hn⟩
    · exact h.file p hp
theorem OkD.del {x : DV} (h : OkD x) (n : ByteArray) : OkD { x with files := mdel n x.files } := h.with (h.rising.mdel n) fun p hp => h.file p ((mdel_sub n _).subset hp)
theorem OkD.at {x : DV} (h : OkD x) {n : ByteArray} {f : FV} (hf : fileD n x = some f) : OkF f ∧ n.size ≤ 80 := h.file (n, f) (mem_of_mget hf)
theorem readyD_fine {n : ByteArray} {x : DV} (h : readyD n x = 0) : fineN n = true ∧ x.off = false ∧ n.size ≤ 80 := by
  unfold readyD at h
  split at h
  · cases h
  · split at h
    · cases h
    · rename_i h1 h2
      have h1 : fineN n = true := by simpa using h1
      refine ⟨h1, by simpa using h2, ?_⟩
      unfold fineN at h1
      simp only [Bool.and_eq_true, decide_eq_true_eq] at h1
      exact h1.2.1
theorem stepD_ok {x : DV} (h : OkD x) {f : DV → DV} (hf : ∀ y, OkD y → y.files = x.files → OkD (f y)) : OkD (stepD x f).2 := by
  unfold stepD
  split
  · exact h.off true
  · exact hf _ h.stepped rfl
theorem appendD_ok {x : DV} (h : OkD x) (n s : ByteArray) : OkD (appendD n s x).2 := by
  unfold appendD
  split
  · exact h
  · rename_i hr
    simp only
    split
    · exact h
    · rename_i hs
      refine stepD_ok h fun y hy hyf => hy.put n _ (readyD_fine (by simpa using hr)).2.2 ?_
      have hf : OkF ((fileD n x).getD ⟨[], 0, false⟩) := by
        cases he : fileD n x with
        | none => exact ⟨Nat.le_refl _, by show (0 : Nat) ≤ _; omega⟩
        | some f => exact (h.at he).1
      refine ⟨?_, ?_⟩
      · show _ ≤ ((_ : List UInt8) ++ _).length
        rw [List.length_append]; exact Nat.le_trans hf.1 (Nat.le_add_right _ _)
      · show ((_ : List UInt8) ++ _).length ≤ _
        rw [List.length_append, data_length]; exact Nat.le_of_not_lt hs
theorem knownD_ok {x : DV} (h : OkD x) {n : ByteArray} {k : FV → DV → DV} (hk : ∀ f, fileD n x = some f → n.size ≤ 80 → ∀ y, OkD y → y.files = x.files → OkD (k f y)) : OkD (knownD n x k).2 := by
  unfold knownD
  split
  · exact h
  · rename_i hr
    split
    · exact h
    · rename_i f hf
      exact stepD_ok h (hk f hf (readyD_fine (by simpa using hr)).2.2)
theorem syncF_ok {f : FV} (h : OkF f) : OkF (syncF f) := ⟨Nat.le_refl _, h.2⟩
theorem syncD_ok {x : DV} (h : OkD x) (n : ByteArray) : OkD (syncD n x).2 := knownD_ok h fun _ hf hn _ hy _ => hy.put n _ hn (syncF_ok (h.at hf).1)
theorem removeD_ok {x : DV} (h : OkD x) (n : ByteArray) : OkD (removeD n x).2 := knownD_ok h fun _ _ _ _ hy _ => hy.del n
theorem fuseD_ok {x : DV} (h : OkD x) {n : Int} (hn : (Lit.int .i64 n).wf = true) : OkD (fuseD n x) := by
  have := wf64 hn
  exact ⟨h.rising, h.file, by show -1 ≤ max n (-1); omega, of_wf64 (by show _ ≤ max n (-1); omega) (by show max n (-1) ≤ _; omega), h.stepsW⟩
theorem keepOf_le (f : FV) (n : Int) : f.sure + keepOf f n ≤ max f.sure f.bytes.length := by unfold keepOf; omega
theorem cutF_ok {f : FV} (h : OkF f) (n : Int) : OkF (cutF f n) := by
  have h1 := h.1
  have h2 := h.2
  have := keepOf_le f n
  refine ⟨?_, ?_⟩
  · show _ ≤ (List.take _ _).length
    rw [List.length_take]
    show f.sure + keepOf f n ≤ _
    omega
  · show (List.take _ _).length ≤ _
    rw [List.length_take]; omega
theorem cutF_full {f : FV} (h : OkF f) (n : Int) : (cutF f n).sure = (cutF f n).bytes.length := by
  have h1 := h.1
  have := keepOf_le f n
  show f.sure + keepOf f n = (List.take _ _).length
  rw [List.length_take]; omega
theorem crash1_ok {f : FV} (h : OkF f) (k : Int) : OkF (crash1 f k) := by
  unfold crash1
  split
  · exact cutF_ok h k
  · exact h
theorem crash1_full {f : FV} (h : OkF f) (k : Int) : (crash1 f k).sure = (crash1 f k).bytes.length := by
  unfold crash1
  split
  · exact cutF_full h k
  · rename_i hw
    unfold waits at hw
    simp only [decide_eq_true_eq] at hw
    have := h.1
    omega
theorem mem_consIf {n : ByteArray} {g : FV} {l : List (ByteArray × FV)} {p} (h : p ∈ consIf n g l) : (p = (n, g) ∧ g.old = true) ∨ p ∈ l := by
  unfold consIf at h
  split at h
  · rename_i ho
    rcases List.mem_cons.1 h with h | h
    · exact .inl ⟨h, ho⟩
    · exact .inr h
  · exact .inr h
/-- what a loss of power leaves of a file -/
theorem mem_crashF : ∀ {l : List (ByteArray × FV)} {ks : List Int} {p}, p ∈ crashF l ks → ∃ f k, (p.1, f) ∈ l ∧ p.2.old = true ∧ p.2 = crash1 f k
  | (n, f) :: l, ks, p, h => by
    unfold crashF at h
    rcases mem_consIf h with ⟨rfl, ho⟩ | h
    · exact ⟨f, _, List.mem_cons_self .., ho, rfl⟩
    · obtain ⟨f', k, h1, h2⟩ := mem_crashF h
      exact ⟨f', k, List.mem_cons_of_mem _ h1, h2⟩
theorem crashF_rising : ∀ {l : List (ByteArray × FV)}, Rising l → ∀ ks, Rising (crashF l ks)
  | [], _, _ => List.Pairwise.nil
  | (n, f) :: l, h, ks => by
    unfold Rising at h
    rw [List.pairwise_cons] at h
    unfold crashF consIf
    split
    · refine List.pairwise_cons.2 ⟨fun q hq => ?_, crashF_rising h.2 _⟩
      obtain ⟨f', _, h1, _⟩ := mem_crashF hq
      exact h.1 (q.1, f') h1
    · exact crashF_rising h.2 _
theorem crashD_ok {x : DV} (h : OkD x) (ks : List Int) : OkD (crashD ks x) := by
  refine ⟨crashF_rising h.rising ks, fun p hp => ?_, by show (-1 : Int) ≤ -1; omega, (by show (Lit.int .i64 (-1)).wf = true; decide), h.stepsW⟩
  obtain ⟨f, k, h1, _, h2⟩ := mem_crashF hp
  have h3 := h.file _ h1
  rw [h2]; exact ⟨crash1_ok h3.1 k, h3.2⟩
theorem crashF_length : ∀ (l : List (ByteArray × FV)) (ks : List Int), (crashF l ks).length ≤ l.length
  | [], _ => Nat.le_refl _
  | (n, f) :: l, ks => by
    unfold crashF consIf
    have := crashF_length l (nextK f ks)
    split <;> simp only [List.length_cons] <;> omega
theorem flipB_length (l : List UInt8) (b : Nat) : (flipB l b).length = l.length := by simp [flipB]
theorem flipD_ok {x : DV} (h : OkD x) (n : ByteArray) (b : Int) : OkD (flipD n b x).2 := by
  unfold flipD
  split
  · exact h
  · rename_i f hf
    split
    · exact h
    · have := h.at hf
      refine h.put n _ this.2 ⟨?_, ?_⟩
      · show _ ≤ (flipB _ _).length
        rw [flipB_length]; exact this.1.1
      · show (flipB _ _).length ≤ _
        rw [flipB_length]; exact this.1.2

/-! how many files -/
theorem stepD_files {x : DV} {f : DV → DV} {k : Nat} (hk : x.files.length ≤ k) (hf : ∀ y, y.files = x.files → (f y).files.length ≤ k) : (stepD x f).2.files.length ≤ k := by
  unfold stepD
  split
  · exact hk
  · exact hf _ rfl
theorem appendD_files (n s : ByteArray) (x : DV) : (appendD n s x).2.files.length ≤ x.files.length + 1 := by
  unfold appendD
  split
  · exact Nat.le_succ _
  · simp only
    split
    · exact Nat.le_succ _
    · refine stepD_files (Nat.le_succ _) fun y hy => ?_
      rw [← hy]
      exact ins_length _
theorem knownD_files {n : ByteArray} {x : DV} {k : FV → DV → DV} {m : Nat} (hm : x.files.length ≤ m) (h : ∀ f, fileD n x = some f → ∀ y, y.files = x.files → (k f y).files.length ≤ m) : (knownD n x k).2.files.length ≤ m := by
  unfold knownD
  split
  · exact hm
  · split
    · exact hm
    · rename_i f hf
      exact stepD_files hm (h f hf)
theorem syncD_files (n : ByteArray) (x : DV) : (syncD n x).2.files.length ≤ x.files.length + 1 :=
  knownD_files (Nat.le_succ _) fun f _ y hy => by rw [← hy]; exact ins_length _
theorem removeD_files (n : ByteArray) (x : DV) : (removeD n x).2.files.length ≤ x.files.length :=
  knownD_files (Nat.le_refl _) fun f _ y hy => by rw [← hy]; exact mdel_length _ _
theorem flipD_files (n : ByteArray) (b : Int) (x : DV) : (flipD n b x).2.files.length ≤ x.files.length + 1 := by
  unfold flipD
  split
  · exact Nat.le_succ _
  · split
    · exact Nat.le_succ _
    · exact ins_length _
end Go.Proofs.Ytflodiljgphkdaa
