/-
  disk: a drive that the call itself has made.
-/
import Derived.Test.YtflodiljgphkdaaDisk6
import Derived.Test.YtflodiljgphkdaaDisk11
import Derived.Test.YtflodiljgphkdaaDisk12
namespace Go.Proofs.Ytflodiljgphkdaa
open Go.RowKit Go.ChangeShapes Go.WideShapes Go.ChangeAt

/-- All rows but those of a drive's own types are as they were. -/
def KpT (w w' : World) : Prop := ∀ (g : Nat) cs (e : TypeId) fr, e ≠ 85 → e ≠ 92 → e ≠ 5 → w.heap[g]? = some (.cells cs e fr) → w'.heap[g]? = some (.cells cs e fr)
theorem KpT.refl (w : World) : KpT w w := fun _ _ _ _ _ _ _ h => h
theorem KpT.trans {a b c : World} (h : KpT a b) (k : KpT b c) : KpT a c := fun g cs e fr h1 h2 h3 h4 => k g cs e fr h1 h2 h3 (h g cs e fr h1 h2 h3 h4)
theorem KpT.ofNo {w w' : World} (h : Kp No w w') : KpT w w' := fun g _ _ _ _ _ _ h4 => (h.block g (Array.getElem?_eq_some_iff.1 h4).1 (fun x => x)).trans h4
theorem KpT.blk {w w' : World} (h : KpT w w') {g : Nat} {e : TypeId} {vs : List Value} (hb : Blk w g e vs) (h1 : e ≠ 85) (h2 : e ≠ 92) (h3 : e ≠ 5) : Blk w' g e vs := h g _ e _ h1 h2 h3 hb
theorem DiskAt.types {w : World} {d : Nat} {x : DV} {F : Nat → Prop} (h : DiskAt w d x F) {k : Nat} (hk : F k) {cs : Array Value} {e : TypeId} {fr : Nat × Nat} (hb : w.heap[k]? = some (.cells cs e fr)) : e = 85 ∨ e = 92 ∨ e = 5 := by
  obtain ⟨m, l, L, h, hF⟩ := h
  rcases (hF k).1 hk with rfl | rfl | ⟨n, f, hf, rfl | hv⟩
  · have h1 : w.heap[k]? = some (.cells _ 85 (0, 0)) := h.blk
    rw [h1] at hb; injection hb with hb; injection hb with _ hb; exact .inl hb.symm
  · obtain ⟨es, c, h1, _⟩ := h.map
    rw [h1] at hb; cases hb
  · have h1 : w.heap[(L n).1]? = some (.cells _ 92 (0, 0)) := (h.file n f hf).1
    rw [h1] at hb; injection hb with hb; injection hb with _ hb; exact .inr (.inl hb.symm)
  · obtain ⟨cs', h1⟩ := (h.file n f hf).2.block hv
    rw [h1] at hb; injection hb with hb; injection hb with _ hb; exact .inr (.inr hb.symm)
theorem KpT.of {w w' : World} {d : Nat} {x : DV} {F : Nat → Prop} (h : DiskAt w d x F) (hk : Kp F w w') : KpT w w' := fun g _ _ _ h1 h2 h3 h4 => (hk.block g (Array.getElem?_eq_some_iff.1 h4).1 (fun hf => by
  rcases h.types hf h4 with h | h | h
  · exact h1 h
  · exact h2 h
  · exact h3 h)).trans h4
/-- A drive that is new since w0; nothing of before has turned. -/
def DNew (w0 w : World) (d : Nat) (x : DV) : Prop := ∃ F, DiskAt w d x F ∧ Kp No w0 w ∧ ∀ k, F k → w0.heap.size ≤ k
namespace DNew
variable {w0 w w' : World} {d : Nat} {x y : DV}
theorem kp (h : DNew w0 w d x) : Kp No w0 w := by obtain ⟨_, _, h, _⟩ := h; exact h
theorem ok (h : DNew w0 w d x) : OkD x := by obtain ⟨_, h, _⟩ := h; exact h.ok
theorem kept (h : DNew w0 w d x) (hk : Kp No w w') : DNew w0 w' d x := by
  obtain ⟨F, h1, h2, h3⟩ := h
  exact ⟨F, h1.keptNo hk, h2.trans' hk, h3⟩
theorem step (h : ∃ F, DiskAt w d x F ∧ Kp No w0 w ∧ (∀ k, F k → w0.heap.size ≤ k) ∧ ∃ F', DiskAt w' d y F' ∧ Upd F w w' F') : DNew w0 w' d y ∧ KpT w w' := by
  obtain ⟨F, h1, h2, h3, F', h4, h5, h6⟩ := h
  exact ⟨⟨F', h4, h2.trans h5 (fun k hk hf => absurd (h3 k hf) (by omega)), fun k hk => by
    rcases h6 k hk with h | h
    · exact h3 k h
    · have := h2.size; omega⟩, KpT.of h1 h5⟩
end DNew
theorem n_new (w : World) : Calls Try.prog 14 #[] w fun e w' => ∃ d, e = .returned (.pointer (some ⟨d, 0, none⟩)) ∧ DNew w w' d newD ∧ Kp No w w' :=
  (d_new w).mono fun _ _ ⟨d, F, he, h1, h2, h3⟩ => ⟨d, he, ⟨F, h1, h2, h3⟩, h2⟩
section
variable {w0 : World} {d : Nat} {x : DV} (n s : ByteArray) (w : World) (h : DNew w0 w d x)
include h
theorem n_append : Calls Try.prog 15 #[.pointer (some ⟨d, 0, none⟩), .string n, .string s] w fun e w' => e = .returned (.int .i64 (appendD n s x).1) ∧ DNew w0 w' d (appendD n s x).2 ∧ KpT w w' := by
  obtain ⟨F, h1, h2, h3⟩ := h
  exact (d_append d x F n s w h1).mono fun e w' ⟨he, h4⟩ => ⟨he, DNew.step ⟨F, h1, h2, h3, h4⟩⟩
theorem n_sync : Calls Try.prog 58 #[.pointer (some ⟨d, 0, none⟩), .string n] w fun e w' => e = .returned (.int .i64 (syncD n x).1) ∧ DNew w0 w' d (syncD n x).2 ∧ KpT w w' := by
  obtain ⟨F, h1, h2, h3⟩ := h
  exact (d_sync d x F n w h1).mono fun e w' ⟨he, h4⟩ => ⟨he, DNew.step ⟨F, h1, h2, h3, h4⟩⟩
theorem n_remove : Calls Try.prog 60 #[.pointer (some ⟨d, 0, none⟩), .string n] w fun e w' => e = .returned (.int .i64 (removeD n x).1) ∧ DNew w0 w' d (removeD n x).2 ∧ KpT w w' := by
  obtain ⟨F, h1, h2, h3⟩ := h
  exact (d_remove d x F n w h1).mono fun e w' ⟨he, h4⟩ => ⟨he, DNew.step ⟨F, h1, h2, h3, h4⟩⟩
theorem n_flip (b : Int) (hb : (Lit.int .i64 b).wf = true) : Calls Try.prog 37 #[.pointer (some ⟨d, 0, none⟩), .string n, .int .i64 b] w fun e w' => e = .returned (.int .i64 (flipD n b x).1) ∧ DNew w0 w' d (flipD n b x).2 ∧ KpT w w' := by
  obtain ⟨F, h1, h2, h3⟩ := h
  exact (d_flip d x F n b w h1 hb).mono fun e w' ⟨he, h4⟩ => ⟨he, DNew.step ⟨F, h1, h2, h3, h4⟩⟩
theorem n_fuse (b : Int) (hb : (Lit.int .i64 b).wf = true) : Calls Try.prog 59 #[.pointer (some ⟨d, 0, none⟩), .int .i64 b] w fun e w' => e = .returned (.tuple #[]) ∧ DNew w0 w' d (fuseD b x) ∧ KpT w w' := by
  obtain ⟨F, h1, h2, h3⟩ := h
  exact (d_fuse d x F b w h1 hb).mono fun e w' ⟨he, h4, h5⟩ => ⟨he, DNew.step ⟨F, h1, h2, h3, F, h4, h5, fun k hk => .inl hk⟩⟩
theorem n_crash (w2 : World) (hk : Kp No w w2) (A0 : Option Addr) (c0 : Nat) (ks : List Int) (S : Nat → Prop) (hn : x.files.length ≤ 1000000) (hks : (Rp.int .i64).slice.R w2 S [.slice A0 ks.length c0] ks) (hS : ∀ k, S k → w.heap.size ≤ k ∨ k < w0.heap.size) :
    Calls Try.prog 21 #[.pointer (some ⟨d, 0, none⟩), .slice A0 ks.length c0] w2 fun e w' => e = .returned (.tuple #[]) ∧ DNew w0 w' d (crashD ks x) ∧ KpT w2 w' := by
  obtain ⟨F, h1, h2, h3⟩ := h
  exact (d_crash d x F A0 c0 ks S w2 (h1.keptNo hk) hn hks (fun k hs hf => by have := h1.lt k hf; have := h3 k hf; rcases hS k hs with h | h <;> omega)).mono fun e w' ⟨he, h4⟩ => ⟨he, DNew.step ⟨F, h1.keptNo hk, h2.trans' hk, h3, h4⟩⟩
theorem n_read : Calls Try.prog 16 #[.pointer (some ⟨d, 0, none⟩), .string n] w fun e w' => e = .returned (.tuple #[.string (textOr (readD n x)), .bool (readD n x).isSome]) ∧ w' = w := by
  obtain ⟨F, h1, h2, h3⟩ := h
  exact d_read d x F n w h1
theorem n_down : Calls Try.prog 22 #[.pointer (some ⟨d, 0, none⟩)] w fun e w' => e = .returned (.bool x.off) ∧ w' = w := by
  obtain ⟨F, h1, h2, h3⟩ := h
  exact d_down d x F w h1
theorem n_steps : Calls Try.prog 18 #[.pointer (some ⟨d, 0, none⟩)] w fun e w' => e = .returned (.int .i64 x.steps) ∧ w' = w := by
  obtain ⟨F, h1, h2, h3⟩ := h
  exact d_steps d x F w h1
theorem n_names (hn : x.files.length ≤ 1000000) : Calls Try.prog 27 #[.pointer (some ⟨d, 0, none⟩), .string n] w fun e w' => ∃ A c, e = .returned (.slice A (namesD n x).length c) ∧ Own Rp.str w' No w.heap.size 9 (.slice A (namesD n x).length c) (namesD n x) ∧ Kp No w w' := by
  obtain ⟨F, h1, h2, h3⟩ := h
  exact d_names d x F n w h1 hn
end

/-- what the drive of 'awake' goes through -/
theorem awake_plain : ∃ s1 s2 s3 s4 s5 s6 s7 : DV, appendD ⟨#[97]⟩ ⟨#[120, 121]⟩ newD = (0, s1) ∧ syncD ⟨#[97]⟩ s1 = (0, s2) ∧ appendD ⟨#[97]⟩ ⟨#[122]⟩ s2 = (0, s3) ∧ crashD [1] s3 = s4 ∧ readD ⟨#[97]⟩ s4 = some ⟨#[120, 121, 122]⟩ ∧ fuseD 1 s4 = s5 ∧
    appendD ⟨#[98]⟩ ⟨#[113]⟩ s5 = (0, s6) ∧ syncD ⟨#[98]⟩ s6 = (50, s7) ∧ s7.off = true ∧ appendD ⟨#[65]⟩ ⟨#[]⟩ s7 = (1, s7) ∧ s7.steps = 4 ∧ s3.files.length = 1 := by
  refine ⟨_, _, _, _, _, _, _, Prod.ext ?_ rfl, Prod.ext ?_ rfl, Prod.ext ?_ rfl, rfl, ?_, rfl, Prod.ext ?_ rfl, Prod.ext ?_ rfl, ?_, ?_, ?_, ?_⟩ <;> kernel_rfl
end Go.Proofs.Ytflodiljgphkdaa
