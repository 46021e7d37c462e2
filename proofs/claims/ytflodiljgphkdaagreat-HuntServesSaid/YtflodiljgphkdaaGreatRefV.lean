/-
  The document's drive and the program's vault side by side: rows by their types.
-/
import Derived.Test.YtflodiljgphkdaaGreatRefM
import Derived.Test.YtflodiljgphkdaaGreatVltG
namespace Go.Proofs.YtflodiljgphkdaaGreat
open Go.RowKit Go.ChangeShapes Go.WideShapes Go.ChangeAt

theorem RAt.types {w : World} {r : Nat} {x : DV} {F : Nat → Prop} (h : RAt w r x F) {k : Nat} (hk : F k) : ∃ cs e, w.heap[k]? = some (.cells cs e (0, 0)) ∧ (e = 69 ∨ e = 100) := by
  obtain ⟨v, h, hF⟩ := h
  rcases (hF k).1 hk with rfl | hv
  · exact ⟨_, _, h.blk, .inl rfl⟩
  · obtain ⟨cs, h1⟩ := h.row.types hv
    exact ⟨_, _, h1, .inr rfl⟩
/-- A drive of the document's that is new since w0; nothing of before has turned. -/
def RNew (w0 w : World) (r : Nat) (x : DV) : Prop := ∃ F, RAt w r x F ∧ Kp No w0 w ∧ ∀ k, F k → w0.heap.size ≤ k
/-- the types of the document's drive's rows -/
def RD (e : TypeId) : Prop := e = 69 ∨ e = 100
instance (e : TypeId) : Decidable (RD e) := by unfold RD; exact inferInstance
/-- the types of the document's vault's rows -/
def RT (e : TypeId) : Prop := e = 54 ∨ RD e
instance (e : TypeId) : Decidable (RT e) := by unfold RT; exact inferInstance
theorem RD.rt {e : TypeId} (h : RD e) : RT e := .inr h
theorem RT.notV {e : TypeId} (h : RT e) : ¬ VT e := by rcases h with rfl | rfl | rfl <;> decide
/-- all rows but some of these types, new since w0, are as they were -/
def KpTy (Ty : TypeId → Prop) (w0 w w' : World) : Prop := ∃ T, Kp T w w' ∧ ∀ (g : Nat), T g → w0.heap.size ≤ g ∧ ∃ cs e, w.heap[g]? = some (.cells cs e (0, 0)) ∧ Ty e
namespace KpTy
variable {Ty Tz : TypeId → Prop} {w0 w w' a b c : World}
theorem ofNo (h : Kp No w w') : KpTy Ty w0 w w' := ⟨No, h, fun _ h => h.elim⟩
theorem refl (Ty : TypeId → Prop) (w0 w : World) : KpTy Ty w0 w w := ofNo (Kp.refl _ _)
theorem size (h : KpTy Ty w0 w w') : w.heap.size ≤ w'.heap.size := by obtain ⟨_, h, _⟩ := h; exact h.size
theorem mono (h : KpTy Ty w0 w w') (ht : ∀ e, Ty e → Tz e) : KpTy Tz w0 w w' := by
  obtain ⟨T, h1, h2⟩ := h
  refine ⟨T, h1, fun g hg => ?_⟩
  obtain ⟨h3, cs, e, hc, he⟩ := h2 g hg
  exact ⟨h3, cs, e, hc, ht e he⟩
theorem trans (h : KpTy Ty w0 a b) (k : KpTy Ty w0 b c) : KpTy Ty w0 a c := by
  obtain ⟨T1, h1, h2⟩ := h
  obtain ⟨T2, k1, k2⟩ := k
  refine ⟨fun g => T1 g ∨ (T2 g ∧ g < a.heap.size), (h1.mono fun _ _ h => .inl h).trans k1 fun g hg h => .inr ⟨h, hg⟩, fun g ht => ?_⟩
  by_cases h3 : T1 g
  · exact h2 g h3
  · obtain ⟨ht, hlt⟩ := ht.resolve_left h3
    obtain ⟨h4, cs, e, hc, he⟩ := k2 g ht
    exact ⟨h4, cs, e, (h1.block g hlt h3).symm.trans hc, he⟩
theorem kp (h : KpTy Ty w0 w w') (hk : Kp No w0 w) : Kp No w0 w' := by
  obtain ⟨T, h1, h2⟩ := h
  exact hk.trans h1 fun i hi ht => absurd (h2 i ht).1 (by omega)
theorem blk (h : KpTy Ty w0 w w') {g : Nat} {e : TypeId} {vs : List Value} (hb : Blk w g e vs) (he : ¬ Ty e) : Blk w' g e vs := by
  obtain ⟨T, h1, h2⟩ := h
  refine Blk.kept hb h1 fun ht => ?_
  obtain ⟨_, cs, e', hc, he'⟩ := h2 g ht
  have h3 : w.heap[g]? = some (.cells _ e (0, 0)) := hb
  rw [hc] at h3; injection h3 with h3; injection h3 with _ h3; subst h3; exact he he'
theorem own (h : KpTy Ty w0 w w') {α : Type} {E : Rp α} {base : Nat} {e : TypeId} {v : Value} {l : List α} (ho : Own E w No base e v l) (he : ¬ Ty e) : Own E w' No base e v l := by
  obtain ⟨T, h1, h2⟩ := h
  exact ho.kept h1 (fun _ hk => hk.elim) fun k hk ht => by
    obtain ⟨cs, hc⟩ := ho.block hk
    obtain ⟨_, cs', e', hc', he'⟩ := h2 k ht
    rw [hc] at hc'; injection hc' with hc'; injection hc' with _ hc'; subst hc'; exact he he'
/-- what lies in rows of other types -/
theorem sl {S : Nat → Prop} {cs : List Value} {l : List ByteArray} (h : KpTy Ty w0 w w') (hl : Rp.str.slice.R w S cs l) (hS : ∀ k, S k → ∃ cs e, w.heap[k]? = some (.cells cs e (0, 0)) ∧ ¬ Ty e) : Rp.str.slice.R w' S cs l := by
  obtain ⟨T, h1, h2⟩ := h
  refine Rp.str.slice.kept hl h1 fun k hk _ ht => ?_
  obtain ⟨cs, e, hc, he⟩ := hS k hk
  obtain ⟨_, cs', e', hc', he'⟩ := h2 k ht
  rw [hc] at hc'; injection hc' with hc'; injection hc' with _ hc'; subst hc'; exact he he'
theorem vault (h : KpTy RT w0 w w') {v d : Nat} {X : VV} (hv : VNew w0 w v d X) : VNew w0 w' v d X := by
  obtain ⟨T, h1, h2⟩ := h
  exact hv.others h1 (fun k hk => (h2 k hk).1) fun k hk => by
    obtain ⟨_, cs, e, hc, he⟩ := h2 k hk
    exact ⟨cs, e, _, hc, he.notV⟩
end KpTy
namespace RNew
variable {w0 w w' : World} {r : Nat} {x y : DV}
theorem kp (h : RNew w0 w r x) : Kp No w0 w := by obtain ⟨_, _, h, _⟩ := h; exact h
theorem ok (h : RNew w0 w r x) : OkD x := by obtain ⟨_, h, _⟩ := h; exact h.ok
theorem kept (h : RNew w0 w r x) (hk : Kp No w w') : RNew w0 w' r x := by
  obtain ⟨F, h1, h2, h3⟩ := h
  exact ⟨F, h1.keptNo hk, h2.trans' hk, h3⟩
/-- rows of other types turned -/
theorem others {S : Nat → Prop} (h : RNew w0 w r x) (hk : Kp S w w') (h0 : Kp No w0 w') (hs : ∀ k cs e fr, S k → w.heap[k]? = some (.cells cs e fr) → e ≠ 69 ∧ e ≠ 100) : RNew w0 w' r x := by
  obtain ⟨F, h1, h2, h3⟩ := h
  refine ⟨F, h1.kept hk (fun k hf hsk => ?_), h0, h3⟩
  obtain ⟨cs, e, hc, he⟩ := h1.types hf
  have := hs k cs e _ hsk hc
  rcases he with he | he
  · exact this.1 he
  · exact this.2 he
theorem keptV (h : RNew w0 w r x) (hk : KpV w w') (h0 : Kp No w0 w') : RNew w0 w' r x := by
  obtain ⟨T, h1, h2⟩ := hk
  refine h.others h1 h0 fun k cs e fr hk hc => ?_
  have := h2 k cs e fr hc hk
  constructor <;> rintro rfl <;> exact absurd this (by decide)
theorem stepR (h : ∃ F, RAt w r x F ∧ Kp No w0 w ∧ (∀ k, F k → w0.heap.size ≤ k) ∧ ∃ F', RAt w' r y F' ∧ Upd F w w' F') : RNew w0 w' r y ∧ KpTy RD w0 w w' := by
  obtain ⟨F, h1, h2, h3, F', h4, h5, h6⟩ := h
  have hk : Kp No w0 w' := h2.trans h5 (fun k hk hf => absurd (h3 k hf) (by omega))
  refine ⟨⟨F', h4, hk, fun k hk => ?_⟩, F, h5, fun k hk => ⟨h3 k hk, ?_⟩⟩
  · rcases h6 k hk with h | h
    · exact h3 k h
    · have := h2.size; omega
  · obtain ⟨cs, e, hc, he⟩ := h1.types hk
    exact ⟨cs, e, hc, he⟩
end RNew
theorem m_new (w : World) : Calls Tryz.prog 7 #[] w fun e w' => ∃ r, e = .returned (.pointer (some ⟨r, 0, none⟩)) ∧ RNew w w' r newD ∧ Kp No w w' :=
  (r_new w).mono fun _ _ ⟨r, F, he, h1, h2, h3⟩ => ⟨r, he, ⟨F, h1, h2, h3⟩, h2⟩
section
variable {w0 : World} {r : Nat} {x : DV} (n s : ByteArray) (w : World) (h : RNew w0 w r x)
include h
theorem m_append (hx : x.files.length ≤ 1000000) (hn : n.size ≤ maxLen) : Calls Tryz.prog 47 #[.pointer (some ⟨r, 0, none⟩), .string n, .string s] w fun e w' => e = .returned (.int .i64 (appendD n s x).1) ∧ RNew w0 w' r (appendD n s x).2 ∧ KpTy RD w0 w w' := by
  obtain ⟨F, h1, h2, h3⟩ := h
  exact (r_append r x F n s w h1 hn hx).mono fun e w' ⟨he, h4⟩ => ⟨he, RNew.stepR ⟨F, h1, h2, h3, h4⟩⟩
theorem m_sync (hn : n.size ≤ maxLen) : Calls Tryz.prog 48 #[.pointer (some ⟨r, 0, none⟩), .string n] w fun e w' => e = .returned (.int .i64 (syncD n x).1) ∧ RNew w0 w' r (syncD n x).2 ∧ KpTy RD w0 w w' := by
  obtain ⟨F, h1, h2, h3⟩ := h
  exact (r_sync r x F n w h1 hn).mono fun e w' ⟨he, h4⟩ => ⟨he, RNew.stepR ⟨F, h1, h2, h3, h4⟩⟩
theorem m_remove (hx : x.files.length ≤ 1000000) (hn : n.size ≤ maxLen) : Calls Tryz.prog 35 #[.pointer (some ⟨r, 0, none⟩), .string n] w fun e w' => e = .returned (.int .i64 (removeD n x).1) ∧ RNew w0 w' r (removeD n x).2 ∧ KpTy RD w0 w w' := by
  obtain ⟨F, h1, h2, h3⟩ := h
  exact (r_remove r x F n w h1 hn hx).mono fun e w' ⟨he, h4⟩ => ⟨he, RNew.stepR ⟨F, h1, h2, h3, h4⟩⟩
theorem m_flip (b : Int) (hb : (Lit.int .i64 b).wf = true) : Calls Tryz.prog 15 #[.pointer (some ⟨r, 0, none⟩), .string n, .int .i64 b] w fun e w' => e = .returned (.int .i64 (flipD n b x).1) ∧ RNew w0 w' r (flipD n b x).2 ∧ KpTy RD w0 w w' := by
  obtain ⟨F, h1, h2, h3⟩ := h
  exact (r_flip r x F n b w h1 hb).mono fun e w' ⟨he, h4⟩ => ⟨he, RNew.stepR ⟨F, h1, h2, h3, h4⟩⟩
theorem m_read : Calls Tryz.prog 65 #[.pointer (some ⟨r, 0, none⟩), .string n] w fun e w' => e = .returned (.tuple #[.string (textOr (readD n x)), .bool (readD n x).isSome]) ∧ Kp No w w' := by
  obtain ⟨F, h1, h2, h3⟩ := h
  exact r_read r x F n w h1
theorem m_names (hn : x.files.length ≤ 1000000) : Calls Tryz.prog 32 #[.pointer (some ⟨r, 0, none⟩), .string n] w fun e w' => ∃ A c, e = .returned (.slice A (namesD n x).length c) ∧ Own Rp.str w' No w.heap.size 9 (.slice A (namesD n x).length c) (namesD n x) ∧ Kp No w w' := by
  obtain ⟨F, h1, h2, h3⟩ := h
  exact r_names r x F n w h1 hn
end
end Go.Proofs.YtflodiljgphkdaaGreat
