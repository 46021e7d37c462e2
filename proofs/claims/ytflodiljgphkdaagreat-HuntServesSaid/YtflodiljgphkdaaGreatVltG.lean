/-
  vault: a vault that the call itself has made; rows of other types stay as they were.
-/
import Derived.Test.YtflodiljgphkdaaGreatVltN
namespace Go.Proofs.YtflodiljgphkdaaGreat
open Go.RowKit Go.ChangeShapes Go.WideShapes Go.ChangeAt

/-- the types of a vault's own rows -/
def VT (e : TypeId) : Prop := e = 74 ∨ e = 66 ∨ e = 97 ∨ e = 5
instance (e : TypeId) : Decidable (VT e) := by unfold VT; exact inferInstance
/-- all rows but those of a vault's own types are as they were -/
def KpV (w w' : World) : Prop := ∃ T, Kp T w w' ∧ ∀ (g : Nat) cs (e : TypeId) fr, w.heap[g]? = some (.cells cs e fr) → T g → VT e
namespace KpV
variable {w w' a b c : World}
theorem ofNo (h : Kp No w w') : KpV w w' := ⟨No, h, fun _ _ _ _ _ h => h.elim⟩
theorem refl (w : World) : KpV w w := ofNo (Kp.refl _ _)
theorem size (h : KpV w w') : w.heap.size ≤ w'.heap.size := by obtain ⟨_, h, _⟩ := h; exact h.size
theorem trans (h : KpV a b) (k : KpV b c) : KpV a c := by
  obtain ⟨T1, h1, h2⟩ := h
  obtain ⟨T2, k1, k2⟩ := k
  refine ⟨fun g => T1 g ∨ T2 g, (h1.mono fun _ _ h => .inl h).trans k1 fun _ _ h => .inr h, fun g cs e fr hg ht => ?_⟩
  by_cases h3 : T1 g
  · exact h2 g cs e fr hg h3
  · have hlt : g < a.heap.size := (Array.getElem?_eq_some_iff.1 hg).1
    exact k2 g cs e fr ((h1.block g hlt h3).trans hg) (ht.resolve_left h3)
theorem blk (h : KpV w w') {g : Nat} {e : TypeId} {vs : List Value} (hb : Blk w g e vs) (he : ¬ VT e) : Blk w' g e vs := by
  obtain ⟨T, h1, h2⟩ := h
  exact Blk.kept hb h1 fun ht => he (h2 g _ e _ hb ht)
theorem own (h : KpV w w') {α : Type} {E : Rp α} {base : Nat} {e : TypeId} {v : Value} {l : List α} (ho : Own E w No base e v l) (he : ¬ VT e) : Own E w' No base e v l := by
  obtain ⟨T, h1, h2⟩ := h
  exact ho.kept h1 (fun _ hk => hk.elim) fun k hk ht => by
    obtain ⟨cs, hc⟩ := ho.block hk
    exact he (h2 k _ _ _ hc ht)
end KpV
theorem VAt.types {w : World} {v d : Nat} {X : VV} {F : Nat → Prop} (h : VAt w v d X F) {k : Nat} (hk : F k) {cs : Array Value} {e : TypeId} {fr : Nat × Nat} (hb : w.heap[k]? = some (.cells cs e fr)) : VT e := by
  obtain ⟨b, kp, lb, lk, F0, h, hF⟩ := h
  rcases (hF k).1 hk with rfl | rfl | rfl | hk
  · have h1 : w.heap[k]? = some (.cells _ 74 (0, 0)) := h.blk
    rw [h1] at hb; injection hb with hb; injection hb with _ hb; exact .inl hb.symm
  · obtain ⟨es, c, h1, _⟩ := h.needs
    rw [h1] at hb; cases hb
  · obtain ⟨es, c, h1, _⟩ := h.keeps
    rw [h1] at hb; cases hb
  · exact .inr (h.disk.types hk hb)
theorem VAt.keptS {w w' : World} {v d : Nat} {X : VV} {F S : Nat → Prop} (h : VAt w v d X F) (hk : Kp S w w') (hs : ∀ k, F k → ¬ S k) : VAt w' v d X F := by
  obtain ⟨b, kp, lb, lk, F0, h, hF⟩ := h
  exact ⟨b, kp, lb, lk, F0, ⟨Blk.kept h.blk hk (hs v ((hF v).2 (.inl rfl))), h.needs.kept hk (hs b ((hF b).2 (.inr (.inl rfl)))), h.keeps.kept hk (hs kp ((hF kp).2 (.inr (.inr (.inl rfl))))), h.bents, h.kents, h.disk.kept hk (fun k hf => hs k ((hF k).2 (.inr (.inr (.inr hf))))), h.ne, h.nv, h.nb, h.nk, h.ok⟩, hF⟩
namespace VNew
variable {w0 w w' : World} {v d : Nat} {X Y : VV}
theorem stepV (h : ∃ F, VAt w v d X F ∧ Kp No w0 w ∧ (∀ k, F k → w0.heap.size ≤ k) ∧ ∃ F', VAt w' v d Y F' ∧ Upd F w w' F') : VNew w0 w' v d Y ∧ KpV w w' := by
  refine ⟨VNew.step h, ?_⟩
  obtain ⟨F, h1, _, _, F', _, h5, _⟩ := h
  exact ⟨F, h5, fun g cs e fr hg hf => h1.types hf hg⟩
/-- rows of other types turned -/
theorem others {S : Nat → Prop} (h : VNew w0 w v d X) (hk : Kp S w w') (h0 : ∀ k, S k → w0.heap.size ≤ k) (hs : ∀ k, S k → ∃ cs e fr, w.heap[k]? = some (.cells cs e fr) ∧ ¬ VT e) : VNew w0 w' v d X := by
  obtain ⟨F, h1, h2, h3⟩ := h
  refine ⟨F, h1.keptS hk (fun k hf hsk => ?_), h2.trans hk (fun i hi hsi => absurd (h0 i hsi) (by omega)), h3⟩
  obtain ⟨cs, e, fr, hc, he⟩ := hs k hsk
  exact he (h1.types hf hc)
end VNew
section
variable {w0 : World} {v d : Nat} {X : VV} (n : ByteArray) (w : World) (h : VNew w0 w v d X)
include h
theorem g_put (hl : X.kept.length < 2000000) : Calls Tryz.prog 10 #[.pointer (some ⟨v, 0, none⟩), .string n] w fun e w' => e = .returned (.tuple #[.string (putV n X).1.1, .int .i64 (putV n X).1.2]) ∧ VNew w0 w' v d (putV n X).2 ∧ KpV w w' := by
  obtain ⟨F, h1, h2, h3⟩ := h
  exact (v_put v d X F n w h1 hl).mono fun e w' ⟨he, h4⟩ => ⟨he, VNew.stepV ⟨F, h1, h2, h3, h4⟩⟩
theorem g_get (hs : n.size ≤ 1048576) : Calls Tryz.prog 52 #[.pointer (some ⟨v, 0, none⟩), .string n] w fun e w' => e = .returned (.tuple #[.string (getV n X).1.1, .int .i64 (getV n X).1.2]) ∧ VNew w0 w' v d (getV n X).2 ∧ KpV w w' := by
  obtain ⟨F, h1, h2, h3⟩ := h
  exact (v_get v d X F n hs w h1).mono fun e w' ⟨he, h4⟩ => ⟨he, VNew.stepV ⟨F, h1, h2, h3, h4⟩⟩
theorem g_flip (b : Int) (hb : (Lit.int .i64 b).wf = true) : Calls Tryz.prog 14 #[.pointer (some ⟨d, 0, none⟩), .string n, .int .i64 b] w fun e w' => e = .returned (.int .i64 (flipD n b X.d).1) ∧ VNew w0 w' v d { X with d := (flipD n b X.d).2 } ∧ KpV w w' := by
  obtain ⟨F, ⟨b0, kp, lb, lk, F0, h1, hF⟩, h2, h3⟩ := h
  refine (d_flip d X.d F0 n b w h1.disk hb).mono fun e w' ⟨he, F', h5, h6⟩ => ⟨he, VNew.stepV ⟨F, ⟨b0, kp, lb, lk, F0, h1, hF⟩, h2, h3, _, ⟨b0, kp, lb, lk, F', h1.turned h5 h6 (flipD_ok h1.ok.dk n b), fun k => Iff.rfl⟩, Upd.vault hF h6⟩⟩
end
/-- a vault on a drive that was just made -/
theorem g_open {w0 w : World} {d : Nat} {x : DV} (h : DNew w0 w d x) (q : Int) (hf : x.files = []) (ho : x.off = false) (h0 : 0 ≤ q) (h1 : q ≤ 1048576) :
    Calls Tryz.prog 8 #[.pointer (some ⟨d, 0, none⟩), .int .i64 q] w fun e w' => ∃ v, e = .returned (.tuple #[.pointer (some ⟨v, 0, none⟩), .int .i64 0]) ∧ VNew w0 w' v d (openV x q) ∧ Kp No w w' := by
  obtain ⟨F0, g1, g2, g3⟩ := h
  refine (v_open d x F0 q w g1 hf ho h0 h1).mono fun e w' ⟨v, F, he, h2, h3, h4⟩ => ⟨v, he, ⟨F, h2, g2.trans' h3, fun k hk => ?_⟩, h3⟩
  rcases h4 k hk with h | h
  · exact g3 k h
  · exact Nat.le_trans g2.size h
/-- what Get answers -/
theorem getV_cases (h : ByteArray) (X : VV) : (∃ s, (getV h X).1 = (s, 0) ∧ s.size ≠ 0 ∧ s.size ≤ 64 ∧ digest s = h) ∨ (∃ e, (getV h X).1 = (⟨#[]⟩, e) ∧ e ≠ 0) := by
  unfold getV
  split
  · exact .inr ⟨50, rfl, by omega⟩
  split
  · exact .inr ⟨100, rfl, by omega⟩
  split
  · rename_i _ _ hw
    unfold wholeB goodC at hw
    simp only [Bool.and_eq_true, decide_eq_true_eq] at hw
    exact .inl ⟨_, rfl, hw.2.1, hw.2.2.1, hw.2.2.2⟩
  split
  · exact .inr ⟨101, rfl, by omega⟩
  · rename_i hd
    exact .inr ⟨_, rfl, hd⟩
theorem dropV_len (h : ByteArray) (X : VV) : (dropV h X).2.kept.length ≤ X.kept.length := by
  unfold dropV
  split
  · exact mdel_length _ _
  · exact Nat.le_refl _
theorem getV_len (h : ByteArray) (X : VV) : (getV h X).2.kept.length ≤ X.kept.length := by
  unfold getV
  split
  · exact Nat.le_refl _
  split
  · exact Nat.le_refl _
  split
  · exact Nat.le_refl _
  split
  · exact dropV_len _ _
  · exact dropV_len _ _
theorem writeV_len (c h : ByteArray) (X : VV) : (writeV c h X).2.kept.length ≤ X.kept.length + 1 := by
  unfold writeV
  split
  · exact Nat.le_succ _
  split
  · exact Nat.le_succ _
  split
  · exact Nat.le_succ _
  · exact ins_length _
theorem putV_len (c : ByteArray) (X : VV) : (putV c X).2.kept.length ≤ X.kept.length + 1 := by
  unfold putV
  split
  · exact Nat.le_succ _
  split
  · exact Nat.le_succ _
  split
  · exact Nat.le_succ _
  split
  · split
    · exact Nat.le_trans (writeV_len _ _ _) (Nat.succ_le_succ (dropV_len _ _))
    · exact Nat.le_succ_of_le (dropV_len _ _)
  · exact writeV_len _ _ _
end Go.Proofs.YtflodiljgphkdaaGreat
