/-
  vault: a vault (with its drive) that the call itself has made.
-/
import Derived.Test.YtflodiljgphkdaaGreatVlt5
import Derived.Test.YtflodiljgphkdaaGreatM3
namespace Go.Proofs.YtflodiljgphkdaaGreat
open Go.RowKit Go.ChangeShapes Go.WideShapes Go.ChangeAt

/-- A vault that is new since w0; nothing of before has turned. -/
def VNew (w0 w : World) (v d : Nat) (X : VV) : Prop := ∃ F, VAt w v d X F ∧ Kp No w0 w ∧ ∀ k, F k → w0.heap.size ≤ k
namespace VNew
variable {w0 w w' : World} {v d : Nat} {X Y : VV}
theorem kp (h : VNew w0 w v d X) : Kp No w0 w := by obtain ⟨_, _, h, _⟩ := h; exact h
theorem ok (h : VNew w0 w v d X) : OkV X := by obtain ⟨_, h, _⟩ := h; exact h.ok
theorem kept (h : VNew w0 w v d X) (hk : Kp No w w') : VNew w0 w' v d X := by
  obtain ⟨F, h1, h2, h3⟩ := h
  exact ⟨F, h1.keptNo hk, h2.trans' hk, h3⟩
theorem step (h : ∃ F, VAt w v d X F ∧ Kp No w0 w ∧ (∀ k, F k → w0.heap.size ≤ k) ∧ ∃ F', VAt w' v d Y F' ∧ Upd F w w' F') : VNew w0 w' v d Y := by
  obtain ⟨F, h1, h2, h3, F', h4, h5, h6⟩ := h
  exact ⟨F', h4, h2.trans h5 (fun k hk hf => absurd (h3 k hf) (by omega)), fun k hk => by
    rcases h6 k hk with h | h
    · exact h3 k h
    · have := h2.size; omega⟩
end VNew
section
variable {w0 : World} {v d : Nat} {X : VV} (n : ByteArray) (w : World) (h : VNew w0 w v d X)
include h
theorem u_put (hl : X.kept.length < 2000000) : Calls Tryz.prog 10 #[.pointer (some ⟨v, 0, none⟩), .string n] w fun e w' => e = .returned (.tuple #[.string (putV n X).1.1, .int .i64 (putV n X).1.2]) ∧ VNew w0 w' v d (putV n X).2 := by
  obtain ⟨F, h1, h2, h3⟩ := h
  exact (v_put v d X F n w h1 hl).mono fun e w' ⟨he, h4⟩ => ⟨he, VNew.step ⟨F, h1, h2, h3, h4⟩⟩
theorem u_get (hs : n.size ≤ 1048576) : Calls Tryz.prog 52 #[.pointer (some ⟨v, 0, none⟩), .string n] w fun e w' => e = .returned (.tuple #[.string (getV n X).1.1, .int .i64 (getV n X).1.2]) ∧ VNew w0 w' v d (getV n X).2 := by
  obtain ⟨F, h1, h2, h3⟩ := h
  exact (v_get v d X F n hs w h1).mono fun e w' ⟨he, h4⟩ => ⟨he, VNew.step ⟨F, h1, h2, h3, h4⟩⟩
theorem u_has (hs : n.size ≤ 1048576) : Calls Tryz.prog 36 #[.pointer (some ⟨v, 0, none⟩), .string n] w fun e w' => e = .returned (.bool (hasV n X)) ∧ Kp No w w' := by
  obtain ⟨F, h1, h2, h3⟩ := h
  exact v_has v d X F n hs w h1
theorem u_bytes : Calls Tryz.prog 38 #[.pointer (some ⟨v, 0, none⟩)] w fun e w' => e = .returned (.int .i64 (bytesV X)) ∧ Kp No w w' := by
  obtain ⟨F, h1, h2, h3⟩ := h
  exact v_bytes v d X F w h1
theorem u_list (hsz : ∀ p ∈ X.kept, p.1.size ≤ 1048576) : Calls Tryz.prog 21 #[.pointer (some ⟨v, 0, none⟩)] w fun e w' => ∃ A c, e = .returned (.slice A (listV X).length c) ∧ Own Rp.str w' No w.heap.size 9 (.slice A (listV X).length c) (listV X) ∧ Kp No w w' := by
  obtain ⟨F, h1, h2, h3⟩ := h
  exact v_list v d X F w h1 hsz
theorem u_flip (b : Int) (hb : (Lit.int .i64 b).wf = true) : Calls Tryz.prog 14 #[.pointer (some ⟨d, 0, none⟩), .string n, .int .i64 b] w fun e w' => e = .returned (.int .i64 (flipD n b X.d).1) ∧ VNew w0 w' v d { X with d := (flipD n b X.d).2 } := by
  obtain ⟨F, ⟨b0, kp, lb, lk, F0, h1, hF⟩, h2, h3⟩ := h
  refine (d_flip d X.d F0 n b w h1.disk hb).mono fun e w' ⟨he, F', h4, h5⟩ => ⟨he, VNew.step ⟨F, ⟨b0, kp, lb, lk, F0, h1, hF⟩, h2, h3, _, ⟨b0, kp, lb, lk, F', h1.turned h4 h5 (flipD_ok h1.ok.dk n b), fun k => Iff.rfl⟩, Upd.vault hF h5⟩⟩
end
/-- a vault on a drive that was just made -/
theorem u_open {w0 w : World} {d : Nat} {x : DV} (h : DNew w0 w d x) (q : Int) (hf : x.files = []) (ho : x.off = false) (h0 : 0 ≤ q) (h1 : q ≤ 1048576) :
    Calls Tryz.prog 8 #[.pointer (some ⟨d, 0, none⟩), .int .i64 q] w fun e w' => ∃ v, e = .returned (.tuple #[.pointer (some ⟨v, 0, none⟩), .int .i64 0]) ∧ VNew w0 w' v d (openV x q) := by
  obtain ⟨F0, g1, g2, g3⟩ := h
  refine (v_open d x F0 q w g1 hf ho h0 h1).mono fun e w' ⟨v, F, he, h2, h3, h4⟩ => ⟨v, he, F, h2, g2.trans' h3, fun k hk => ?_⟩
  rcases h4 k hk with h | h
  · exact g3 k h
  · exact Nat.le_trans g2.size h
end Go.Proofs.YtflodiljgphkdaaGreat
