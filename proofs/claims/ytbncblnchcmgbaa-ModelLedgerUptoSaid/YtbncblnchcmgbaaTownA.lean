/-
  A command comes to one of two ledgers.
-/
import Derived.Test.YtbncblnchcmgbaaTown
import Derived.Test.YtbncblnchcmgbaaOwnC
namespace Go.Proofs.Ytbncblnchcmgbaa
open Go.RowKit Go.ChangeShapes Go.WideShapes Go.ChangeAt

theorem TIn.applyC {w0 w : World} {t : Nat} {x : Bool → Nat} {F : Bool → Nat → Prop} {sv tv : Value} {S : Nat → Prop} {T : TV} (h : TIn w0.heap.size w t x F sv tv S T) (hk : Kp No w0 w) {i : Nat} (hok : TOk i T) (hi : i ≤ 1000) (s : Bool) (c : CmdL) (A Bo : Option Addr) (ca cb : Nat) (SA : Nat → Prop)
    (hh : Rp.str.slice.R w SA [.slice A c.op.hashes.length ca] c.op.hashes) (ho : Rp.opl.slice.R w SA [.slice Bo c.ops.length cb] c.ops) (hsa : ∀ k, SA k → k < w.heap.size → ¬ F s k) (hsz : -9223372036854775808 ≤ c.op.size ∧ c.op.size < 9223372036854775808) (hs : SmallC 1000000 1000000 c) :
    Calls Try.prog 40 #[.pointer (some ⟨x s, 0, none⟩), cmdV c (.slice A c.op.hashes.length ca) (.slice Bo c.ops.length cb)] w fun e w' => e = .returned (doneV (applyL c (T.l s)).1) ∧ ∃ F', TIn w0.heap.size w' t x F' sv tv S (T.put s (applyL c (T.l s)).2) ∧ Kp No w0 w' := by
  refine (a_apply c A Bo ca cb SA (80 * i) (x s) (T.l s) (F s) w (h.led s) (hok.led s) (by omega) hh ho hsa hsz hs.1 hs.2.1 hs.2.2).mono ?_
  rintro e w' ⟨rfl, F', ha, hu⟩
  exact ⟨rfl, _, h.apply hk.size s ha hu, hk.trans hu.kp (fun k hk hf => by have := h.fb s k hf; omega)⟩
/-- one of the letters -/
theorem TIn.at_sent {n0 : Nat} {w : World} {t : Nat} {x : Bool → Nat} {F : Bool → Nat → Prop} {sv tv : Value} {S : Nat → Prop} {T : TV} (h : TIn n0 w t x F sv tv S T) {k : Nat} {p : CmdL × Bool} (hp : T.sent[k]? = some p) :
    ∃ ad c ad2 c2 A' c' B' d', sv = .slice (some ad) T.sent.length c ∧ tv = .slice (some ad2) T.sent.length c2 ∧ (∀ (j : Nat) u, (p.1.cells (.slice A' p.1.op.hashes.length c') (.slice B' p.1.ops.length d'))[j]? = some u → w.cell? ((ad.add (k * 16)).add j) = some u) ∧ p.1.nums ∧
      Rp.str.slice.R w (fun k => n0 ≤ k) [.slice A' p.1.op.hashes.length c'] p.1.op.hashes ∧ Rp.opl.slice.R w (fun k => n0 ≤ k) [.slice B' p.1.ops.length d'] p.1.ops ∧ w.cell? (ad2.add k) = some (.int .i64 (sI p.2)) := by
  obtain ⟨A, c, he⟩ := h.sent.shape
  obtain ⟨A2, c2, he2⟩ := h.tos.shape
  have h1 := h.sent.readFrom
  have h2 := h.tos.readFrom
  rw [he] at h1
  rw [he2] at h2
  have hp1 : (T.sent.map (·.1))[k]? = some p.1 := by rw [List.getElem?_map, hp]; rfl
  have hp2 : (T.sent.map fun p => sI p.2)[k]? = some (sI p.2) := by rw [List.getElem?_map, hp]; rfl
  obtain ⟨ad, A', c', B', d', hA, _, hcell, hn, hr1, hr2⟩ := Rp.at_cmd h1 hp1
  obtain ⟨ad2, hA2, _, hc2, _⟩ := Rp.at_int h2 hp2
  subst hA hA2
  rw [List.length_map] at he he2
  have hS : ∀ k, (S k ∨ n0 ≤ k) → n0 ≤ k := fun k hk => by
    rcases hk with hk | hk
    · exact (h.sb k hk).1
    · exact hk
  exact ⟨ad, c, ad2, c2, A', c', B', d', he, he2, hcell, hn, Rp.str.slice.more hr1 hS, Rp.opl.slice.more hr2 hS, hc2⟩
end Go.Proofs.Ytbncblnchcmgbaa
