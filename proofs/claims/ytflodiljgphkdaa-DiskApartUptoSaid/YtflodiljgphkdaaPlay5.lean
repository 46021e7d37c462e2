/-
  What DiskPlays and DiskApart share: calls of both drives.
-/
import Derived.Test.YtflodiljgphkdaaAlike
namespace Go.Proofs.Ytflodiljgphkdaa
open Go.RowKit Go.ChangeShapes Go.WideShapes Go.ChangeAt

theorem Rp.old {α : Type} (E : Rp α) {w0 a b : World} {cs : List Value} {x : α} (h : E.R a (fun k => k < w0.heap.size) cs x) (ha : Kp No w0 a) (hb : Kp No w0 b) : E.R b (fun k => k < w0.heap.size) cs x :=
  E.keep (fun _ h => h) (fun k hk => (hb.block k hk (fun x => x)).trans (ha.block k hk (fun x => x)).symm) h
theorem DNew.mono {w0 a w : World} {d : Nat} {x : DV} (h : DNew a w d x) (hk : Kp No w0 a) : DNew w0 w d x := by
  obtain ⟨F, h1, h2, h3⟩ := h
  exact ⟨F, h1, hk.trans' h2, fun k hF => Nat.le_trans hk.size (h3 k hF)⟩
theorem RNew.mono {w0 a w : World} {d : Nat} {x : DV} (h : RNew a w d x) (hk : Kp No w0 a) : RNew w0 w d x := by
  obtain ⟨F, h1, h2, h3⟩ := h
  exact ⟨F, h1, hk.trans' h2, fun k hF => Nat.le_trans hk.size (h3 k hF)⟩
theorem n_didA {w0 w : World} {d : Nat} {x : DV} (h : DNew w0 w d x) (o : OpV) (A : Option Addr) (c : Nat) (S : Nat → Prop) (hv : (Rp.int .i64).slice.R w S [.slice A o.keeps.length c] o.keeps) (hwf : (Lit.int .i64 o.n).wf = true) (hn : x.files.length ≤ 1000000) (hkl : o.keeps.length ≤ 1048576) :
    Calls Try.prog 20 #[.pointer (some ⟨d, 0, none⟩), opAgg o (.slice A o.keeps.length c)] w fun e w' => ∃ d', e = .returned (.tuple #[.pointer (some ⟨d', 0, none⟩), .int .i64 (doD o x).1]) ∧ DNew w0 w' d' (doD o x).2 ∧ KpT w w' := by
  by_cases h7 : o.kind = 7
  · obtain ⟨F, h1, h2, h3⟩ := h
    have he : doD o x = (0, x) := by unfold doD; simp [h7]
    rw [he]
    exact (n_did7 h1 o A _ c h7).mono fun e w' ⟨d', F', he, g1, g2, g3⟩ => ⟨d', he, ⟨F', g1, h2.trans' g2, fun k hk => Nat.le_trans h2.size (g3 k hk)⟩, KpT.ofNo g2⟩
  · exact (n_did h o A c S hv hwf h7 hn hkl).mono fun e w' ⟨he, g1, g2⟩ => ⟨d, he, g1, g2⟩
end Go.Proofs.Ytflodiljgphkdaa
