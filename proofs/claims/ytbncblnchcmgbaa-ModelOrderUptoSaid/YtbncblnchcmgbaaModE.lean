/-
  Plain: a model stays one that may be (OkM); what Awake26 asks of it.
-/
import Derived.Test.YtbncblnchcmgbaaModD
import Derived.Test.YtbncblnchcmgbaaDeedL
namespace Go.Proofs.Ytbncblnchcmgbaa
open Go.RowKit Go.ChangeShapes Go.WideShapes Go.ChangeAt

theorem row_lined : ∀ {l : List OpL} {n e s : Int}, rowGo n e s l = true → ∀ a ∈ linedL (n, e) l, a.an = a.op.n - 1 ∧ n + 1 ≤ a.op.n ∧ a.op.n ≤ n + (l.length : Int) ∧ a.op ∈ l
  | [], _, _, _, _, a, ha => by simp [linedL] at ha
  | o :: l, n, e, s, h, a, ha => by
    unfold rowGo at h
    rw [Bool.and_eq_true, decide_eq_true_iff] at h
    obtain ⟨h1, h2⟩ := h
    have hn : o.n = n + 1 := h1.2.1
    simp only [List.length_cons]
    unfold linedL at ha
    rcases List.mem_cons.1 ha with rfl | ha
    · refine ⟨?_, ?_, ?_, List.mem_cons_self⟩
      · show n = o.n - 1; omega
      · show n + 1 ≤ o.n; omega
      · show o.n ≤ _; omega
    · obtain ⟨h3, h4, h5, h6⟩ := row_lined h2 a ha
      exact ⟨h3, by omega, by omega, List.mem_cons_of_mem _ h6⟩
theorem OkM.putAll_ : ∀ {m : List LineL} {M : MV}, OkM M → (∀ a ∈ m, a.an = a.op.n - 1 ∧ 1 ≤ a.op.n ∧ a.op.n ≤ 1000000 ∧ a.op.hashes.length ≤ 1000000) → OkM { M with lines := putAll M.lines m }
  | [], M, h, _ => h
  | a :: m, M, h, hm => by
    have ha := hm a List.mem_cons_self
    have h1 : OkM { M with lines := mput a.place a M.lines } := by
      have hg : ∀ p l, mget p (mput a.place a M.lines) = some l → (p = a.place ∧ l = a) ∨ mget p M.lines = some l := fun p l hp => by
        rw [mget_put] at hp
        split at hp
        · rename_i e
          injection hp with hp
          exact .inl ⟨e, hp.symm⟩
        · exact .inr hp
      refine ⟨fun p l hp => ?_, fun p l hp => ?_, fun p l hp => ?_, fun p l hp => ?_⟩
      · rcases hg p l hp with ⟨rfl, rfl⟩ | hp
        · rfl
        · exact h.key p l hp
      · rcases hg p l hp with ⟨rfl, rfl⟩ | hp
        · exact ⟨ha.2.1, ha.2.2.1⟩
        · exact h.low p l hp
      · rcases hg p l hp with ⟨rfl, rfl⟩ | hp
        · exact ha.1
        · exact h.ahead p l hp
      · rcases hg p l hp with ⟨rfl, rfl⟩ | hp
        · exact ha.2.2.2
        · exact h.hashes p l hp
    exact OkM.putAll_ (m := m) (M := { M with lines := mput a.place a M.lines }) h1 (fun b hb => hm b (List.mem_cons_of_mem _ hb))
theorem OkM.see {M : MV} (h : OkM M) {l : List OpL} (hll : l.length ≤ 1000000) (hsm : ∀ o ∈ l, o.hashes.length ≤ 1000000) : OkM (seeL l M).2 := by
  unfold seeL
  split
  · exact h
  · split
    · exact h
    · rename_i hr _
      have hr2 : rowGo 0 0 (-1) l = true := by
        have : rowB 0 0 l = true := by simpa using hr
        unfold rowB at this
        exact (Bool.and_eq_true_iff.1 this).2
      exact OkM.putAll_ h (fun a ha => by
        obtain ⟨h1, h2, h3, h4⟩ := row_lined hr2 a ha
        exact ⟨h1, by omega, by omega, hsm _ h4⟩)
theorem OkM.new : OkM ⟨[], []⟩ := ⟨fun _ _ h => (by cases h), fun _ _ h => (by cases h), fun _ _ h => (by cases h), fun _ _ h => (by cases h)⟩
theorem OkM.asked {M : MV} (h : OkM M) (l : List AskL) : OkM { M with asks := l } := ⟨h.key, h.low, h.ahead, h.hashes⟩
/-- the operations of redoubtlaw26.awake -/
def opA : OpL := ⟨1, 1, 3, 0, 0, 0, ByteArray.empty, 0, []⟩
def opB : OpL := ⟨2, 1, 1, 0, 0, 1, ⟨#[97]⟩, 0, []⟩
def opC : OpL := ⟨2, 2, 3, 0, 0, 0, ByteArray.empty, 0, []⟩
def opD : OpL := ⟨2, 1, 1, 0, 0, 1, ⟨#[98]⟩, 0, []⟩
def askA : AskL := ⟨1, 0, 1, ⟨#[97]⟩, ByteArray.empty, 0, 0⟩
def M1 : MV := (seeL [opA, opB] ⟨[], []⟩).2
def M2 : MV := (seeL [opA, opC] M1).2
def M3 : MV := { M2 with asks := [askA] }
theorem see1 : (seeL [opA, opB] ⟨[], []⟩).1 = 0 := by decide +kernel
theorem see2 : (seeL [opA, opC] M1).1 = 0 := by decide +kernel
theorem see3 : seeL [opA, opD] M2 = (200, M2) := by
  unfold seeL
  rw [if_neg (by decide +kernel), if_pos (by decide +kernel)]
theorem see1' : (seeL [opA, opC] ⟨[], []⟩).1 = 0 := by decide +kernel
theorem see2' : (seeL [opA, opB] (seeL [opA, opC] ⟨[], []⟩).2).1 = 0 := by decide +kernel
theorem names_a : namesM M2 (2, 1) = [⟨#[97]⟩] := by decide +kernel
theorem path_a : (pathM M2 (2, 1)).isSome = true := by decide +kernel
theorem path_b : (pathM M2 (3, 1)).isSome = false := by decide +kernel
theorem judge_a : judge4 M3 (2, 1) ⟨#[97]⟩ = 0 := by decide +kernel
theorem judge_b : judge4 M3 (2, 2) ⟨#[97]⟩ = 200 := by decide +kernel
end Go.Proofs.Ytbncblnchcmgbaa
