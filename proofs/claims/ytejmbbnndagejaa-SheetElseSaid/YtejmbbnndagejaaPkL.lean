/-
  Plain law: a sheet's bytes: how many; unlike sheets have unlike ones.
-/
import Derived.Test.YtejmbbnndagejaaRdL
import Derived.Test.YtejmbbnndagejaaShtL
namespace Go.Proofs.Ytejmbbnndagejaa
open Go.RowKit Go.ChangeShapes Go.WideShapes Go.ChangeAt

theorem pack_size {n : Int} {l : List ByteArray} (h : okSheet n l = true) : (packB n l).length ≤ 1000 ∧ (textsB l).length ≤ 900 ∧ l.length ≤ 9 ∧ 0 ≤ n ∧ n ≤ 512 ∧ ∀ s ∈ l, s.size = 32 := by
  unfold okSheet at h
  rw [Bool.and_eq_true, decide_eq_true_eq, List.all_eq_true] at h
  obtain ⟨⟨h0, h1, h2⟩, h3⟩ := h
  have hcn : cnt n ≤ 9 := by unfold cnt; split <;> omega
  have h4 : ∀ m : List ByteArray, (∀ s ∈ m, (s.size == 32) = true) → (textsB m).length ≤ 42 * m.length := by
    intro m
    induction m with
    | nil => intro _; simp [textsB]
    | cons x m ih =>
      intro hm
      have h5 := ih (fun s hs => hm s (List.mem_cons_of_mem _ hs))
      have h6 := hm x (List.mem_cons_self ..)
      simp at h6
      have e2 : textsB (x :: m) = textB x ++ textsB m := by unfold textsB; rw [List.flatMap_cons]
      have h7 : (textB x).length ≤ 10 + x.size := by
        unfold textB
        rw [List.length_append, data_length]
        have := numB_length (x.size : Int) (by omega) (by omega)
        omega
      rw [e2, List.length_append, List.length_cons]
      omega
  have h5 := h4 l h3
  have h6 := numB_length n (by omega) (by omega)
  have h7 := numB_length (l.length : Int) (by omega) (by omega)
  refine ⟨?_, by omega, by omega, h0, h1, fun s hs => by have := h3 s hs; simpa using this⟩
  unfold packB
  rw [List.length_append, List.length_append]
  omega

theorem pack_inj {n m : Int} {l l' : List ByteArray} (h : okSheet n l = true) (h' : okSheet m l' = true) (he : packB n l = packB m l') : l = l' := by
  obtain ⟨_, _, h3, h4, h5, h6⟩ := pack_size h
  obtain ⟨_, _, k3, k4, k5, k6⟩ := pack_size h'
  unfold packB at he
  rw [List.append_assoc, List.append_assoc] at he
  have e1 := rdNum_numB n (numB l.length ++ textsB l) (by omega) (by omega)
  rw [he, rdNum_numB m (numB l'.length ++ textsB l') (by omega) (by omega)] at e1
  injection e1 with e1
  injection e1 with _ e1
  have e2 := rdNum_numB (l.length : Int) (textsB l) (by omega) (by omega)
  rw [← e1, rdNum_numB (l'.length : Int) (textsB l') (by omega) (by omega)] at e2
  injection e2 with e2
  injection e2 with e3 e2
  have e4 := rdTexts_textsB l [] (fun s hs => by have := h6 s hs; omega)
  have e5 := rdTexts_textsB l' [] (fun s hs => by have := k6 s hs; omega)
  rw [e2, show l'.length = l.length by omega, e4] at e5
  injection e5 with e5
  injection e5
end Go.Proofs.Ytejmbbnndagejaa
