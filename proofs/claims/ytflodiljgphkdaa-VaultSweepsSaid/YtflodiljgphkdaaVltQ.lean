/-
  Plain law: a vault whose bits don't turn and whose power doesn't go: what Put does.
-/
import Derived.Test.YtflodiljgphkdaaVltA
import Derived.Test.YtflodiljgphkdaaDskQ
namespace Go.Proofs.Ytflodiljgphkdaa
open Go.RowKit Go.ChangeShapes Go.WideShapes Go.ChangeAt

theorem nameL_inj {a b : List UInt8} (h : nameL a = nameL b) : a = b := by
  have h1 := unhex_name a
  rw [h, unhex_name b] at h1
  injection h1 with h1
  exact h1.symm
theorem fileN_inj {a b : ByteArray} (h : fileN a = fileN b) : a = b := by
  have e : ∀ x : ByteArray, (fileN x).data.toList = [98, 46] ++ nameL x.data.toList := fun x => by
    unfold fileN
    rw [ByteArray.data_append, Array.toList_append]; rfl
  have h1 := e a
  rw [h, e b] at h1
  exact data_inj (nameL_inj (List.append_cancel_left h1)).symm

/-- all that is kept is whole, nothing else lies there, the power is on -/
structure Calm (X : VV) : Prop where
  ok : OkV X
  off : X.d.off = false
  fuse : X.d.fuse = -1
  none : ∀ h, mget h X.kept = none → fileD (fileN h) X.d = none
  some : ∀ h k, mget h X.kept = some k → ∃ f, fileD (fileN h) X.d = some f ∧ k = (f.bytes.length : Int) ∧ goodC h (bs f.bytes) = true
  keys : ∀ p ∈ X.kept, p.1.size = 32
theorem sumV_ins {n : ByteArray} {q : Int} : ∀ {l : List (ByteArray × Int)}, mget n l = Option.none → sumV (ins n q l) = sumV l + q
  | [], _ => by simp [ins, sumV]
  | (k, y) :: l, h => by
    unfold mget at h
    by_cases e : n = k
    · rw [if_pos e] at h; cases h
    · rw [if_neg e] at h
      have ih := sumV_ins (q := q) h
      unfold ins
      rw [if_neg e]
      by_cases h1 : nlt n k
      · rw [if_pos h1]
        unfold sumV
        simp only [List.map_cons, List.sum_cons]
        omega
      · rw [if_neg h1]
        unfold sumV at *
        simp only [List.map_cons, List.sum_cons]
        omega
theorem sumV_length : ∀ {l : List (ByteArray × Int)}, (∀ p ∈ l, 1 ≤ p.2 ∧ p.2 ≤ 64) → (l.length : Int) ≤ sumV l
  | [], _ => by simp [sumV]
  | p :: l, h => by
    have h1 := sumV_length (l := l) fun q hq => h q (List.mem_cons_of_mem _ hq)
    have h2 := h p (List.mem_cons_self ..)
    unfold sumV at *
    rw [List.map_cons, List.sum_cons, List.length_cons]
    omega
theorem Calm.bytes {X : VV} (h : Calm X) : bytesV X = sumV X.kept := by unfold bytesV; rw [h.off]; rfl
theorem Calm.whole {X : VV} (h : Calm X) {n : ByteArray} {k : Int} (hk : mget n X.kept = Option.some k) : wholeB n X.d = true := by
  obtain ⟨f, hf, _, hg⟩ := h.some n k hk
  unfold wholeB readD
  rw [h.off, hf]
  simp only [Bool.false_eq_true, if_false, Option.map_some, Option.isSome_some, textOr, Option.getD_some, Bool.true_and]
  exact hg
theorem Calm.ready {X : VV} (h : Calm X) (c : ByteArray) : readyD (fileN (digest c)) X.d = 0 := by
  unfold readyD
  rw [fileN_fine (by rw [digest_size]; omega), h.off]; rfl

/-- behind a chunk that is new -/
def addD (c : ByteArray) (x : DV) : DV := { x with steps := inc64 (inc64 x.steps), files := ins (fileN (digest c)) ⟨c.data.toList, c.data.toList.length, true⟩ x.files }
theorem ins_gt {ν : Type} {n k : ByteArray} {y : ν} {l : List (ByteArray × ν)} (x : ν) (e : ¬ n = k) (h : ¬ nlt n k) : ins n x ((k, y) :: l) = (k, y) :: ins n x l := by
  simp only [ins, if_neg e, if_neg h]
theorem ins_lt {ν : Type} {n k : ByteArray} {y : ν} {l : List (ByteArray × ν)} (x : ν) (e : ¬ n = k) (h : nlt n k) : ins n x ((k, y) :: l) = (n, x) :: (k, y) :: l := by
  simp only [ins, if_neg e, if_pos h]
theorem ins_eq {ν : Type} {n : ByteArray} {y : ν} {l : List (ByteArray × ν)} (x : ν) : ins n x ((n, y) :: l) = (n, x) :: l := by
  simp only [ins, if_true]
theorem ins_ins {ν : Type} (n : ByteArray) (a b : ν) : ∀ l : List (ByteArray × ν), ins n b (ins n a l) = ins n b l
  | [] => ins_eq b
  | (k, y) :: l => by
    by_cases e : n = k
    · subst e
      rw [ins_eq, ins_eq, ins_eq]
    · by_cases h1 : nlt n k
      · rw [ins_lt a e h1, ins_lt b e h1, ins_eq]
      · rw [ins_gt a e h1, ins_gt b e h1, ins_gt b e h1, ins_ins n a b l]
theorem Calm.append {X : VV} (h : Calm X) {c : ByteArray} (hc : c.size ≤ 64) (hn : mget (digest c) X.kept = Option.none) :
    appendD (fileN (digest c)) c X.d = (0, { X.d with steps := inc64 X.d.steps, files := ins (fileN (digest c)) ⟨c.data.toList, 0, false⟩ X.d.files }) := by
  unfold appendD
  rw [h.ready c, h.none _ hn]
  simp only [ne_eq, not_true_eq_false, if_false, Option.getD_none, List.length_nil]
  rw [if_neg (by omega)]
  unfold stepD
  rw [if_neg (by rw [h.fuse]; decide)]
  have hf : max (X.d.fuse - 1) (-1) = X.d.fuse := by rw [h.fuse]; rfl
  simp only [List.nil_append, hf]
theorem Calm.sync {X : VV} (h : Calm X) {c : ByteArray} :
    syncD (fileN (digest c)) { X.d with steps := inc64 X.d.steps, files := ins (fileN (digest c)) ⟨c.data.toList, 0, false⟩ X.d.files } = (0, addD c X.d) := by
  have hr : readyD (fileN (digest c)) { X.d with steps := inc64 X.d.steps, files := ins (fileN (digest c)) ⟨c.data.toList, 0, false⟩ X.d.files } = 0 := h.ready c
  unfold syncD knownD
  rw [hr]
  simp only [ne_eq, not_true_eq_false, if_false]
  rw [show fileD (fileN (digest c)) { X.d with steps := inc64 X.d.steps, files := ins (fileN (digest c)) ⟨c.data.toList, 0, false⟩ X.d.files } = Option.some ⟨c.data.toList, 0, false⟩ by unfold fileD; rw [mget_ins, if_pos rfl]]
  simp only
  unfold stepD
  rw [if_neg (show ¬ (X.d.fuse = 0) by rw [h.fuse]; decide)]
  have hf : max (X.d.fuse - 1) (-1) = X.d.fuse := by rw [h.fuse]; rfl
  unfold addD syncF
  simp only [hf, ins_ins]
theorem goodC_self {c : ByteArray} (h0 : c.size ≠ 0) (h64 : c.size ≤ 64) : goodC (digest c) c = true := by
  unfold goodC
  rw [decide_eq_true h0, decide_eq_true h64, decide_eq_true rfl]; rfl
theorem Calm.added {X : VV} (h : Calm X) {c : ByteArray} (h0 : c.size ≠ 0) (hc : c.size ≤ 64) (hm : X.kept.length < 2000000) :
    Calm { X with d := addD c X.d, kept := ins (digest c) c.size X.kept } := by
  have hdk : OkD (addD c X.d) := by
    have h1 := (h.ok.dk.put (fileN (digest c)) ⟨c.data.toList, c.data.toList.length, true⟩ (by
      have := fileN_fine (h := digest c) (by rw [digest_size]; omega)
      unfold fineN at this
      simp only [Bool.and_eq_true, decide_eq_true_eq] at this
      exact this.2.1) ⟨Nat.le_refl _, by show c.data.toList.length ≤ _; rw [data_length]; omega⟩)
    exact ⟨h1.rising, h1.file, h1.fuse, h1.fuseW, wf_wrap64 _⟩
  refine ⟨⟨hdk, h.ok.quota, h.ok.kept.ins _ _, h.ok.held, fun p hp => ?_, Nat.le_trans (ins_length _) hm⟩, h.off, h.fuse, fun n hn2 => ?_, fun n k hk => ?_, fun p hp => ?_⟩
  · rcases mem_ins hp with rfl | hp
    · show 1 ≤ (c.size : Int) ∧ (c.size : Int) ≤ 64
      omega
    · exact h.ok.each p hp
  · rw [mget_ins] at hn2
    by_cases e : n = digest c
    · rw [if_pos e] at hn2; cases hn2
    · rw [if_neg e] at hn2
      show mget (fileN n) (ins _ _ X.d.files) = Option.none
      rw [mget_ins, if_neg (fun e2 => e (fileN_inj e2))]
      exact h.none n hn2
  · rw [mget_ins] at hk
    by_cases e : n = digest c
    · rw [if_pos e] at hk
      injection hk with hk
      subst e
      refine ⟨⟨c.data.toList, c.data.toList.length, true⟩, ?_, ?_, ?_⟩
      · show mget (fileN (digest c)) (ins _ _ X.d.files) = _
        rw [mget_ins, if_pos rfl]
      · show k = ((c.data.toList.length : Nat) : Int)
        rw [data_length, ← hk]
      · show goodC (digest c) (bs c.data.toList) = true
        rw [bs_of]; exact goodC_self h0 hc
    · rw [if_neg e] at hk
      obtain ⟨f, hf, h1, h2⟩ := h.some n k hk
      refine ⟨f, ?_, h1, h2⟩
      show mget (fileN n) (ins _ _ X.d.files) = _
      rw [mget_ins, if_neg (fun e2 => e (fileN_inj e2))]
      exact hf
  · rcases mem_ins hp with rfl | hp
    · exact digest_size c
    · exact h.keys p hp
/-- what Put does -/
theorem put_cases {X : VV} (h : Calm X) (c : ByteArray) :
    (putV c X = ((.empty, 1), X)) ∨ (1 ≤ c.size ∧ c.size ≤ 64 ∧ keepsV (digest c) X = true ∧ putV c X = ((digest c, 0), X)) ∨ (1 ≤ c.size ∧ c.size ≤ 64 ∧ X.quota < bytesV X + c.size ∧ putV c X = ((.empty, 102), X)) ∨
    (1 ≤ c.size ∧ c.size ≤ 64 ∧ keepsV (digest c) X = false ∧ bytesV X + c.size ≤ X.quota ∧ putV c X = ((digest c, 0), { X with d := addD c X.d, kept := ins (digest c) c.size X.kept })) := by
  by_cases h0 : c.size = 0 ∨ 64 < c.size
  · exact .inl (by unfold putV; rw [if_pos h0])
  · have h1 : 1 ≤ c.size ∧ c.size ≤ 64 := by omega
    unfold putV
    rw [if_neg h0, h.off]
    simp only [Bool.false_eq_true, if_false]
    cases hk : mget (digest c) X.kept with
    | some k =>
      have hkeep : keepsV (digest c) X = true := by unfold keepsV; rw [hk]; rfl
      have hh : hasV (digest c) X = true := by unfold hasV; rw [hkeep, h.whole hk]; rfl
      exact .inr (.inl ⟨h1.1, h1.2, hkeep, by rw [hh]; rfl⟩)
    | none =>
      have hkeep : keepsV (digest c) X = false := by unfold keepsV; rw [hk]; rfl
      have hh : hasV (digest c) X = false := by unfold hasV; rw [hkeep]; rfl
      rw [hh, hkeep]
      simp only [Bool.false_eq_true, if_false]
      unfold writeV
      by_cases hq : X.quota < bytesV X + c.size
      · exact .inr (.inr (.inl ⟨h1.1, h1.2, hq, by rw [if_pos hq]⟩))
      · refine .inr (.inr (.inr ⟨h1.1, h1.2, by simp, by omega, ?_⟩))
        rw [if_neg hq, h.append h1.2 hk]
        simp only [ne_eq, not_true_eq_false, if_false]
        rw [h.sync]
        simp only [not_true_eq_false, if_false]
end Go.Proofs.Ytflodiljgphkdaa
