/-
  Plain law: a vault whose power doesn't go, whatever bits have turned: what Put, Get and Flip leave.
-/
import Derived.Test.YtflodiljgphkdaaGreatVltL
import Derived.Test.YtflodiljgphkdaaGreatM2
namespace Go.Proofs.YtflodiljgphkdaaGreat
open Go.RowKit Go.ChangeShapes Go.WideShapes Go.ChangeAt

theorem okC_hexd (n : Nat) (h : n < 16) : okC (hexd n) = true := by
  have : ∀ m : Fin 16, okC (hexd m.val) = true := by decide
  exact this ⟨n, h⟩
theorem nameL_okC (l : List UInt8) : (nameL l).all okC = true := by
  rw [List.all_eq_true]
  intro c hc
  unfold nameL at hc
  obtain ⟨b, _, hb⟩ := List.mem_flatMap.1 hc
  have h1 : b.toNat < 256 := UInt8.toNat_lt b
  simp only [List.mem_cons, List.not_mem_nil, or_false] at hb
  rcases hb with rfl | rfl
  · exact okC_hexd _ (by omega)
  · exact okC_hexd _ (by omega)
theorem fileN_fine {h : ByteArray} (hs : h.size ≤ 39) : fineN (fileN h) = true := by
  have e1 : (fileN h).data.toList = [98, 46] ++ nameL h.data.toList := by
    unfold fileN
    rw [ByteArray.data_append, Array.toList_append]; rfl
  have e2 : (fileN h).size = 2 + 2 * h.size := by
    unfold fileN
    rw [ByteArray.size_append, bs_size, nameL_length, data_length]; rfl
  unfold fineN
  rw [e1, e2, List.all_append, nameL_okC, decide_eq_true (by omega : 1 ≤ 2 + 2 * h.size), decide_eq_true (by omega : 2 + 2 * h.size ≤ 80)]
  decide

theorem nameL_inj {a b : List UInt8} (h : nameL a = nameL b) : a = b := by
  have h1 := unhex_name a
  rw [h, unhex_name b] at h1
  injection h1 with h1
  exact h1.symm
theorem fileN_inj {a b : ByteArray} (h : fileN a = fileN b) : a = b := by
  have e : ∀ x : ByteArray, (fileN x).data.toList = [98, 46] ++ nameL x.data.toList := fun x => by
    unfold fileN
    rw [ByteArray.data_append, Array.toList_append]; rfl
  have h1 := e a
  rw [h, e b] at h1
  exact data_inj (nameL_inj (List.append_cancel_left h1)).symm

/-- the files are those of what is kept, as long as it is told; the power is on -/
structure Loose (X : VV) : Prop where
  ok : OkV X
  off : X.d.off = false
  fuse : X.d.fuse = -1
  none : ∀ h, mget h X.kept = none → fileD (fileN h) X.d = none
  some : ∀ h k, mget h X.kept = some k → ∃ f, fileD (fileN h) X.d = some f ∧ k = (f.bytes.length : Int)
  keys : ∀ p ∈ X.kept, p.1.size = 32
theorem sumV_ins {n : ByteArray} {q : Int} : ∀ {l : List (ByteArray × Int)}, mget n l = Option.none → sumV (ins n q l) = sumV l + q
  | [], _ => by simp [ins, sumV]
  | (k, y) :: l, h => by
    unfold mget at h
    by_cases e : n = k
    · rw [if_pos e] at h; cases h
    · rw [if_neg e] at h
      have ih := sumV_ins (q := q) h
      unfold ins
      rw [if_neg e]
      by_cases h1 : nlt n k
      · rw [if_pos h1]
        unfold sumV
        simp only [List.map_cons, List.sum_cons]
        omega
      · rw [if_neg h1]
        unfold sumV at *
        simp only [List.map_cons, List.sum_cons]
        omega
theorem sumV_length : ∀ {l : List (ByteArray × Int)}, (∀ p ∈ l, 1 ≤ p.2 ∧ p.2 ≤ 64) → (l.length : Int) ≤ sumV l
  | [], _ => by simp [sumV]
  | p :: l, h => by
    have h1 := sumV_length (l := l) fun q hq => h q (List.mem_cons_of_mem _ hq)
    have h2 := h p (List.mem_cons_self ..)
    unfold sumV at *
    rw [List.map_cons, List.sum_cons, List.length_cons]
    omega
theorem Loose.bytes {X : VV} (h : Loose X) : bytesV X = sumV X.kept := by unfold bytesV; rw [h.off]; rfl
theorem Loose.ready {X : VV} (h : Loose X) (c : ByteArray) : readyD (fileN (digest c)) X.d = 0 := by
  unfold readyD
  rw [fileN_fine (by rw [digest_size]; omega), h.off]; rfl

/-- behind a chunk that is new -/
def addD (c : ByteArray) (x : DV) : DV := { x with steps := inc64 (inc64 x.steps), files := ins (fileN (digest c)) ⟨c.data.toList, c.data.toList.length, true⟩ x.files }
theorem ins_gt {ν : Type} {n k : ByteArray} {y : ν} {l : List (ByteArray × ν)} (x : ν) (e : ¬ n = k) (h : ¬ nlt n k) : ins n x ((k, y) :: l) = (k, y) :: ins n x l := by
  simp only [ins, if_neg e, if_neg h]
theorem ins_lt {ν : Type} {n k : ByteArray} {y : ν} {l : List (ByteArray × ν)} (x : ν) (e : ¬ n = k) (h : nlt n k) : ins n x ((k, y) :: l) = (n, x) :: (k, y) :: l := by
  simp only [ins, if_neg e, if_pos h]
theorem ins_eq {ν : Type} {n : ByteArray} {y : ν} {l : List (ByteArray × ν)} (x : ν) : ins n x ((n, y) :: l) = (n, x) :: l := by
  simp only [ins, if_true]
theorem ins_ins {ν : Type} (n : ByteArray) (a b : ν) : ∀ l : List (ByteArray × ν), ins n b (ins n a l) = ins n b l
  | [] => ins_eq b
  | (k, y) :: l => by
    by_cases e : n = k
    · subst e
      rw [ins_eq, ins_eq, ins_eq]
    · by_cases h1 : nlt n k
      · rw [ins_lt a e h1, ins_lt b e h1, ins_eq]
      · rw [ins_gt a e h1, ins_gt b e h1, ins_gt b e h1, ins_ins n a b l]
theorem Loose.append {X : VV} (h : Loose X) {c : ByteArray} (hc : c.size ≤ 64) (hn : mget (digest c) X.kept = Option.none) :
    appendD (fileN (digest c)) c X.d = (0, { X.d with steps := inc64 X.d.steps, files := ins (fileN (digest c)) ⟨c.data.toList, 0, false⟩ X.d.files }) := by
  unfold appendD
  rw [h.ready c, h.none _ hn]
  simp only [ne_eq, not_true_eq_false, if_false, Option.getD_none, List.length_nil]
  rw [if_neg (by omega)]
  unfold stepD
  rw [if_neg (by rw [h.fuse]; decide)]
  have hf : max (X.d.fuse - 1) (-1) = X.d.fuse := by rw [h.fuse]; rfl
  simp only [List.nil_append, hf]
theorem Loose.sync {X : VV} (h : Loose X) {c : ByteArray} :
    syncD (fileN (digest c)) { X.d with steps := inc64 X.d.steps, files := ins (fileN (digest c)) ⟨c.data.toList, 0, false⟩ X.d.files } = (0, addD c X.d) := by
  have hr : readyD (fileN (digest c)) { X.d with steps := inc64 X.d.steps, files := ins (fileN (digest c)) ⟨c.data.toList, 0, false⟩ X.d.files } = 0 := h.ready c
  unfold syncD knownD
  rw [hr]
  simp only [ne_eq, not_true_eq_false, if_false]
  rw [show fileD (fileN (digest c)) { X.d with steps := inc64 X.d.steps, files := ins (fileN (digest c)) ⟨c.data.toList, 0, false⟩ X.d.files } = Option.some ⟨c.data.toList, 0, false⟩ by unfold fileD; rw [mget_ins, if_pos rfl]]
  simp only
  unfold stepD
  rw [if_neg (show ¬ (X.d.fuse = 0) by rw [h.fuse]; decide)]
  have hf : max (X.d.fuse - 1) (-1) = X.d.fuse := by rw [h.fuse]; rfl
  unfold addD syncF
  simp only [hf, ins_ins]
theorem Loose.added {X : VV} (h : Loose X) {c : ByteArray} (h0 : c.size ≠ 0) (hc : c.size ≤ 64) (hm : X.kept.length < 2000000) :
    Loose { X with d := addD c X.d, kept := ins (digest c) c.size X.kept } := by
  have hdk : OkD (addD c X.d) := by
    have h1 := (h.ok.dk.put (fileN (digest c)) ⟨c.data.toList, c.data.toList.length, true⟩ (by
      have := fileN_fine (h := digest c) (by rw [digest_size]; omega)
      unfold fineN at this
      simp only [Bool.and_eq_true, decide_eq_true_eq] at this
      exact this.2.1) ⟨Nat.le_refl _, by show c.data.toList.length ≤ _; rw [data_length]; omega⟩)
    exact ⟨h1.rising, h1.file, h1.fuse, h1.fuseW, wf_wrap64 _⟩
  refine ⟨⟨hdk, h.ok.quota, h.ok.kept.ins _ _, h.ok.held, fun p hp => ?_, Nat.le_trans (ins_length _) hm⟩, h.off, h.fuse, fun n hn2 => ?_, fun n k hk => ?_, fun p hp => ?_⟩
  · rcases mem_ins hp with rfl | hp
    · show 1 ≤ (c.size : Int) ∧ (c.size : Int) ≤ 64
      omega
    · exact h.ok.each p hp
  · rw [mget_ins] at hn2
    by_cases e : n = digest c
    · rw [if_pos e] at hn2; cases hn2
    · rw [if_neg e] at hn2
      show mget (fileN n) (ins _ _ X.d.files) = Option.none
      rw [mget_ins, if_neg (fun e2 => e (fileN_inj e2))]
      exact h.none n hn2
  · rw [mget_ins] at hk
    by_cases e : n = digest c
    · rw [if_pos e] at hk
      injection hk with hk
      subst e
      refine ⟨⟨c.data.toList, c.data.toList.length, true⟩, ?_, ?_⟩
      · show mget (fileN (digest c)) (ins _ _ X.d.files) = _
        rw [mget_ins, if_pos rfl]
      · show k = ((c.data.toList.length : Nat) : Int)
        rw [data_length, ← hk]
    · rw [if_neg e] at hk
      obtain ⟨f, hf, h1⟩ := h.some n k hk
      refine ⟨f, ?_, h1⟩
      show mget (fileN n) (ins _ _ X.d.files) = _
      rw [mget_ins, if_neg (fun e2 => e (fileN_inj e2))]
      exact hf
  · rcases mem_ins hp with rfl | hp
    · exact digest_size c
    · exact h.keys p hp
/-- a chunk taken away -/
def lessV (h : ByteArray) (X : VV) : VV := { X with d := { X.d with steps := inc64 X.d.steps, files := mdel (fileN h) X.d.files }, kept := mdel h X.kept }
theorem Loose.dropped {X : VV} (hX : Loose X) {h : ByteArray} {k : Int} (hk : mget h X.kept = Option.some k) :
    removeD (fileN h) X.d = (0, (lessV h X).d) ∧ dropV h X = (0, lessV h X) ∧ Loose (lessV h X) ∧ mget h (lessV h X).kept = Option.none := by
  obtain ⟨f, hf, _⟩ := hX.some h k hk
  have h32 : h.size = 32 := hX.keys (h, k) (mem_of_mget hk)
  have hr : readyD (fileN h) X.d = 0 := by
    unfold readyD
    rw [fileN_fine (by omega), hX.off]; rfl
  have hrem : removeD (fileN h) X.d = (0, { X.d with steps := inc64 X.d.steps, files := mdel (fileN h) X.d.files }) := by
    unfold removeD knownD
    rw [hr, hf]
    simp only [ne_eq, not_true_eq_false, if_false]
    unfold stepD
    rw [if_neg (by rw [hX.fuse]; decide)]
    have hmx : max (X.d.fuse - 1) (-1) = X.d.fuse := by rw [hX.fuse]; rfl
    simp only [hmx]
  have hok := removeD_ok hX.ok.dk (fileN h)
  rw [hrem] at hok
  refine ⟨hrem, by unfold dropV; rw [hrem]; rfl, ⟨⟨hok, hX.ok.quota, hX.ok.kept.mdel h, hX.ok.held, fun p hp => hX.ok.each p ((mdel_sub h _).subset hp), Nat.le_trans (mdel_length h _) hX.ok.many⟩, hX.off, hX.fuse, fun n hn => ?_, fun n q hn => ?_, fun p hp => hX.keys p ((mdel_sub h _).subset hp)⟩, ?_⟩
  · show mget (fileN n) (mdel (fileN h) X.d.files) = Option.none
    have hn : mget n (mdel h X.kept) = Option.none := hn
    rw [mget_del h n _ hX.ok.kept.nodup] at hn
    rw [mget_del (fileN h) (fileN n) _ hX.ok.dk.rising.nodup]
    by_cases e : n = h
    · rw [if_pos (by rw [e])]
    · rw [if_neg e] at hn
      rw [if_neg (fun e2 => e (fileN_inj e2))]
      exact hX.none n hn
  · have hn : mget n (mdel h X.kept) = Option.some q := hn
    rw [mget_del h n _ hX.ok.kept.nodup] at hn
    by_cases e : n = h
    · rw [if_pos e] at hn; cases hn
    · rw [if_neg e] at hn
      obtain ⟨g, hg, h1⟩ := hX.some n q hn
      refine ⟨g, ?_, h1⟩
      show mget (fileN n) (mdel (fileN h) X.d.files) = _
      rw [mget_del (fileN h) (fileN n) _ hX.ok.dk.rising.nodup, if_neg (fun e2 => e (fileN_inj e2))]
      exact hg
  · show mget h (mdel h X.kept) = Option.none
    rw [mget_del h h _ hX.ok.kept.nodup, if_pos rfl]
theorem keepsV_some {X : VV} {h : ByteArray} (hk : keepsV h X = true) : ∃ k, mget h X.kept = Option.some k := by unfold keepsV at hk; exact Option.isSome_iff_exists.1 hk
theorem keepsV_none {X : VV} {h : ByteArray} (hk : keepsV h X = false) : mget h X.kept = Option.none := by
  unfold keepsV at hk
  cases hm : mget h X.kept with
  | none => rfl
  | some k => rw [hm] at hk; cases hk
theorem Loose.get {X : VV} (hX : Loose X) (h : ByteArray) : Loose (getV h X).2 := by
  unfold getV
  split
  · exact hX
  split
  · exact hX
  split
  · exact hX
  · rename_i _ hk _
    obtain ⟨k, hk⟩ := keepsV_some (by simpa using hk)
    obtain ⟨_, h2, h3, _⟩ := hX.dropped hk
    rw [h2]
    exact h3
theorem Loose.write {X : VV} (hX : Loose X) (c : ByteArray) (h0 : c.size ≠ 0) (h64 : c.size ≤ 64) (hn : mget (digest c) X.kept = Option.none) (hm : X.kept.length < 2000000) :
    (X.quota < bytesV X + c.size ∧ writeV c (digest c) X = ((.empty, 102), X)) ∨ (¬ X.quota < bytesV X + c.size ∧ writeV c (digest c) X = ((digest c, 0), { X with d := addD c X.d, kept := ins (digest c) c.size X.kept }) ∧ Loose { X with d := addD c X.d, kept := ins (digest c) c.size X.kept }) := by
  unfold writeV
  by_cases hq : X.quota < bytesV X + c.size
  · exact .inl ⟨hq, by rw [if_pos hq]⟩
  · refine .inr ⟨hq, ?_, hX.added h0 h64 hm⟩
    rw [if_neg hq, hX.append h64 hn]
    simp only [ne_eq, not_true_eq_false, if_false]
    rw [hX.sync]
    simp only [not_true_eq_false, if_false]
theorem Loose.put {X : VV} (hX : Loose X) (c : ByteArray) (hm : X.kept.length < 2000000) : Loose (putV c X).2 := by
  have hw : ∀ {Y : VV}, Loose Y → mget (digest c) Y.kept = Option.none → Y.kept.length < 2000000 → c.size ≠ 0 → c.size ≤ 64 → Loose (writeV c (digest c) Y).2 := by
    intro Y hY hn hm h0 h64
    rcases hY.write c h0 h64 hn hm with ⟨_, h⟩ | ⟨_, h, hl⟩
    · rw [h]; exact hY
    · rw [h]; exact hl
  unfold putV
  split
  · exact hX
  rename_i hs
  have h0 : c.size ≠ 0 ∧ c.size ≤ 64 := by omega
  split
  · exact hX
  split
  · exact hX
  split
  · rename_i _ _ hk
    obtain ⟨k, hk⟩ := keepsV_some hk
    obtain ⟨_, h2, h3, h4⟩ := hX.dropped hk
    rw [h2]
    exact hw h3 h4 (Nat.lt_of_le_of_lt (mdel_length _ _) hm) h0.1 h0.2
  · rename_i _ _ hk
    exact hw hX (keepsV_none (by simpa using hk)) hm h0.1 h0.2
theorem Loose.flip {X : VV} (hX : Loose X) (h : ByteArray) (b : Int) : Loose { X with d := (flipD (fileN h) b X.d).2 } := by
  have hok := flipD_ok hX.ok.dk (fileN h) b
  unfold flipD at *
  split
  · exact ⟨⟨hX.ok.dk, hX.ok.quota, hX.ok.kept, hX.ok.held, hX.ok.each, hX.ok.many⟩, hX.off, hX.fuse, hX.none, hX.some, hX.keys⟩
  · rename_i f hf
    rw [hf] at hok
    simp only at hok ⊢
    split
    · exact ⟨⟨hX.ok.dk, hX.ok.quota, hX.ok.kept, hX.ok.held, hX.ok.each, hX.ok.many⟩, hX.off, hX.fuse, hX.none, hX.some, hX.keys⟩
    · rename_i hb
      rw [if_neg hb] at hok
      refine ⟨⟨hok, hX.ok.quota, hX.ok.kept, hX.ok.held, hX.ok.each, hX.ok.many⟩, hX.off, hX.fuse, fun n hn => ?_, fun n k hn => ?_, hX.keys⟩
      · have h1 := hX.none n hn
        show mget (fileN n) (ins _ _ X.d.files) = Option.none
        rw [mget_ins]
        by_cases e : fileN n = fileN h
        · rw [e, hf] at h1; cases h1
        · rw [if_neg e]; exact h1
      · obtain ⟨g, hg, h1⟩ := hX.some n k hn
        by_cases e : fileN n = fileN h
        · rw [e, hf] at hg
          injection hg with hg
          subst hg
          refine ⟨{ f with bytes := flipB f.bytes b.toNat }, ?_, ?_⟩
          · show mget (fileN n) (ins _ _ X.d.files) = _
            rw [mget_ins, if_pos e]
          · rw [flipB_length]; exact h1
        · refine ⟨g, ?_, h1⟩
          show mget (fileN n) (ins _ _ X.d.files) = _
          rw [mget_ins, if_neg e]
          exact hg
theorem Loose.open (Q : Int) (h0 : 0 ≤ Q) (h1 : Q ≤ 1048576) (hd : OkD newD) : Loose ⟨newD, Q, [], []⟩ :=
  ⟨⟨hd, ⟨h0, h1⟩, .nil, .nil, (fun _ h => by cases h), Nat.zero_le _⟩, rfl, rfl, fun _ _ => rfl, (fun _ _ h => by cases h), (fun _ h => by cases h)⟩
end Go.Proofs.YtflodiljgphkdaaGreat
