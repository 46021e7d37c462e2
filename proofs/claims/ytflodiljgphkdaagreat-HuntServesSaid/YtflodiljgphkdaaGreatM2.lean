/-
  Put together: DskL, DskP, DskQ.
-/
import Derived.Test.YtflodiljgphkdaaGreatM1
import Derived.Test.YtflodiljgphkdaaGreatGen
namespace Go.Proofs.YtflodiljgphkdaaGreat
section
open Go.RowKit Go.ChangeShapes Go.WideShapes Go.ChangeAt

/-! ### names in their order -/
/-- Go's '<' on texts -/
def nlt (a b : ByteArray) : Prop := a.data.toList < b.data.toList
instance (a b : ByteArray) : Decidable (nlt a b) := inferInstanceAs (Decidable (a.data.toList < b.data.toList))
theorem data_inj {a b : ByteArray} (h : a.data.toList = b.data.toList) : a = b := by
  rw [← bs_of a, h, bs_of]
theorem nlt_irrefl (a : ByteArray) : ¬ nlt a a := List.lt_irrefl _
theorem nlt_trans {a b c : ByteArray} (h : nlt a b) (k : nlt b c) : nlt a c := List.lt_trans h k
theorem nlt_ne {a b : ByteArray} (h : nlt a b) : a ≠ b := fun e => nlt_irrefl b (e ▸ h)
theorem nlt_asymm {a b : ByteArray} (h : nlt a b) : ¬ nlt b a := fun k => nlt_irrefl _ (nlt_trans h k)
theorem nlt_tri {a b : ByteArray} (h : ¬ nlt a b) (hn : a ≠ b) : nlt b a := by
  unfold nlt at *
  rw [List.not_lt] at h
  rcases Decidable.em (b.data.toList < a.data.toList) with h1 | h1
  · exact h1
  · rw [List.not_lt] at h1
    exact absurd (data_inj (List.le_antisymm h1 h)) hn

section
variable {ν : Type}
/-- by rising names -/
def Rising (l : List (ByteArray × ν)) : Prop := l.Pairwise fun a b => nlt a.1 b.1
/-- put in its place, or over the one that is there -/
def ins (n : ByteArray) (x : ν) : List (ByteArray × ν) → List (ByteArray × ν)
  | [] => [(n, x)]
  | (k, y) :: l => if n = k then (n, x) :: l else if nlt n k then (n, x) :: (k, y) :: l else (k, y) :: ins n x l
/-- how many stand ahead of a name -/
def rank (n : ByteArray) : List (ByteArray × ν) → Nat
  | [] => 0
  | (k, _) :: l => if nlt k n then rank n l + 1 else 0

theorem mget_ins (n k : ByteArray) (x : ν) : ∀ l : List (ByteArray × ν), mget k (ins n x l) = if k = n then some x else mget k l
  | [] => by simp [ins, mget]
  | (m, y) :: l => by
    unfold ins
    by_cases h : n = m
    · subst h
      by_cases h2 : k = n <;> simp [mget, h2]
    · simp only [if_neg h]
      by_cases h1 : nlt n m
      · simp only [if_pos h1, mget]
      · simp only [if_neg h1, mget]
        rw [mget_ins n k x l]
        by_cases h2 : k = m
        · subst h2
          simp [Ne.symm h]
        · simp [h2]
theorem mem_ins {n : ByteArray} {x : ν} : ∀ {l : List (ByteArray × ν)} {p}, p ∈ ins n x l → p = (n, x) ∨ p ∈ l
  | [], p, h => by simp [ins] at h; exact .inl h
  | (m, y) :: l, p, h => by
    unfold ins at h
    by_cases h1 : n = m
    · simp only [if_pos h1, List.mem_cons] at h
      rcases h with h | h
      · exact .inl h
      · exact .inr (List.mem_cons_of_mem _ h)
    · simp only [if_neg h1] at h
      by_cases h2 : nlt n m
      · simp only [if_pos h2, List.mem_cons] at h
        rcases h with h | h | h
        · exact .inl h
        · exact .inr (h ▸ List.mem_cons_self ..)
        · exact .inr (List.mem_cons_of_mem _ h)
      · simp only [if_neg h2, List.mem_cons] at h
        rcases h with h | h
        · exact .inr (h ▸ List.mem_cons_self ..)
        · rcases mem_ins h with h | h
          · exact .inl h
          · exact .inr (List.mem_cons_of_mem _ h)
theorem Rising.ins {l : List (ByteArray × ν)} (h : Rising l) (n : ByteArray) (x : ν) : Rising (ins n x l) := by
  induction l with
  | nil => simp [Go.Proofs.YtflodiljgphkdaaGreat.ins, Rising]
  | cons p l ih =>
    obtain ⟨m, y⟩ := p
    have h' := h
    unfold Rising at h
    rw [List.pairwise_cons] at h
    unfold Go.Proofs.YtflodiljgphkdaaGreat.ins
    by_cases h1 : n = m
    · subst h1
      simp only [if_true]
      exact List.pairwise_cons.2 h
    · simp only [if_neg h1]
      by_cases h2 : nlt n m
      · simp only [if_pos h2]
        refine List.pairwise_cons.2 ⟨?_, h'⟩
        intro q hq
        rcases List.mem_cons.1 hq with rfl | hq
        · exact h2
        · exact nlt_trans h2 (h.1 q hq)
      · simp only [if_neg h2]
        refine List.pairwise_cons.2 ⟨?_, ih h.2⟩
        intro q hq
        rcases mem_ins hq with rfl | hq
        · exact nlt_tri h2 h1
        · exact h.1 q hq
theorem mdel_sub (n : ByteArray) : ∀ l : List (ByteArray × ν), (mdel n l).Sublist l
  | [] => by simp [mdel]
  | (k, y) :: l => by
    unfold mdel
    split
    · exact List.sublist_cons_self ..
    · exact (mdel_sub n l).cons_cons _
theorem Rising.mdel {l : List (ByteArray × ν)} (h : Rising l) (n : ByteArray) : Rising (mdel n l) := h.sublist (mdel_sub n l)
theorem Rising.nodup {l : List (ByteArray × ν)} (h : Rising l) : (l.map (·.1)).Nodup := by
  unfold Rising at h
  exact List.pairwise_map.2 (h.imp fun h => nlt_ne h)
theorem mem_of_mget {n : ByteArray} {x : ν} : ∀ {l : List (ByteArray × ν)}, mget n l = some x → (n, x) ∈ l
  | (k, y) :: l, h => by
    unfold mget at h
    split at h
    · rename_i e; subst e; injection h with h; subst h; exact List.mem_cons_self ..
    · exact List.mem_cons_of_mem _ (mem_of_mget h)
theorem mget_of_mem {l : List (ByteArray × ν)} (h : (l.map (·.1)).Nodup) {n : ByteArray} {x : ν} (hm : (n, x) ∈ l) : mget n l = some x := by
  induction l with
  | nil => cases hm
  | cons p l ih =>
    obtain ⟨k, y⟩ := p
    simp only [List.map_cons, List.nodup_cons] at h
    unfold mget
    rcases List.mem_cons.1 hm with e | hm
    · injection e with e1 e2; subst e1 e2; simp
    · have : n ≠ k := fun e => h.1 (e ▸ List.mem_map.2 ⟨_, hm, rfl⟩)
      rw [if_neg this]; exact ih h.2 hm
theorem ins_length {n : ByteArray} {x : ν} : ∀ l : List (ByteArray × ν), (ins n x l).length ≤ l.length + 1
  | [] => by simp [ins]
  | (k, y) :: l => by
    unfold ins
    split
    · simp
    · split
      · simp
      · have := ins_length (n := n) (x := x) l; simp only [List.length_cons]; omega
theorem mdel_length (n : ByteArray) (l : List (ByteArray × ν)) : (mdel n l).length ≤ l.length := (mdel_sub n l).length_le

/-! the place of a name -/
theorem rank_le (n : ByteArray) : ∀ l : List (ByteArray × ν), rank n l ≤ l.length
  | [] => Nat.le_refl _
  | (k, y) :: l => by
    unfold rank
    split
    · have := rank_le n l; simp; omega
    · exact Nat.zero_le _
/-- What the counting loop finds at each place that it goes by, and where it stops. -/
theorem rank_lt {n : ByteArray} : ∀ {l : List (ByteArray × ν)} {i : Nat} {p}, i < rank n l → l[i]? = some p → nlt p.1 n
  | (k, y) :: l, i, p, h, hi => by
    unfold rank at h
    split at h
    · rename_i hk
      cases i with
      | zero => simp at hi; subst hi; exact hk
      | succ i => exact rank_lt (l := l) (i := i) (by omega) (by simpa using hi)
    · omega
theorem rank_stop {n : ByteArray} : ∀ {l : List (ByteArray × ν)} {p}, l[rank n l]? = some p → ¬ nlt p.1 n
  | (k, y) :: l, p, h => by
    unfold rank at h
    split at h
    · simp only [List.getElem?_cons_succ] at h
      exact rank_stop h
    · rename_i hk
      simp at h; subst h; exact hk
theorem rank_eq {n : ByteArray} : ∀ {l : List (ByteArray × ν)} {i : Nat}, i ≤ l.length → (∀ j, j < i → ∀ p, l[j]? = some p → nlt p.1 n) → (∀ p, l[i]? = some p → ¬ nlt p.1 n) → rank n l = i
  | [], i, hi, _, _ => by simp at hi; subst hi; rfl
  | (k, y) :: l, 0, _, _, h => by
    unfold rank
    rw [if_neg (h (k, y) rfl)]
  | (k, y) :: l, i + 1, hi, h1, h2 => by
    unfold rank
    rw [if_pos (h1 0 (by omega) (k, y) rfl), rank_eq (by simpa using hi) (fun j hj p hp => h1 (j + 1) (by omega) p (by simpa using hp)) (fun p hp => h2 p (by simpa using hp))]
theorem rank_at {n : ByteArray} : ∀ {l : List (ByteArray × ν)}, Rising l → ∀ {x : ν}, mget n l = some x → l[rank n l]? = some (n, x)
  | (k, y) :: l, hr, x, h => by
    unfold Rising at hr
    rw [List.pairwise_cons] at hr
    unfold mget at h
    unfold rank
    by_cases e : n = k
    · subst e
      rw [if_pos rfl] at h
      injection h with h
      subst h
      rw [if_neg (nlt_irrefl n)]; rfl
    · rw [if_neg e] at h
      have hk : nlt k n := hr.1 (n, x) (mem_of_mget h)
      rw [if_pos hk]
      simpa using rank_at hr.2 h
theorem rank_none {n : ByteArray} {l : List (ByteArray × ν)} (h : mget n l = none) {p} (hp : l[rank n l]? = some p) : p.1 ≠ n := by
  rintro rfl
  exact (mget_none_iff _ _).1 h (List.mem_map.2 ⟨p, List.mem_of_getElem? hp, rfl⟩)
theorem ins_new {n : ByteArray} (x : ν) : ∀ {l : List (ByteArray × ν)}, Rising l → mget n l = none → ins n x l = l.take (rank n l) ++ (n, x) :: l.drop (rank n l)
  | [], _, _ => rfl
  | (k, y) :: l, hr, h => by
    unfold Rising at hr
    rw [List.pairwise_cons] at hr
    unfold mget at h
    by_cases e : n = k
    · rw [if_pos e] at h; cases h
    · rw [if_neg e] at h
      unfold ins rank
      rw [if_neg e]
      by_cases h1 : nlt n k
      · rw [if_pos h1, if_neg (nlt_asymm h1)]; rfl
      · rw [if_neg h1, if_pos (nlt_tri h1 e), ins_new x hr.2 h]; rfl
theorem ins_over {n : ByteArray} (x : ν) : ∀ {l : List (ByteArray × ν)}, Rising l → ∀ {y : ν}, mget n l = some y → ins n x l = l.set (rank n l) (n, x)
  | (k, z) :: l, hr, y, h => by
    unfold Rising at hr
    rw [List.pairwise_cons] at hr
    unfold mget at h
    by_cases e : n = k
    · subst e
      unfold ins rank
      rw [if_pos rfl, if_neg (nlt_irrefl n)]; rfl
    · rw [if_neg e] at h
      have hk : nlt k n := hr.1 (n, y) (mem_of_mget h)
      unfold ins rank
      rw [if_neg e, if_neg (nlt_asymm hk), if_pos hk, ins_over x hr.2 h]; rfl
theorem mdel_at {n : ByteArray} : ∀ {l : List (ByteArray × ν)}, Rising l → ∀ {y : ν}, mget n l = some y → mdel n l = l.take (rank n l) ++ l.drop (rank n l + 1)
  | (k, z) :: l, hr, y, h => by
    unfold Rising at hr
    rw [List.pairwise_cons] at hr
    unfold mget at h
    by_cases e : n = k
    · subst e
      unfold mdel rank
      rw [if_pos rfl, if_neg (nlt_irrefl n)]; rfl
    · rw [if_neg e] at h
      have hk : nlt k n := hr.1 (n, y) (mem_of_mget h)
      unfold mdel rank
      rw [if_neg e, if_pos hk, mdel_at hr.2 h]; rfl
theorem rank_lt_of_mget {n : ByteArray} {l : List (ByteArray × ν)} (hr : Rising l) {x : ν} (h : mget n l = some x) : rank n l < l.length := (List.getElem?_eq_some_iff.1 (rank_at hr h)).1
end

/-! ### a drive -/
/-- a file: its bytes, how many of them last, is it there behind a loss of power -/
structure FV where
  bytes : List UInt8
  sure : Nat
  old : Bool
structure DV where
  files : List (ByteArray × FV)
  fuse : Int
  off : Bool
  steps : Int

def okC (c : UInt8) : Bool := (decide (97 ≤ c) && decide (c ≤ 122)) || (decide (48 ≤ c) && decide (c ≤ 57)) || c == 46
/-- may it be a name? -/
def fineN (s : ByteArray) : Bool := decide (1 ≤ s.size) && (decide (s.size ≤ 80) && s.data.toList.all okC)
def OkF (f : FV) : Prop := f.sure ≤ f.bytes.length ∧ f.bytes.length ≤ 1048576
structure OkD (x : DV) : Prop where
  rising : Rising x.files
  file : ∀ p ∈ x.files, OkF p.2 ∧ p.1.size ≤ 80
  fuse : -1 ≤ x.fuse
  fuseW : (Lit.int .i64 x.fuse).wf = true
  stepsW : (Lit.int .i64 x.steps).wf = true

/-- what was counted once more, as a machine's number -/
def inc64 (n : Int) : Int := RowKit.wrap64 (n + 1)

def newD : DV := ⟨[], -1, false, 0⟩
def fileD (n : ByteArray) (x : DV) : Option FV := mget n x.files
/-- a step, if the power lasts -/
def stepD (x : DV) (f : DV → DV) : Int × DV :=
  if x.fuse = 0 then (50, { x with off := true }) else (0, f { x with fuse := max (x.fuse - 1) (-1), steps := inc64 x.steps })
def readyD (n : ByteArray) (x : DV) : Int := if fineN n = false then 1 else if x.off then 50 else 0
def appendD (n s : ByteArray) (x : DV) : Int × DV :=
  if readyD n x ≠ 0 then (readyD n x, x) else
  let f := (fileD n x).getD ⟨[], 0, false⟩
  if 1048576 < f.bytes.length + s.size then (52, x) else stepD x fun y => { y with files := ins n { f with bytes := f.bytes ++ s.data.toList } y.files }
def knownD (n : ByteArray) (x : DV) (k : FV → DV → DV) : Int × DV :=
  if readyD n x ≠ 0 then (readyD n x, x) else
  match fileD n x with
  | none => (51, x)
  | some f => stepD x (k f)
def syncF (f : FV) : FV := ⟨f.bytes, f.bytes.length, true⟩
def syncD (n : ByteArray) (x : DV) : Int × DV := knownD n x fun f y => { y with files := ins n (syncF f) y.files }
def removeD (n : ByteArray) (x : DV) : Int × DV := knownD n x fun _ y => { y with files := mdel n y.files }
def readD (n : ByteArray) (x : DV) : Option ByteArray := if x.off then none else (fileD n x).map fun f => bs f.bytes
def textOr (o : Option ByteArray) : ByteArray := o.getD ByteArray.empty
def prefixed (p n : ByteArray) : Bool := p.data.toList.isPrefixOf n.data.toList
def namesD (p : ByteArray) (x : DV) : List ByteArray := if x.off then [] else (x.files.map (·.1)).filter (prefixed p)
def fuseD (n : Int) (x : DV) : DV := { x with fuse := max n (-1) }
/-- how many of the bytes that wait are kept -/
def keepOf (f : FV) (n : Int) : Nat := min n.toNat (f.bytes.length - f.sure)
def cutF (f : FV) (n : Int) : FV := ⟨f.bytes.take (f.sure + keepOf f n), f.sure + keepOf f n, f.old || decide (0 < keepOf f n)⟩
def waits (f : FV) : Bool := decide (f.sure < f.bytes.length)
def crash1 (f : FV) (k : Int) : FV := if waits f then cutF f k else f
def nextK (f : FV) (ks : List Int) : List Int := if waits f then ks.tail else ks
def consIf (n : ByteArray) (g : FV) (l : List (ByteArray × FV)) : List (ByteArray × FV) := if g.old then (n, g) :: l else l
def crashF : List (ByteArray × FV) → List Int → List (ByteArray × FV)
  | [], _ => []
  | (n, f) :: l, ks => consIf n (crash1 f (ks.headD 0)) (crashF l (nextK f ks))
def crashD (ks : List Int) (x : DV) : DV := ⟨crashF x.files ks, -1, false, x.steps⟩
/-- bytes with a bit turned -/
def flipB (l : List UInt8) (b : Nat) : List UInt8 := l.modify (b / 8) fun c => c ^^^ UInt8.ofNat (1 <<< (b % 8))
def flipD (n : ByteArray) (b : Int) (x : DV) : Int × DV :=
  match fileD n x with
  | none => (51, x)
  | some f => if b < 0 ∨ (f.bytes.length : Int) ≤ b / 8 then (1, x) else (0, { x with files := ins n { f with bytes := flipB f.bytes b.toNat } x.files })
end

section
open Go.RowKit Go.ChangeShapes Go.WideShapes Go.ChangeAt

theorem wf_wrap64 (n : Int) : (Lit.int .i64 (RowKit.wrap64 n)).wf = true := by
  unfold RowKit.wrap64
  simp [Lit.wf, IntKind.bits, IntKind.signed, IntKind.min, IntKind.max]
  omega
theorem wf64 {n : Int} (h : (Lit.int .i64 n).wf = true) : -9223372036854775808 ≤ n ∧ n ≤ 9223372036854775807 := by
  simp [Lit.wf, IntKind.bits, IntKind.signed, IntKind.min, IntKind.max] at h
  omega
theorem of_wf64 {n : Int} (h : -9223372036854775808 ≤ n) (h2 : n ≤ 9223372036854775807) : (Lit.int .i64 n).wf = true := by
  simp [Lit.wf, IntKind.bits, IntKind.signed, IntKind.min, IntKind.max]
  omega

theorem newD_ok : OkD newD := ⟨List.Pairwise.nil, (by intro p h; cases h), (by decide), by decide, by decide⟩
theorem OkD.off {x : DV} (h : OkD x) (b : Bool) : OkD { x with off := b } := ⟨h.rising, h.file, h.fuse, h.fuseW, h.stepsW⟩
theorem OkD.stepped {x : DV} (h : OkD x) : OkD { x with fuse := max (x.fuse - 1) (-1), steps := inc64 x.steps } := by
  have h1 := h.fuse
  have h2 := wf64 h.fuseW
  exact ⟨h.rising, h.file, by show -1 ≤ max (x.fuse - 1) (-1); omega, of_wf64 (by show _ ≤ max (x.fuse - 1) (-1); omega) (by show max (x.fuse - 1) (-1) ≤ _; omega), wf_wrap64 _⟩
theorem OkD.with {x : DV} (h : OkD x) {l : List (ByteArray × FV)} (hr : Rising l) (hf : ∀ p ∈ l, OkF p.2 ∧ p.1.size ≤ 80) : OkD { x with files := l } := ⟨hr, hf, h.fuse, h.fuseW, h.stepsW⟩
theorem OkD.put {x : DV} (h : OkD x) (n : ByteArray) (f : FV) (hn : n.size ≤ 80) (hf : OkF f) : OkD { x with files := ins n f x.files } :=
  h.with (h.rising.ins n f) fun p hp => by
    rcases mem_ins hp with rfl | hp
    · exact ⟨hf, hn⟩
    · exact h.file p hp
theorem OkD.del {x : DV} (h : OkD x) (n : ByteArray) : OkD { x with files := mdel n x.files } := h.with (h.rising.mdel n) fun p hp => h.file p ((mdel_sub n _).subset hp)
theorem OkD.at {x : DV} (h : OkD x) {n : ByteArray} {f : FV} (hf : fileD n x = some f) : OkF f ∧ n.size ≤ 80 := h.file (n, f) (mem_of_mget hf)
theorem readyD_fine {n : ByteArray} {x : DV} (h : readyD n x = 0) : fineN n = true ∧ x.off = false ∧ n.size ≤ 80 := by
  unfold readyD at h
  split at h
  · cases h
  · split at h
    · cases h
    · rename_i h1 h2
      have h1 : fineN n = true := by simpa using h1
      refine ⟨h1, by simpa using h2, ?_⟩
      unfold fineN at h1
      simp only [Bool.and_eq_true, decide_eq_true_eq] at h1
      exact h1.2.1
theorem stepD_ok {x : DV} (h : OkD x) {f : DV → DV} (hf : ∀ y, OkD y → y.files = x.files → OkD (f y)) : OkD (stepD x f).2 := by
  unfold stepD
  split
  · exact h.off true
  · exact hf _ h.stepped rfl
theorem appendD_ok {x : DV} (h : OkD x) (n s : ByteArray) : OkD (appendD n s x).2 := by
  unfold appendD
  split
  · exact h
  · rename_i hr
    simp only
    split
    · exact h
    · rename_i hs
      refine stepD_ok h fun y hy hyf => hy.put n _ (readyD_fine (by simpa using hr)).2.2 ?_
      have hf : OkF ((fileD n x).getD ⟨[], 0, false⟩) := by
        cases he : fileD n x with
        | none => exact ⟨Nat.le_refl _, by show (0 : Nat) ≤ _; omega⟩
        | some f => exact (h.at he).1
      refine ⟨?_, ?_⟩
      · show _ ≤ ((_ : List UInt8) ++ _).length
        rw [List.length_append]; exact Nat.le_trans hf.1 (Nat.le_add_right _ _)
      · show ((_ : List UInt8) ++ _).length ≤ _
        rw [List.length_append, data_length]; exact Nat.le_of_not_lt hs
theorem knownD_ok {x : DV} (h : OkD x) {n : ByteArray} {k : FV → DV → DV} (hk : ∀ f, fileD n x = some f → n.size ≤ 80 → ∀ y, OkD y → y.files = x.files → OkD (k f y)) : OkD (knownD n x k).2 := by
  unfold knownD
  split
  · exact h
  · rename_i hr
    split
    · exact h
    · rename_i f hf
      exact stepD_ok h (hk f hf (readyD_fine (by simpa using hr)).2.2)
theorem syncF_ok {f : FV} (h : OkF f) : OkF (syncF f) := ⟨Nat.le_refl _, h.2⟩
theorem syncD_ok {x : DV} (h : OkD x) (n : ByteArray) : OkD (syncD n x).2 := knownD_ok h fun _ hf hn _ hy _ => hy.put n _ hn (syncF_ok (h.at hf).1)
theorem removeD_ok {x : DV} (h : OkD x) (n : ByteArray) : OkD (removeD n x).2 := knownD_ok h fun _ _ _ _ hy _ => hy.del n
theorem fuseD_ok {x : DV} (h : OkD x) {n : Int} (hn : (Lit.int .i64 n).wf = true) : OkD (fuseD n x) := by
  have := wf64 hn
  exact ⟨h.rising, h.file, by show -1 ≤ max n (-1); omega, of_wf64 (by show _ ≤ max n (-1); omega) (by show max n (-1) ≤ _; omega), h.stepsW⟩
theorem keepOf_le (f : FV) (n : Int) : f.sure + keepOf f n ≤ max f.sure f.bytes.length := by unfold keepOf; omega
theorem cutF_ok {f : FV} (h : OkF f) (n : Int) : OkF (cutF f n) := by
  have h1 := h.1
  have h2 := h.2
  have := keepOf_le f n
  refine ⟨?_, ?_⟩
  · show _ ≤ (List.take _ _).length
    rw [List.length_take]
    show f.sure + keepOf f n ≤ _
    omega
  · show (List.take _ _).length ≤ _
    rw [List.length_take]; omega
theorem cutF_full {f : FV} (h : OkF f) (n : Int) : (cutF f n).sure = (cutF f n).bytes.length := by
  have h1 := h.1
  have := keepOf_le f n
  show f.sure + keepOf f n = (List.take _ _).length
  rw [List.length_take]; omega
theorem crash1_ok {f : FV} (h : OkF f) (k : Int) : OkF (crash1 f k) := by
  unfold crash1
  split
  · exact cutF_ok h k
  · exact h
theorem crash1_full {f : FV} (h : OkF f) (k : Int) : (crash1 f k).sure = (crash1 f k).bytes.length := by
  unfold crash1
  split
  · exact cutF_full h k
  · rename_i hw
    unfold waits at hw
    simp only [decide_eq_true_eq] at hw
    have := h.1
    omega
theorem mem_consIf {n : ByteArray} {g : FV} {l : List (ByteArray × FV)} {p} (h : p ∈ consIf n g l) : (p = (n, g) ∧ g.old = true) ∨ p ∈ l := by
  unfold consIf at h
  split at h
  · rename_i ho
    rcases List.mem_cons.1 h with h | h
    · exact .inl ⟨h, ho⟩
    · exact .inr h
  · exact .inr h
/-- what a loss of power leaves of a file -/
theorem mem_crashF : ∀ {l : List (ByteArray × FV)} {ks : List Int} {p}, p ∈ crashF l ks → ∃ f k, (p.1, f) ∈ l ∧ p.2.old = true ∧ p.2 = crash1 f k
  | (n, f) :: l, ks, p, h => by
    unfold crashF at h
    rcases mem_consIf h with ⟨rfl, ho⟩ | h
    · exact ⟨f, _, List.mem_cons_self .., ho, rfl⟩
    · obtain ⟨f', k, h1, h2⟩ := mem_crashF h
      exact ⟨f', k, List.mem_cons_of_mem _ h1, h2⟩
theorem crashF_rising : ∀ {l : List (ByteArray × FV)}, Rising l → ∀ ks, Rising (crashF l ks)
  | [], _, _ => List.Pairwise.nil
  | (n, f) :: l, h, ks => by
    unfold Rising at h
    rw [List.pairwise_cons] at h
    unfold crashF consIf
    split
    · refine List.pairwise_cons.2 ⟨fun q hq => ?_, crashF_rising h.2 _⟩
      obtain ⟨f', _, h1, _⟩ := mem_crashF hq
      exact h.1 (q.1, f') h1
    · exact crashF_rising h.2 _
theorem crashD_ok {x : DV} (h : OkD x) (ks : List Int) : OkD (crashD ks x) := by
  refine ⟨crashF_rising h.rising ks, fun p hp => ?_, by show (-1 : Int) ≤ -1; omega, (by show (Lit.int .i64 (-1)).wf = true; decide), h.stepsW⟩
  obtain ⟨f, k, h1, _, h2⟩ := mem_crashF hp
  have h3 := h.file _ h1
  rw [h2]; exact ⟨crash1_ok h3.1 k, h3.2⟩
theorem crashF_length : ∀ (l : List (ByteArray × FV)) (ks : List Int), (crashF l ks).length ≤ l.length
  | [], _ => Nat.le_refl _
  | (n, f) :: l, ks => by
    unfold crashF consIf
    have := crashF_length l (nextK f ks)
    split <;> simp only [List.length_cons] <;> omega
theorem flipB_length (l : List UInt8) (b : Nat) : (flipB l b).length = l.length := by simp [flipB]
theorem flipD_ok {x : DV} (h : OkD x) (n : ByteArray) (b : Int) : OkD (flipD n b x).2 := by
  unfold flipD
  split
  · exact h
  · rename_i f hf
    split
    · exact h
    · have := h.at hf
      refine h.put n _ this.2 ⟨?_, ?_⟩
      · show _ ≤ (flipB _ _).length
        rw [flipB_length]; exact this.1.1
      · show (flipB _ _).length ≤ _
        rw [flipB_length]; exact this.1.2

/-! how many files -/
theorem stepD_files {x : DV} {f : DV → DV} {k : Nat} (hk : x.files.length ≤ k) (hf : ∀ y, y.files = x.files → (f y).files.length ≤ k) : (stepD x f).2.files.length ≤ k := by
  unfold stepD
  split
  · exact hk
  · exact hf _ rfl
theorem appendD_files (n s : ByteArray) (x : DV) : (appendD n s x).2.files.length ≤ x.files.length + 1 := by
  unfold appendD
  split
  · exact Nat.le_succ _
  · simp only
    split
    · exact Nat.le_succ _
    · refine stepD_files (Nat.le_succ _) fun y hy => ?_
      rw [← hy]
      exact ins_length _
theorem knownD_files {n : ByteArray} {x : DV} {k : FV → DV → DV} {m : Nat} (hm : x.files.length ≤ m) (h : ∀ f, fileD n x = some f → ∀ y, y.files = x.files → (k f y).files.length ≤ m) : (knownD n x k).2.files.length ≤ m := by
  unfold knownD
  split
  · exact hm
  · split
    · exact hm
    · rename_i f hf
      exact stepD_files hm (h f hf)
theorem syncD_files (n : ByteArray) (x : DV) : (syncD n x).2.files.length ≤ x.files.length + 1 :=
  knownD_files (Nat.le_succ _) fun f _ y hy => by rw [← hy]; exact ins_length _
theorem removeD_files (n : ByteArray) (x : DV) : (removeD n x).2.files.length ≤ x.files.length :=
  knownD_files (Nat.le_refl _) fun f _ y hy => by rw [← hy]; exact mdel_length _ _
theorem flipD_files (n : ByteArray) (b : Int) (x : DV) : (flipD n b x).2.files.length ≤ x.files.length + 1 := by
  unfold flipD
  split
  · exact Nat.le_succ _
  · split
    · exact Nat.le_succ _
    · exact ins_length _
end

section
open Go.RowKit Go.ChangeShapes Go.WideShapes Go.ChangeAt

/-! ### behind a loss of power -/
theorem mget_consIf {n k : ByteArray} {g : FV} {l : List (ByteArray × FV)} (h : ∀ p ∈ l, p.1 ≠ n) : mget k (consIf n g l) = if k = n then (if g.old then some g else none) else mget k l := by
  unfold consIf
  by_cases ho : g.old = true
  · simp only [ho, if_true, mget]
  · simp only [ho, if_false, Bool.false_eq_true]
    by_cases hk : k = n
    · subst hk
      rw [if_pos rfl]
      exact (mget_none_iff k l).2 fun hm => by obtain ⟨p, hp, he⟩ := List.mem_map.1 hm; exact h p hp he
    · rw [if_neg hk]
/-- each file by itself: it is cut by some number, and stays if it was old or something was kept -/
theorem mget_crashF : ∀ {l : List (ByteArray × FV)}, Rising l → ∀ (ks : List Int) {n : ByteArray} {f : FV}, mget n l = some f → ∃ k, mget n (crashF l ks) = if (crash1 f k).old then some (crash1 f k) else none
  | (m, g) :: l, hr, ks, n, f, h => by
    unfold Rising at hr
    rw [List.pairwise_cons] at hr
    unfold crashF
    have hne : ∀ p ∈ crashF l (nextK g ks), p.1 ≠ m := fun p hp => by
      obtain ⟨f', k, h1, _⟩ := mem_crashF hp
      exact (nlt_ne (hr.1 _ h1)).symm
    rw [mget_consIf hne]
    unfold mget at h
    by_cases e : n = m
    · rw [if_pos e] at h ⊢
      injection h with h
      subst h
      exact ⟨_, rfl⟩
    · rw [if_neg e] at h ⊢
      exact mget_crashF hr.2 _ h
theorem crash1_old {f : FV} (h : f.old = true) (k : Int) : (crash1 f k).old = true := by
  unfold crash1 cutF
  split
  · simp [h]
  · exact h
theorem crash1_bytes {f : FV} (ho : OkF f) (k : Int) : ∃ m, f.sure ≤ m ∧ m ≤ f.bytes.length ∧ (crash1 f k).bytes = f.bytes.take m ∧ (crash1 f k).sure = m := by
  have h1 := ho.1
  unfold crash1 waits
  split
  · rename_i hw
    simp only [decide_eq_true_eq] at hw
    have := keepOf_le f k
    exact ⟨f.sure + keepOf f k, by omega, by omega, rfl, rfl⟩
  · rename_i hw
    simp only [decide_eq_true_eq] at hw
    exact ⟨f.bytes.length, by omega, Nat.le_refl _, (List.take_length).symm, by omega⟩

/-! ### what was synced lasts -/
/-- the file is there, old, and these bytes stand at the front of what lasts of it -/
def Lasts (n : ByteArray) (s : List UInt8) (x : DV) : Prop := ∃ f, fileD n x = some f ∧ f.old = true ∧ s <+: f.bytes.take f.sure
theorem stepD_files_eq (x : DV) (f : DV → DV) : (stepD x f).2.files = x.files ∨ ((stepD x f).1 = 0 ∧ (stepD x f).2 = f { x with fuse := max (x.fuse - 1) (-1), steps := inc64 x.steps }) := by
  unfold stepD
  split
  · exact .inl rfl
  · exact .inr ⟨rfl, rfl⟩
theorem lasts_of_files {n : ByteArray} {s : List UInt8} {x y : DV} (h : Lasts n s x) (e : y.files = x.files) : Lasts n s y := by
  obtain ⟨f, h1, h2⟩ := h
  exact ⟨f, by unfold fileD at *; rw [e]; exact h1, h2⟩
theorem lasts_append {n m t : ByteArray} {s : List UInt8} {x : DV} (hx : OkD x) (h : Lasts n s x) : Lasts n s (appendD m t x).2 := by
  unfold appendD
  split
  · exact h
  simp only
  split
  · exact h
  rcases stepD_files_eq x (fun y => { y with files := ins m { (fileD m x).getD ⟨[], 0, false⟩ with bytes := ((fileD m x).getD ⟨[], 0, false⟩).bytes ++ t.data.toList } y.files }) with e | ⟨_, e⟩
  · exact lasts_of_files h e
  · rw [e]
    obtain ⟨f, h1, h2, h3⟩ := h
    by_cases hn : n = m
    · subst hn
      refine ⟨{ f with bytes := f.bytes ++ t.data.toList }, ?_, h2, ?_⟩
      · show mget n (ins n _ x.files) = _
        rw [mget_ins, if_pos rfl, h1]; rfl
      · show s <+: (f.bytes ++ t.data.toList).take f.sure
        rw [List.take_append_of_le_length (hx.at h1).1.1]; exact h3
    · refine ⟨f, ?_, h2, h3⟩
      show mget n (ins m _ x.files) = _
      rw [mget_ins, if_neg hn]; exact h1
theorem lasts_sync {n m : ByteArray} {s : List UInt8} {x : DV} (h : Lasts n s x) : Lasts n s (syncD m x).2 := by
  unfold syncD knownD
  split
  · exact h
  split
  · exact h
  rename_i f0 hf0
  rcases stepD_files_eq x (fun y => { y with files := ins m (syncF f0) y.files }) with e | ⟨_, e⟩
  · exact lasts_of_files h e
  · rw [e]
    obtain ⟨f, h1, h2, h3⟩ := h
    by_cases hn : n = m
    · subst hn
      rw [h1] at hf0
      injection hf0 with hf0
      subst hf0
      refine ⟨syncF f, ?_, rfl, ?_⟩
      · show mget n (ins n _ x.files) = _
        rw [mget_ins, if_pos rfl]
      · show s <+: f.bytes.take f.bytes.length
        rw [List.take_length]; exact h3.trans (List.take_prefix _ _)
    · refine ⟨f, ?_, h2, h3⟩
      show mget n (ins m _ x.files) = _
      rw [mget_ins, if_neg hn]; exact h1
/-- a Sync that is answered OK -/
theorem sync_ok {n : ByteArray} {x : DV} (h : (syncD n x).1 = 0) : ∃ f, fileD n (syncD n x).2 = some (syncF f) ∧ (syncD n x).2.off = false := by
  unfold syncD knownD at h ⊢
  split at h
  · rename_i hr; exact absurd h hr
  · rename_i hr
    rw [if_neg hr]
    have hr := readyD_fine (by simpa using hr)
    split at h
    · cases h
    · rename_i f hf
      unfold stepD at h ⊢
      split at h
      · cases h
      · rename_i hfu
        rw [if_neg hfu]
        refine ⟨f, ?_, hr.2.1⟩
        show mget n (ins n _ x.files) = _
        rw [mget_ins, if_pos rfl]
theorem lasts_sync_ok {n : ByteArray} {x : DV} (h : (syncD n x).1 = 0) : ∃ b, readD n (syncD n x).2 = some (bs b) ∧ Lasts n b (syncD n x).2 := by
  obtain ⟨f, h1, h2⟩ := sync_ok h
  refine ⟨f.bytes, ?_, syncF f, h1, rfl, ?_⟩
  · unfold readD; rw [h2, h1]; rfl
  · show f.bytes <+: f.bytes.take f.bytes.length
    rw [List.take_length]
    exact List.prefix_refl _
theorem lasts_remove {n m : ByteArray} {s : List UInt8} {x : DV} (hx : OkD x) (h : Lasts n s x) (hn : n ≠ m ∨ (removeD m x).1 ≠ 0) : Lasts n s (removeD m x).2 := by
  unfold removeD knownD at hn ⊢
  split
  · exact h
  rename_i hr
  rw [if_neg hr] at hn
  split
  · exact h
  rename_i f0 hf0
  simp only [hf0] at hn
  rcases stepD_files_eq x (fun y => { y with files := mdel m y.files }) with e | ⟨e0, e⟩
  · exact lasts_of_files h e
  · rw [e]
    have hnm : n ≠ m := by
      rcases hn with h | h
      · exact h
      · exact absurd e0 h
    obtain ⟨f, h1, h2, h3⟩ := h
    refine ⟨f, ?_, h2, h3⟩
    show mget n (mdel m x.files) = _
    rw [mget_del m n _ hx.rising.nodup, if_neg hnm]; exact h1
theorem lasts_crash {n : ByteArray} {s : List UInt8} {x : DV} (hx : OkD x) (ks : List Int) (h : Lasts n s x) : Lasts n s (crashD ks x) := by
  obtain ⟨f, h1, h2, h3⟩ := h
  obtain ⟨k, hk⟩ := mget_crashF hx.rising ks h1
  obtain ⟨m, m1, m2, m3, m4⟩ := crash1_bytes (hx.at h1).1 k
  refine ⟨crash1 f k, ?_, crash1_old h2 k, ?_⟩
  · show mget n (crashF x.files ks) = _
    rw [hk, if_pos (crash1_old h2 k)]
  · rw [m3, m4, List.take_take, Nat.min_self]
    exact h3.trans (List.take_prefix_take_left m1)
/-- and what a reader sees of it behind a loss of power -/
theorem lasts_read {n : ByteArray} {s : List UInt8} {x : DV} (h : Lasts n s x) (ho : x.off = false) : ∃ t, readD n x = some (bs t) ∧ s <+: t := by
  obtain ⟨f, h1, h2, h3⟩ := h
  exact ⟨f.bytes, by unfold readD; rw [ho, h1]; rfl, h3.trans (List.take_prefix _ _)⟩

/-! ### what is left is left again -/
theorem crash_again {x : DV} (hx : OkD x) (ks more : List Int) : crashD more (crashD ks x) = crashD ks x := by
  have : ∀ (l : List (ByteArray × FV)) (ks more : List Int), (∀ p ∈ l, OkF p.2) → (∀ p ∈ crashF l ks, p.2.old = true ∧ p.2.sure = p.2.bytes.length) := by
    intro l ks more hl p hp
    obtain ⟨f, k, h1, h2, h3⟩ := mem_crashF hp
    exact ⟨h2, by rw [h3]; exact crash1_full (hl _ h1) k⟩
  have h2 : ∀ (l : List (ByteArray × FV)) (more : List Int), (∀ p ∈ l, p.2.old = true ∧ p.2.sure = p.2.bytes.length) → crashF l more = l := by
    intro l
    induction l with
    | nil => intro _ _; rfl
    | cons p l ih =>
      intro more h
      obtain ⟨n, f⟩ := p
      have h1 : f.old = true ∧ f.sure = f.bytes.length := h (n, f) (List.mem_cons_self ..)
      have hw : waits f = false := by unfold waits; rw [h1.2]; simp
      unfold crashF crash1 nextK consIf
      rw [hw]
      simp only [Bool.false_eq_true, if_false, h1.1, if_true]
      rw [ih more fun q hq => h q (List.mem_cons_of_mem _ hq)]
  unfold crashD
  simp only
  rw [h2 _ more (this x.files ks more fun p hp => (hx.file p hp).1)]
end
end Go.Proofs.YtflodiljgphkdaaGreat
