/-
  A drive, plainly: files by rising names; what each call does.
-/
import Derived.Test.YtflodiljgphkdaaMap
import Derived.Test.YtflodiljgphkdaaGen
namespace Go.Proofs.Ytflodiljgphkdaa
open Go.RowKit Go.ChangeShapes Go.WideShapes Go.ChangeAt

/-! ### names in their order -/
/-- Go's '<' on texts -/
def nlt (a b : ByteArray) : Prop := a.data.toList < b.data.toList
instance (a b : ByteArray) : Decidable (nlt a b) := inferInstanceAs (Decidable (a.data.toList < b.data.toList))
theorem data_inj {a b : ByteArray} (h : a.data.toList = b.data.toList) : a = b := by
  rw [← bs_of a, h, bs_of]
theorem nlt_irrefl (a : ByteArray) : ¬ nlt a a := List.lt_irrefl _
theorem nlt_trans {a b c : ByteArray} (h : nlt a b) (k : nlt b c) : nlt a c := List.lt_trans h k
theorem nlt_ne {a b : ByteArray} (h : nlt a b) : a ≠ b := fun e => nlt_irrefl b (e ▸ h)
theorem nlt_asymm {a b : ByteArray} (h : nlt a b) : ¬ nlt b a := fun k => nlt_irrefl _ (nlt_trans h k)
theorem nlt_tri {a b : ByteArray} (h : ¬ nlt a b) (hn : a ≠ b) : nlt b a := by
  unfold nlt at *
  rw [List.not_lt] at h
  rcases Decidable.em (b.data.toList < a.data.toList) with h1 | h1
  · exact h1
  · rw [List.not_lt] at h1
    exact absurd (data_inj (List.le_antisymm h1 h)) hn

section
variable {ν : Type}
/-- by rising names -/
def Rising (l : List (ByteArray × ν)) : Prop := l.Pairwise fun a b => nlt a.1 b.1
/-- put in its place, or over the one that is there -/
def ins (n : ByteArray) (x : ν) : List (ByteArray × ν) → List (ByteArray × ν)
  | [] => [(n, x)]
  | (k, y) :: l => if n = k then (n, x) :: l else if nlt n k then (n, x) :: (k, y) :: l else (k, y) :: ins n x l
/-- how many stand ahead of a name -/
def rank (n : ByteArray) : List (ByteArray × ν) → Nat
  | [] => 0
  | (k, _) :: l => if nlt k n then rank n l + 1 else 0

theorem mget_ins (n k : ByteArray) (x : ν) : ∀ l : List (ByteArray × ν), mget k (ins n x l) = if k = n then some x else mget k l
  | [] => by simp [ins, mget]
  | (m, y) :: l => by
    unfold ins
    by_cases h : n = m
    · subst h
      by_cases h2 : k = n <;> simp [mget, h2]
    · simp only [if_neg h]
      by_cases h1 : nlt n m
      · simp only [if_pos h1, mget]
      · simp only [if_neg h1, mget]
        rw [mget_ins n k x l]
        by_cases h2 : k = m
        · subst h2
          simp [Ne.symm h]
        · simp [h2]
theorem mem_ins {n : ByteArray} {x : ν} : ∀ {l : List (ByteArray × ν)} {p}, p ∈ ins n x l → p = (n, x) ∨ p ∈ l
  | [], p, h => by simp [ins] at h; exact .inl h
  | (m, y) :: l, p, h => by
    unfold ins at h
    by_cases h1 : n = m
    · simp only [if_pos h1, List.mem_cons] at h
      rcases h with h | h
      · exact .inl h
      · exact .inr (List.mem_cons_of_mem _ h)
    · simp only [if_neg h1] at h
      by_cases h2 : nlt n m
      · simp only [if_pos h2, List.mem_cons] at h
        rcases h with h | h | h
        · exact .inl h
        · exact .inr (h ▸ List.mem_cons_self ..)
        · exact .inr (List.mem_cons_of_mem _ h)
      · simp only [if_neg h2, List.mem_cons] at h
        rcases h with h | h
        · exact .inr (h ▸ List.mem_cons_self ..)
        · rcases mem_ins h with h | h
          · exact .inl h
          · exact .inr (List.mem_cons_of_mem _ h)
theorem Rising.ins {l : List (ByteArray × ν)} (h : Rising l) (n : ByteArray) (x : ν) : Rising (ins n x l) := by
  induction l with
  | nil => simp [Go.Proofs.Ytflodiljgphkdaa.ins, Rising]
  | cons p l ih =>
    obtain ⟨m, y⟩ := p
    have h' := h
    unfold Rising at h
    rw [List.pairwise_cons] at h
    unfold Go.Proofs.Ytflodiljgphkdaa.ins
    by_cases h1 : n = m
    · subst h1
      simp only [if_true]
      exact List.pairwise_cons.2 h
    · simp only [if_neg h1]
      by_cases h2 : nlt n m
      · simp only [if_pos h2]
        refine List.pairwise_cons.2 ⟨?_, h'⟩
        intro q hq
        rcases List.mem_cons.1 hq with rfl | hq
        · exact h2
        · exact nlt_trans h2 (h.1 q hq)
      · simp only [if_neg h2]
        refine List.pairwise_cons.2 ⟨?_, ih h.2⟩
        intro q hq
        rcases mem_ins hq with rfl | hq
        · exact nlt_tri h2 h1
        · exact h.1 q hq
theorem mdel_sub (n : ByteArray) : ∀ l : List (ByteArray × ν), (mdel n l).Sublist l
  | [] => by simp [mdel]
  | (k, y) :: l => by
    unfold mdel
    split
    · exact List.sublist_cons_self ..
    · exact (mdel_sub n l).cons_cons _
theorem Rising.mdel {l : List (ByteArray × ν)} (h : Rising l) (n : ByteArray) : Rising (mdel n l) := h.sublist (mdel_sub n l)
theorem Rising.nodup {l : List (ByteArray × ν)} (h : Rising l) : (l.map (·.1)).Nodup := by
  unfold Rising at h
  exact List.pairwise_map.2 (h.imp fun h => nlt_ne h)
theorem mem_of_mget {n : ByteArray} {x : ν} : ∀ {l : List (ByteArray × ν)}, mget n l = some x → (n, x) ∈ l
  | (k, y) :: l, h => by
    unfold mget at h
    split at h
    · rename_i e; subst e; injection h with h; subst h; exact List.mem_cons_self ..
    · exact List.mem_cons_of_mem _ (mem_of_mget h)
theorem mget_of_mem {l : List (ByteArray × ν)} (h : (l.map (·.1)).Nodup) {n : ByteArray} {x : ν} (hm : (n, x) ∈ l) : mget n l = some x := by
  induction l with
  | nil => cases hm
  | cons p l ih =>
    obtain ⟨k, y⟩ := p
    simp only [List.map_cons, List.nodup_cons] at h
    unfold mget
    rcases List.mem_cons.1 hm with e | hm
    · injection e with e1 e2; subst e1 e2; simp
    · have : n ≠ k := fun e => h.1 (e ▸ List.mem_map.2 ⟨_, hm, rfl⟩)
      rw [if_neg this]; exact ih h.2 hm
theorem ins_length {n : ByteArray} {x : ν} : ∀ l : List (ByteArray × ν), (ins n x l).length ≤ l.length + 1
  | [] => by simp [ins]
  | (k, y) :: l => by
    unfold ins
    split
    · simp
    · split
      · simp
      · have := ins_length (n := n) (x := x) l; simp only [List.length_cons]; omega
theorem mdel_length (n : ByteArray) (l : List (ByteArray × ν)) : (mdel n l).length ≤ l.length := (mdel_sub n l).length_le

/-! the place of a name -/
theorem rank_le (n : ByteArray) : ∀ l : List (ByteArray × ν), rank n l ≤ l.length
  | [] => Nat.le_refl _
  | (k, y) :: l => by
    unfold rank
    split
    · have := rank_le n l; simp; omega
    · exact Nat.zero_le _
/-- What the counting loop finds at each place that it goes by, and where it stops. -/
theorem rank_lt {n : ByteArray} : ∀ {l : List (ByteArray × ν)} {i : Nat} {p}, i < rank n l → l[i]? = some p → nlt p.1 n
  | (k, y) :: l, i, p, h, hi => by
    unfold rank at h
    split at h
    · rename_i hk
      cases i with
      | zero => simp at hi; subst hi; exact hk
      | succ i => exact rank_lt (l := l) (i := i) (by omega) (by simpa using hi)
    · omega
theorem rank_stop {n : ByteArray} : ∀ {l : List (ByteArray × ν)} {p}, l[rank n l]? = some p → ¬ nlt p.1 n
  | (k, y) :: l, p, h => by
    unfold rank at h
    split at h
    · simp only [List.getElem?_cons_succ] at h
      exact rank_stop h
    · rename_i hk
      simp at h; subst h; exact hk
theorem rank_eq {n : ByteArray} : ∀ {l : List (ByteArray × ν)} {i : Nat}, i ≤ l.length → (∀ j, j < i → ∀ p, l[j]? = some p → nlt p.1 n) → (∀ p, l[i]? = some p → ¬ nlt p.1 n) → rank n l = i
  | [], i, hi, _, _ => by simp at hi; subst hi; rfl
  | (k, y) :: l, 0, _, _, h => by
    unfold rank
    rw [if_neg (h (k, y) rfl)]
  | (k, y) :: l, i + 1, hi, h1, h2 => by
    unfold rank
    rw [if_pos (h1 0 (by omega) (k, y) rfl), rank_eq (by simpa using hi) (fun j hj p hp => h1 (j + 1) (by omega) p (by simpa using hp)) (fun p hp => h2 p (by simpa using hp))]
theorem rank_at {n : ByteArray} : ∀ {l : List (ByteArray × ν)}, Rising l → ∀ {x : ν}, mget n l = some x → l[rank n l]? = some (n, x)
  | (k, y) :: l, hr, x, h => by
    unfold Rising at hr
    rw [List.pairwise_cons] at hr
    unfold mget at h
    unfold rank
    by_cases e : n = k
    · subst e
      rw [if_pos rfl] at h
      injection h with h
      subst h
      rw [if_neg (nlt_irrefl n)]; rfl
    · rw [if_neg e] at h
      have hk : nlt k n := hr.1 (n, x) (mem_of_mget h)
      rw [if_pos hk]
      simpa using rank_at hr.2 h
theorem rank_none {n : ByteArray} {l : List (ByteArray × ν)} (h : mget n l = none) {p} (hp : l[rank n l]? = some p) : p.1 ≠ n := by
  rintro rfl
  exact (mget_none_iff _ _).1 h (List.mem_map.2 ⟨p, List.mem_of_getElem? hp, rfl⟩)
theorem ins_new {n : ByteArray} (x : ν) : ∀ {l : List (ByteArray × ν)}, Rising l → mget n l = none → ins n x l = l.take (rank n l) ++ (n, x) :: l.drop (rank n l)
  | [], _, _ => rfl
  | (k, y) :: l, hr, h => by
    unfold Rising at hr
    rw [List.pairwise_cons] at hr
    unfold mget at h
    by_cases e : n = k
    · rw [if_pos e] at h; cases h
    · rw [if_neg e] at h
      unfold ins rank
      rw [if_neg e]
      by_cases h1 : nlt n k
      · rw [if_pos h1, if_neg (nlt_asymm h1)]; rfl
      · rw [if_neg h1, if_pos (nlt_tri h1 e), ins_new x hr.2 h]; rfl
theorem ins_over {n : ByteArray} (x : ν) : ∀ {l : List (ByteArray × ν)}, Rising l → ∀ {y : ν}, mget n l = some y → ins n x l = l.set (rank n l) (n, x)
  | (k, z) :: l, hr, y, h => by
    unfold Rising at hr
    rw [List.pairwise_cons] at hr
    unfold mget at h
    by_cases e : n = k
    · subst e
      unfold ins rank
      rw [if_pos rfl, if_neg (nlt_irrefl n)]; rfl
    · rw [if_neg e] at h
      have hk : nlt k n := hr.1 (n, y) (mem_of_mget h)
      unfold ins rank
      rw [if_neg e, if_neg (nlt_asymm hk), if_pos hk, ins_over x hr.2 h]; rfl
theorem mdel_at {n : ByteArray} : ∀ {l : List (ByteArray × ν)}, Rising l → ∀ {y : ν}, mget n l = some y → mdel n l = l.take (rank n l) ++ l.drop (rank n l + 1)
  | (k, z) :: l, hr, y, h => by
    unfold Rising at hr
    rw [List.pairwise_cons] at hr
    unfold mget at h
    by_cases e : n = k
    · subst e
      unfold mdel rank
      rw [if_pos rfl, if_neg (nlt_irrefl n)]; rfl
    · rw [if_neg e] at h
      have hk : nlt k n := hr.1 (n, y) (mem_of_mget h)
      unfold mdel rank
      rw [if_neg e, if_pos hk, mdel_at hr.2 h]; rfl
theorem rank_lt_of_mget {n : ByteArray} {l : List (ByteArray × ν)} (hr : Rising l) {x : ν} (h : mget n l = some x) : rank n l < l.length := (List.getElem?_eq_some_iff.1 (rank_at hr h)).1
end

/-! ### a drive -/
/-- a file: its bytes, how many of them last, is it there behind a loss of power -/
structure FV where
  bytes : List UInt8
  sure : Nat
  old : Bool
structure DV where
  files : List (ByteArray × FV)
  fuse : Int
  off : Bool
  steps : Int

def okC (c : UInt8) : Bool := (decide (97 ≤ c) && decide (c ≤ 122)) || (decide (48 ≤ c) && decide (c ≤ 57)) || c == 46
/-- may it be a name? -/
def fineN (s : ByteArray) : Bool := decide (1 ≤ s.size) && (decide (s.size ≤ 80) && s.data.toList.all okC)
def OkF (f : FV) : Prop := f.sure ≤ f.bytes.length ∧ f.bytes.length ≤ 1048576
structure OkD (x : DV) : Prop where
  rising : Rising x.files
  file : ∀ p ∈ x.files, OkF p.2 ∧ p.1.size ≤ 80
  fuse : -1 ≤ x.fuse
  fuseW : (Lit.int .i64 x.fuse).wf = true
  stepsW : (Lit.int .i64 x.steps).wf = true

/-- what was counted once more, as a machine's number -/
def inc64 (n : Int) : Int := RowKit.wrap64 (n + 1)

def newD : DV := ⟨[], -1, false, 0⟩
def fileD (n : ByteArray) (x : DV) : Option FV := mget n x.files
/-- a step, if the power lasts -/
def stepD (x : DV) (f : DV → DV) : Int × DV :=
  if x.fuse = 0 then (50, { x with off := true }) else (0, f { x with fuse := max (x.fuse - 1) (-1), steps := inc64 x.steps })
def readyD (n : ByteArray) (x : DV) : Int := if fineN n = false then 1 else if x.off then 50 else 0
def appendD (n s : ByteArray) (x : DV) : Int × DV :=
  if readyD n x ≠ 0 then (readyD n x, x) else
  let f := (fileD n x).getD ⟨[], 0, false⟩
  if 1048576 < f.bytes.length + s.size then (52, x) else stepD x fun y => { y with files := ins n { f with bytes := f.bytes ++ s.data.toList } y.files }
def knownD (n : ByteArray) (x : DV) (k : FV → DV → DV) : Int × DV :=
  if readyD n x ≠ 0 then (readyD n x, x) else
  match fileD n x with
  | none => (51, x)
  | some f => stepD x (k f)
def syncF (f : FV) : FV := ⟨f.bytes, f.bytes.length, true⟩
def syncD (n : ByteArray) (x : DV) : Int × DV := knownD n x fun f y => { y with files := ins n (syncF f) y.files }
def removeD (n : ByteArray) (x : DV) : Int × DV := knownD n x fun _ y => { y with files := mdel n y.files }
def readD (n : ByteArray) (x : DV) : Option ByteArray := if x.off then none else (fileD n x).map fun f => bs f.bytes
def textOr (o : Option ByteArray) : ByteArray := o.getD ByteArray.empty
def prefixed (p n : ByteArray) : Bool := p.data.toList.isPrefixOf n.data.toList
def namesD (p : ByteArray) (x : DV) : List ByteArray := if x.off then [] else (x.files.map (·.1)).filter (prefixed p)
def fuseD (n : Int) (x : DV) : DV := { x with fuse := max n (-1) }
/-- how many of the bytes that wait are kept -/
def keepOf (f : FV) (n : Int) : Nat := min n.toNat (f.bytes.length - f.sure)
def cutF (f : FV) (n : Int) : FV := ⟨f.bytes.take (f.sure + keepOf f n), f.sure + keepOf f n, f.old || decide (0 < keepOf f n)⟩
def waits (f : FV) : Bool := decide (f.sure < f.bytes.length)
def crash1 (f : FV) (k : Int) : FV := if waits f then cutF f k else f
def nextK (f : FV) (ks : List Int) : List Int := if waits f then ks.tail else ks
def consIf (n : ByteArray) (g : FV) (l : List (ByteArray × FV)) : List (ByteArray × FV) := if g.old then (n, g) :: l else l
def crashF : List (ByteArray × FV) → List Int → List (ByteArray × FV)
  | [], _ => []
  | (n, f) :: l, ks => consIf n (crash1 f (ks.headD 0)) (crashF l (nextK f ks))
def crashD (ks : List Int) (x : DV) : DV := ⟨crashF x.files ks, -1, false, x.steps⟩
/-- bytes with a bit turned -/
def flipB (l : List UInt8) (b : Nat) : List UInt8 := l.modify (b / 8) fun c => c ^^^ UInt8.ofNat (1 <<< (b % 8))
def flipD (n : ByteArray) (b : Int) (x : DV) : Int × DV :=
  match fileD n x with
  | none => (51, x)
  | some f => if b < 0 ∨ (f.bytes.length : Int) ≤ b / 8 then (1, x) else (0, { x with files := ins n { f with bytes := flipB f.bytes b.toNat } x.files })
end Go.Proofs.Ytflodiljgphkdaa
