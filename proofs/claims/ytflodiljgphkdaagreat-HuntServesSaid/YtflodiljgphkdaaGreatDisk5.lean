/-
  disk: what becomes of a drive when one of its files turns, comes, goes.
-/
import Derived.Test.YtflodiljgphkdaaGreatDisk4
namespace Go.Proofs.YtflodiljgphkdaaGreat
open Go.RowKit Go.ChangeShapes Go.WideShapes Go.ChangeAt

/-- a file laid elsewhere -/
def updL (L : Loc) (n : ByteArray) (p : Nat × Value) : Loc := fun n' => if n' = n then p else L n'
theorem updL_same (L : Loc) (n : ByteArray) (p : Nat × Value) : updL L n p n = p := by unfold updL; rw [if_pos rfl]
theorem updL_other (L : Loc) {n n' : ByteArray} (p : Nat × Value) (h : n' ≠ n) : updL L n p n' = L n' := by unfold updL; rw [if_neg h]
theorem DV.eta_files (x : DV) : { x with files := x.files } = x := rfl
namespace DiskIn
variable {w w' : World} {d m : Nat} {l : List (ByteArray × Value)} {L : Loc} {x : DV}
/-- a file that came, or turned -/
theorem assign (h : DiskIn w d m l L x) (n : ByteArray) (b : Nat) (v : Value) (f : FV) {l' : List (ByteArray × Value)} (hb : DBlk w' d m x) (hm : MapOf w' m Value.string l')
    (he : ∀ k, mget k l' = if k = n then some (Value.pointer (some ⟨b, 0, none⟩)) else mget k l) (ho : ∀ n' f', n' ≠ n → mget n' x.files = some f' → FileIn w' (L n').1 (L n').2 f') (hf : FileIn w' b v f)
    (ha : ∀ n' f', n' ≠ n → mget n' x.files = some f' → ∀ k, FF (L n').1 (L n').2 k → ¬ FF b v k) (hn : n.size ≤ 80) (hof : OkF f) : DiskIn w' d m l' (updL L n (b, v)) { x with files := ins n f x.files } where
  blk := hb
  map := hm
  ents k := by
    rw [he k]
    show _ = (mget k (ins n f x.files)).map _
    rw [mget_ins]
    by_cases hk : k = n
    · subst hk; rw [if_pos rfl, if_pos rfl, updL_same]; rfl
    · rw [if_neg hk, if_neg hk, updL_other _ _ hk]; exact h.ents k
  file n' f' h' := by
    have h' : mget n' (ins n f x.files) = some f' := h'
    rw [mget_ins] at h'
    by_cases hk : n' = n
    · subst hk
      rw [if_pos rfl] at h'; injection h' with h'; subst h'
      rw [updL_same]; exact hf
    · rw [if_neg hk] at h'
      rw [updL_other _ _ hk]; exact ho n' f' hk h'
  apart n1 n2 f1 f2 h1 h2 hne := by
    have g1 : mget n1 (ins n f x.files) = some f1 := h1
    have g2 : mget n2 (ins n f x.files) = some f2 := h2
    clear h1 h2
    rw [mget_ins] at g1 g2
    by_cases e1 : n1 = n
    · subst e1
      rw [if_neg hne.symm] at g2
      rw [updL_same, updL_other _ _ hne.symm]
      exact fun k hk hk2 => ha n2 f2 hne.symm g2 k hk2 hk
    · rw [if_neg e1] at g1
      rw [updL_other _ _ e1]
      by_cases e2 : n2 = n
      · subst e2
        rw [updL_same]
        exact ha n1 f1 e1 g1
      · rw [if_neg e2] at g2
        rw [updL_other _ _ e2]
        exact h.apart n1 n2 f1 f2 g1 g2 hne
  ok := h.ok.put n f hn hof
theorem assign_foot (h : DiskIn w d m l L x) (n : ByteArray) (b : Nat) (v : Value) (f : FV) : ∀ k, DF d m (updL L n (b, v)) { x with files := ins n f x.files } k → DF d m L x k ∨ FF b v k := by
  rintro k (rfl | rfl | ⟨n', f', h', hk⟩)
  · exact .inl (.inl rfl)
  · exact .inl (.inr (.inl rfl))
  · have h' : mget n' (ins n f x.files) = some f' := h'
    rw [mget_ins] at h'
    by_cases hn : n' = n
    · subst hn
      rw [updL_same] at hk
      exact .inr hk
    · rw [if_neg hn] at h'
      rw [updL_other _ _ hn] at hk
      exact .inl (.inr (.inr ⟨n', f', h', hk⟩))
/-- a file that is there turned, in its place -/
theorem turn (h : DiskIn w d m l L x) {n : ByteArray} {f f' : FV} (hf : mget n x.files = some f) (hu : FileUp w w' (L n).1 (L n).2 f') (hof : OkF f') :
    ∃ L', DiskIn w' d m l L' { x with files := ins n f' x.files } ∧ Kp (DF d m L x) w w' ∧ ∀ k, DF d m L' { x with files := ins n f' x.files } k → DF d m L x k ∨ w.heap.size ≤ k := by
  obtain ⟨v', hf', hk, hn⟩ := hu
  have hne := h.file n f hf
  have hap : ∀ n' g, n' ≠ n → mget n' x.files = some g → ∀ k, FF (L n').1 (L n').2 k → ¬ FF (L n).1 (L n).2 k := fun n' g hn' hg => h.apart n' n g f hg hf hn'
  refine ⟨_, h.assign n (L n).1 v' f' (Blk.kept h.blk hk fun hd => (hne.ne_d h.blk d hd) rfl) (h.map.kept hk fun hm => (hne.ne_m h.map m hm) rfl) (fun k => ?_) (fun n' g hn' hg => (h.file n' g hg).kept hk (hap n' g hn' hg)) hf' (fun n' g hn' hg k hk' hk2 => ?_) (h.ok.at hf).2 hof, hk.mono fun k _ hk => .inr (.inr ⟨n, f, hf, hk⟩), fun k hk => ?_⟩
  · by_cases e : k = n
    · subst e; rw [if_pos rfl, h.ents k, hf]; rfl
    · rw [if_neg e]
  · rcases hk2 with rfl | hk2
    · exact hap n' g hn' hg _ hk' (.inl rfl)
    · rcases hn k hk2 with h1 | h1
      · exact hap n' g hn' hg k hk' (.inr h1)
      · have := (h.file n' g hg).lt k hk'; omega
  · rcases h.assign_foot n _ _ _ k hk with h1 | rfl | h1
    · exact .inl h1
    · exact .inl (.inr (.inr ⟨n, f, hf, .inl rfl⟩))
    · rcases hn k h1 with h1 | h1
      · exact .inl (.inr (.inr ⟨n, f, hf, .inr h1⟩))
      · exact .inr h1
/-- a file that is gone -/
theorem delete (h : DiskIn w d m l L x) (n : ByteArray) (hm : MapOf w' m Value.string (mdel n l)) (hk : Kp (· = m) w w') : DiskIn w' d m (mdel n l) L { x with files := mdel n x.files } where
  blk := Blk.kept h.blk hk h.d_ne_m
  map := hm
  ents k := by
    have hnd : (l.map (·.1)).Nodup := by obtain ⟨_, _, _, _, hnd, _⟩ := h.map; exact hnd
    rw [mget_del n k l hnd]
    show _ = (mget k (mdel n x.files)).map _
    rw [mget_del n k _ h.ok.rising.nodup]
    by_cases e : k = n
    · rw [if_pos e, if_pos e]; rfl
    · rw [if_neg e, if_neg e]; exact h.ents k
  file n' f' h' := by
    have h' : mget n' (mdel n x.files) = some f' := h'
    rw [mget_del n n' _ h.ok.rising.nodup] at h'
    by_cases e : n' = n
    · rw [if_pos e] at h'; cases h'
    · rw [if_neg e] at h'
      exact (h.file n' f' h').kept hk fun k hk => (h.file n' f' h').ne_m h.map k hk
  apart n1 n2 f1 f2 h1 h2 hne := by
    have h1 : mget n1 (mdel n x.files) = some f1 := h1
    have h2 : mget n2 (mdel n x.files) = some f2 := h2
    rw [mget_del n _ _ h.ok.rising.nodup] at h1 h2
    by_cases e1 : n1 = n
    · rw [if_pos e1] at h1; cases h1
    · by_cases e2 : n2 = n
      · rw [if_pos e2] at h2; cases h2
      · rw [if_neg e1] at h1
        rw [if_neg e2] at h2
        exact h.apart n1 n2 f1 f2 h1 h2 hne
  ok := h.ok.del n
theorem delete_foot (h : DiskIn w d m l L x) (n : ByteArray) : ∀ k, DF d m L { x with files := mdel n x.files } k → DF d m L x k := by
  rintro k (rfl | rfl | ⟨n', f', h', hk⟩)
  · exact .inl rfl
  · exact .inr (.inl rfl)
  · have h' : mget n' (mdel n x.files) = some f' := h'
    rw [mget_del n n' _ h.ok.rising.nodup] at h'
    by_cases e : n' = n
    · rw [if_pos e] at h'; cases h'
    · rw [if_neg e] at h'
      exact .inr (.inr ⟨n', f', h', hk⟩)
end DiskIn
end Go.Proofs.YtflodiljgphkdaaGreat
