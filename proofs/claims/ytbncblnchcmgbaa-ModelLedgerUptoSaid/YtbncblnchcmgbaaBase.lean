/-
  What all proofs of this seat share: the frame of a call, readings of typed values with the blocks that they rest on, and the way from a walk of a law to the given statement.
-/
import Derived.Test.YtbncblnchcmgbaaRows
import Derived.WalkKit
import Derived.WalkSpells
import Derived.WalkLawsBesides
import Derived.ProofKit
import Derived.OpenShut
import Derived.JoinedCond
import Derived.RegionTactic
import Derived.ChangeAlike
import Derived.Deep.QuietTactic
import Derived.BigQuiet
import Derived.LoopTactic
import Derived.Deep.Slices
import Derived.Deep.Draws
import Derived.ChangeSame
import Derived.Carry
import Derived.Lib.Hide
namespace Go.Proofs.Ytbncblnchcmgbaa
open Go.RowKit Go.ChangeShapes Go.WideShapes Go.ChangeAt

/-! ### the frame of a call -/

/-- Behind a call all that was there is as it was, but for the blocks in S. -/
structure Kp (S : Nat → Prop) (w w' : World) : Prop where
  os : w'.os = w.os
  output : w'.output = w.output
  size : w.heap.size ≤ w'.heap.size
  block : ∀ k, k < w.heap.size → ¬ S k → w'.heap[k]? = w.heap[k]?

/-- no block -/
def No : Nat → Prop := fun _ => False

namespace Kp
variable {S S' : Nat → Prop} {w w' a b c : World}
theorem refl (S : Nat → Prop) (w : World) : Kp S w w := ⟨rfl, rfl, Nat.le_refl _, fun _ _ _ => rfl⟩
theorem mono (h : Kp S w w') (hs : ∀ k, k < w.heap.size → S k → S' k) : Kp S' w w' := ⟨h.os, h.output, h.size, fun k hk hn => h.block k hk fun hs' => hn (hs k hk hs')⟩
theorem any (h : Kp No w w') : Kp S w w' := h.mono fun _ _ h => h.elim
theorem trans (h : Kp S a b) (k : Kp S' b c) (hs : ∀ i, i < a.heap.size → S' i → S i) : Kp S a c :=
  ⟨k.os.trans h.os, k.output.trans h.output, Nat.le_trans h.size k.size,
    fun i hi hn => (k.block i (Nat.lt_of_lt_of_le hi h.size) fun hs' => hn (hs i hi hs')).trans (h.block i hi hn)⟩
theorem trans' (h : Kp S a b) (k : Kp S b c) : Kp S a c := h.trans k fun _ _ x => x
theorem transNo (h : Kp S a b) (k : Kp No b c) : Kp S a c := h.trans k fun _ _ x => x.elim
theorem ofBelow {B : Nat} (h : Below B w w') (hB : w.heap.size ≤ B) : Kp S w w' := ⟨h.os, h.output, h.size, fun k hk _ => h.block k (by omega)⟩
theorem alloc (h : Kp S a w) (o : Obj) : Kp S a (w.alloc o) :=
  ⟨h.os, h.output, Nat.le_trans h.size (by simp), fun i hi hn => (Below.heap_alloc w o i (Nat.lt_of_lt_of_le hi h.size)).trans (h.block i hi hn)⟩
theorem drew (h : Kp S a w) : Kp S a w.drew := ⟨h.os, h.output, h.size, h.block⟩
theorem drewN (h : Kp S a w) (n : Nat) : Kp S a (w.drewN n) := ⟨h.os, h.output, h.size, h.block⟩
theorem setCell (h : Kp S a w) {p : Addr} (hp : p.block < a.heap.size → S p.block) (u : Value) : Kp S a (w.setCell p u) :=
  ⟨h.os, h.output, by simpa [World.setCell] using h.size, fun i hi hn => (Below.heap_setCell w p u i (by
    rintro rfl
    exact hn (hp hi))).trans (h.block i hi hn)⟩
theorem grown {row : Option Nat} (h : Kp S a w) (hg : w.grownBy w' row) (hr : ∀ g, row = some g → g < a.heap.size → S g) : Kp S a w' :=
  ⟨hg.os.trans h.os, hg.output.trans h.output, Nat.le_trans h.size hg.size, fun i hi hn =>
    (hg.block i (Nat.lt_of_lt_of_le hi h.size) (fun e => hn (hr i e.symm hi))).trans (h.block i hi hn)⟩
theorem alike (h : Kp S a w) (hw : w'.Alike w) : Kp S a w' :=
  ⟨hw.2.1.trans h.os, hw.2.2.trans h.output, by rw [hw.1]; exact h.size, fun i hi hn => by rw [hw.1]; exact h.block i hi hn⟩
theorem cell (h : Kp S w w') {p : Addr} (hp : p.block < w.heap.size) (hn : ¬ S p.block) : w'.cell? p = w.cell? p := World.cell?_of_block (h.block p.block hp hn)
theorem frozen (h : Kp S w w') {p : Addr} (hp : p.block < w.heap.size) (hn : ¬ S p.block) : w'.frozen? p = w.frozen? p := World.frozen?_of_block (h.block p.block hp hn)
theorem frame (h : Kp No w w') (may : MemPlace → Prop) : w.keptBut w' may := by
  refine ⟨h.os, h.output, fun i hi => ?_⟩
  rw [h.block i hi (fun x => x)]
  split <;> simp_all
theorem same (h : Kp No w w') {p : MemPlace} (hp : p.block < w.heap.size) : w.sameAt w' p := by
  cases p with
  | cell b o => exact World.cell?_of_block (w := w) (h.block b hp (fun x => x))
  | map b => exact h.block b hp (fun x => x)
end Kp

theorem lt_of_cell {w : World} {p : Addr} {v : Value} (h : w.cell? p = some v) : p.block < w.heap.size := by
  rcases Nat.lt_or_ge p.block w.heap.size with hlt | hge
  · exact hlt
  · unfold World.cell? at h
    rw [Array.getElem?_eq_none hge] at h
    cases h

/-! ### from a walk to the given statement -/
section
variable {H : Type} {enc : TypeId × Value → H} {P : Program}

theorem trodAll_kept {W W' : World} (hl : laidOutB P = true) (hb : Kp No W W') (sp : Nat → Bool) : ∀ {ts : List TypeId} {vs : List Value} {ds : List (DataW H)} {ps : List MemPlace},
    (∀ t ∈ ts, P.readableRec t = true ∧ t < P.types.size) → DataW.TrodAll enc P W 0 (fun _ => true) true ts vs ds ps → (∀ p ∈ ps, p.block < W.heap.size) → (∀ p ∈ ps, sp p.block = true) →
    DataW.TrodAll enc P W' 0 sp true ts vs ds ps
  | [], _, _, _, _, h, _, _ => by
    obtain ⟨rfl, rfl, rfl⟩ := trodAll_nil h
    rfl
  | t :: ts, _, _, _, hr, h, hlt, hsp => by
    obtain ⟨v, vs1, d, ds1, a, b, rfl, rfl, rfl, h1, h2⟩ := trodAll_cons h
    refine ⟨a, b, ?_, trodAll_kept hl hb sp (fun t ht => hr t (List.mem_cons_of_mem _ ht)) h2 (fun p hp => hlt p (List.mem_append_right _ hp)) (fun p hp => hsp p (List.mem_append_right _ hp)), rfl⟩
    have hrt := hr t (List.mem_cons_self ..)
    exact WideElems.Trod_stays hl hrt.1 hrt.2 h1 (fun x hx => hb.same (hlt x (List.mem_append_left _ hx))) (fun x hx => hsp x (List.mem_append_left _ hx))

/-- THE ROW's LAST STEP FOR A LAW: it answers true, and nothing that was there has turned. -/
theorem post_of_law {f : Func} {s : ChangeSpec} {apart fresh handsOn again : Bool} {W W' : World} {args : Array Value} {ds gs : List (DataW H)} {before : List MemPlace} {tb : TypeId}
    (hl : laidOutB P = true) (hr : ∀ t ∈ f.params.toList, P.readableRec t = true ∧ t < P.types.size) (hf : f.resultTypes = #[tb]) (htb : P.underlying tb = some .bool) (hsv : s.vars = [])
    (hs : ∀ l : List (DataW H), l.length = f.params.toList.length → s.fn H l = { results := [.lit (.bool true)], args := l })
    (hW : DataW.Whole enc P f.params.toList s.vars apart W args.toList ds gs before) (hb : Kp No W W') :
    s.post enc P f apart fresh handsOn again W args (.bool true) W' := by
  have hlt : ∀ p ∈ before, p.block < W.heap.size := fun p hp => hW.lt p hp
  have hold : ∀ p ∈ before, (fun b => decide (b < W.heap.size)) p.block = true := fun p hp => by simpa using hlt p hp
  have hW0 := hW
  obtain ⟨p, q, hA, hV, hpq, hz, hn⟩ := hW
  have hgs : gs = [] ∧ q = [] := by
    rw [hsv] at hV
    obtain ⟨a, b⟩ := trodVars_none hV
    exact ⟨a, b⟩
  obtain ⟨rfl, rfl⟩ := hgs
  rw [List.append_nil] at hpq
  subst hpq
  have hlen : ds.length = f.params.toList.length := by
    have : ∀ {ts : List TypeId} {vs : List Value} {ds : List (DataW H)} {ps : List MemPlace}, DataW.TrodAll enc P W 0 (fun _ => true) true ts vs ds ps → ds.length = ts.length := by
      intro ts
      induction ts with
      | nil => intro vs ds ps h; obtain ⟨_, rfl, _⟩ := trodAll_nil h; rfl
      | cons t ts ih =>
        intro vs ds ps h
        obtain ⟨v, vs1, d, ds1, a, b, rfl, rfl, rfl, h1, h2⟩ := trodAll_cons h
        simp [ih h2]
    exact this hA
  have hfn : s.fn H (ds ++ []) = { results := [.lit (.bool true)], args := ds } := by rw [List.append_nil]; exact hs ds hlen
  have hres : ∀ (b : Nat) (sp : Nat → Bool) (hd : Bool), DataW.TrodAll enc P W' b sp hd f.resultTypes.toList ((Value.bool true).resultList f.resultTypes.size) (s.fn H (ds ++ [])).results [] := by
    intro b sp hd
    rw [hfn, hf]
    exact ⟨[], [], shut_bool htb true, rfl, rfl⟩
  have hargs : ∀ sp : Nat → Bool, (∀ p' ∈ before, sp p'.block = true) → DataW.TrodAll enc P W' 0 sp true f.params.toList args.toList (s.fn H (ds ++ [])).args before := by
    intro sp hsp
    rw [hfn]
    exact trodAll_kept hl hb sp hr hA hlt hsp
  have hvars : ∀ sp : Nat → Bool, DataW.TrodVars enc P W' sp s.vars (s.fn H (ds ++ [])).vars [] := by
    intro sp
    rw [hfn, hsv]
    rfl
  refine ⟨ds, [], before, [], before, [], hW0, hres _ _ _, hargs _ hold, hvars _, World.keptBut_mono (fun p' hp => ⟨hp, Or.inr (Or.inl hp)⟩) (hb.frame (· ∈ before)), fun _ => ?_⟩
  refine ⟨ok_one hf rfl (okWide_bool_mk htb true), _, _, ([] ++ before) ++ [], ⟨[] ++ before, [], trodAll_append (hargs _ (fun _ _ => rfl)) (hres _ _ _), hvars _, rfl, ?_, ?_⟩, ?_⟩
  · intro b off hp
    have hin : MemPlace.cell b off ∈ before := by simpa using hp
    rw [hb.frozen (p := ⟨b, off, none⟩) (hlt _ hin) (fun x => x)]
    exact hz b off hin
  · intro ha
    have := hn ha
    simpa using this
  · intro p' hp _
    simpa using hp
end

/-! ### readings: a type's cells, what they read as, the blocks that this rests on -/

structure Rp (α : Type) where
  size : Nat
  R : World → (Nat → Prop) → List Value → α → Prop
  μ : α → Nat
  pos : 0 < size
  len : ∀ {w S cs a}, R w S cs a → cs.length = size
  keep : ∀ {w w' S S' cs a}, (∀ k, S k → S' k) → (∀ k, S k → w'.heap[k]? = w.heap[k]?) → R w S cs a → R w' S' cs a
  bnd : ∀ {w S cs a}, R w S cs a → R w (fun k => S k ∧ k < w.heap.size) cs a

theorem block_add (a : Addr) (n : Nat) : (a.add n).block = a.block := by unfold Addr.add; split <;> rfl

namespace Rp
variable {α β : Type}
theorem more (E : Rp α) {w S S' cs a} (h : E.R w S cs a) (hs : ∀ k, S k → S' k) : E.R w S' cs a := E.keep hs (fun _ _ => rfl) h
theorem kept (E : Rp α) {w w' S T cs a} (h : E.R w S cs a) (hk : Kp T w w') (hs : ∀ k, S k → k < w.heap.size → ¬ T k) : E.R w' S cs a :=
  E.keep (fun _ x => x.1) (fun k hk' => hk.block k hk'.2 (hs k hk'.1 hk'.2)) (E.bnd h)
theorem keptNo (E : Rp α) {w w' S cs a} (h : E.R w S cs a) (hk : Kp No w w') : E.R w' S cs a := E.kept h hk fun _ _ _ x => x

def int (k : IntKind) : Rp Int where
  size := 1
  R _ _ cs n := cs = [.int k n] ∧ (Lit.int k n).wf = true
  μ _ := 1
  pos := Nat.one_pos
  len h := by rw [h.1]; rfl
  keep _ _ h := h
  bnd h := h
def str : Rp ByteArray where
  size := 1
  R _ _ cs s := cs = [.string s] ∧ s.size ≤ maxLen
  μ s := s.size + 1
  pos := Nat.one_pos
  len h := by rw [h.1]; rfl
  keep _ _ h := h
  bnd h := h
def bool : Rp Bool where
  size := 1
  R _ _ cs b := cs = [.bool b]
  μ _ := 1
  pos := Nat.one_pos
  len h := by rw [h]; rfl
  keep _ _ h := h
  bnd h := h

/-- so many cells from an address on -/
def cellsAt (w : World) (ad : Addr) (es : List Value) : Prop := ∀ (j : Nat) u, es[j]? = some u → w.cell? (ad.add j) = some u

def sumμ (f : α → Nat) (l : List α) : Nat := (l.map f).sum

def slice (E : Rp α) : Rp (List α) where
  size := 1
  R w S cs l := ∃ A c, cs = [.slice A l.length c] ∧ l.length ≤ c ∧ c ≤ maxLen ∧
    (0 < l.length → ∃ ad, A = some ad ∧ S ad.block ∧ ∀ (i : Nat) a, l[i]? = some a → ∃ es, cellsAt w (ad.add (i * E.size)) es ∧ E.R w S es a)
  μ l := 1 + sumμ E.μ l
  pos := Nat.one_pos
  len := by rintro w S cs l ⟨A, c, rfl, _⟩; rfl
  keep := by
    rintro w w' S S' cs l hs hk ⟨A, c, rfl, h1, h2, h3⟩
    refine ⟨A, c, rfl, h1, h2, fun hl => ?_⟩
    obtain ⟨ad, rfl, hb, hc⟩ := h3 hl
    refine ⟨ad, rfl, hs _ hb, fun i a hi => ?_⟩
    obtain ⟨es, he, hr⟩ := hc i a hi
    refine ⟨es, fun j u hu => ?_, E.keep hs hk hr⟩
    rw [← he j u hu]
    have : ((ad.add (i * E.size)).add j).block = ad.block := by unfold Addr.add; split <;> split <;> rfl
    exact World.cell?_of_block (by rw [this]; exact hk _ hb)
  bnd := by
    rintro w S cs l ⟨A, c, rfl, h1, h2, h3⟩
    refine ⟨A, c, rfl, h1, h2, fun hl => ?_⟩
    obtain ⟨ad, rfl, hb, hc⟩ := h3 hl
    refine ⟨ad, rfl, ⟨hb, ?_⟩, fun i a hi => ?_⟩
    · obtain ⟨es, he, hr⟩ := hc 0 l[0] (List.getElem?_eq_getElem hl)
      have hlen := E.len hr
      have hp := E.pos
      have := lt_of_cell (he 0 es[0] (List.getElem?_eq_getElem (by omega)))
      simpa [block_add] using this
    · obtain ⟨es, he, hr⟩ := hc i a hi
      exact ⟨es, he, E.bnd hr⟩
end Rp

/-- An element of one cell, read at its index. -/
theorem Rp.at_ {α : Type} {E : Rp α} (h1 : E.size = 1) {w S A c} {l : List α} (h : E.slice.R w S [.slice A l.length c] l) {i : Nat} {a : α} (hi : l[i]? = some a) :
    ∃ ad u, A = some ad ∧ S ad.block ∧ w.cell? (ad.add i) = some u ∧ E.R w S [u] a := by
  obtain ⟨A', c', he, _, _, h3⟩ := h
  simp only [List.cons.injEq, Value.slice.injEq, and_true, true_and] at he
  obtain ⟨rfl, rfl⟩ := he
  have hl : 0 < l.length := by have := (List.getElem?_eq_some_iff.1 hi).1; omega
  obtain ⟨ad, rfl, hb, hc⟩ := h3 hl
  obtain ⟨es, he, hr⟩ := hc i a hi
  have hlen := E.len hr
  rw [h1] at hlen
  match es, hlen with
  | [u], _ =>
    refine ⟨ad, u, rfl, hb, ?_, hr⟩
    have := he 0 u rfl
    rw [h1, Nat.mul_one] at this
    simpa [Addr.add] using this

theorem Rp.at_int {k : IntKind} {w S A c} {l : List Int} (h : (Rp.int k).slice.R w S [.slice A l.length c] l) {i : Nat} {a : Int} (hi : l[i]? = some a) :
    ∃ ad, A = some ad ∧ S ad.block ∧ w.cell? (ad.add i) = some (.int k a) ∧ (Lit.int k a).wf = true := by
  obtain ⟨ad, u, h1, h2, h3, h4, h5⟩ := Rp.at_ rfl h hi
  simp only [List.cons.injEq, and_true] at h4
  subst h4
  exact ⟨ad, h1, h2, h3, h5⟩
theorem Rp.at_str {w S A c} {l : List ByteArray} (h : Rp.str.slice.R w S [.slice A l.length c] l) {i : Nat} {a : ByteArray} (hi : l[i]? = some a) :
    ∃ ad, A = some ad ∧ S ad.block ∧ w.cell? (ad.add i) = some (.string a) ∧ a.size ≤ maxLen := by
  obtain ⟨ad, u, h1, h2, h3, h4, h5⟩ := Rp.at_ rfl h hi
  simp only [List.cons.injEq, and_true] at h4
  subst h4
  exact ⟨ad, h1, h2, h3, h5⟩

/-- A slice cut in front. -/
theorem Rp.cut {α : Type} {E : Rp α} {w S ad c} {l : List α} (h : E.slice.R w S [.slice (some ad) l.length c] l) {k : Nat} (hk : k ≤ l.length) :
    E.slice.R w S [.slice (some (ad.add (k * E.size))) (l.drop k).length (c - k)] (l.drop k) := by
  obtain ⟨A', c', he, h1, h2, h3⟩ := h
  simp only [List.cons.injEq, Value.slice.injEq, and_true, true_and] at he
  obtain ⟨rfl, rfl⟩ := he
  refine ⟨_, _, rfl, by rw [List.length_drop]; omega, by omega, fun hl => ⟨_, rfl, ?_, fun i a hi => ?_⟩⟩
  · rw [List.length_drop] at hl
    obtain ⟨ad', he, hb, _⟩ := h3 (by omega)
    injection he with he
    subst he
    rw [block_add]; exact hb
  · rw [List.getElem?_drop] at hi
    obtain ⟨ad', he, _, hc⟩ := h3 (by have := (List.getElem?_eq_some_iff.1 hi).1; omega)
    injection he with he
    subst he
    obtain ⟨es, h4, h5⟩ := hc (k + i) a hi
    refine ⟨es, ?_, h5⟩
    rw [Deep.add_add, ← Nat.add_mul]
    exact h4
/-- A slice cut behind. -/
theorem Rp.head {α : Type} {E : Rp α} {w S A c} {l : List α} (h : E.slice.R w S [.slice A l.length c] l) {k : Nat} (hk : k ≤ l.length) :
    E.slice.R w S [.slice A (l.take k).length c] (l.take k) := by
  obtain ⟨A', c', he, h1, h2, h3⟩ := h
  simp only [List.cons.injEq, Value.slice.injEq, and_true, true_and] at he
  obtain ⟨rfl, rfl⟩ := he
  refine ⟨_, _, rfl, by rw [List.length_take]; omega, h2, fun hl => ?_⟩
  rw [List.length_take] at hl
  obtain ⟨ad, he, hb, hc⟩ := h3 (by omega)
  refine ⟨ad, he, hb, fun i a hi => hc i a ?_⟩
  have hlt := (List.getElem?_eq_some_iff.1 hi).1
  rw [List.length_take] at hlt
  rwa [List.getElem?_take_of_lt (by omega)] at hi

theorem Rp.take4 {α : Type} {E : Rp α} {w S A c} {l : List α} (h : E.slice.R w S [.slice A l.length c] l) {k : Nat} : E.slice.R w S [.slice A (l.take k).length c] (l.take k) := by
  rcases Nat.lt_or_ge l.length k with hk | hk
  · rw [List.take_of_length_le (by omega)]; exact h
  · exact Rp.head h hk

/-- A block of the call's own, read as a slice. -/
theorem Rp.of_block {k : IntKind} {w : World} {S : Nat → Prop} {g : Nat} {cs : Array Value} {e : TypeId} {fr : Nat × Nat} {c : Nat} {l : List Int} (hb : w.heap[g]? = some (.cells cs e fr)) (hS : S g)
    (hcs : cs.toList = l.map (.int k)) (hc : l.length ≤ c) (hm : c ≤ maxLen) (hwf : ∀ a ∈ l, (Lit.int k a).wf = true) :
    (Rp.int k).slice.R w S [.slice (some ⟨g, 0, none⟩) l.length c] l := by
  refine ⟨_, _, rfl, hc, hm, fun _ => ⟨_, rfl, hS, fun i a hi => ⟨[.int k a], fun j u hu => ?_, rfl, hwf a (List.mem_of_getElem? hi)⟩⟩⟩
  have hj : j = 0 := by
    rcases Nat.eq_zero_or_pos j with h | h
    · exact h
    · rw [List.getElem?_eq_none (by simp; omega)] at hu; cases hu
  subst hj
  simp only [List.getElem?_cons_zero, Option.some.injEq] at hu
  subst hu
  have e : ((Addr.add ⟨g, 0, none⟩ (i * (Rp.int k).size)).add 0) = ⟨g, i, none⟩ := by
    show ((Addr.add ⟨g, 0, none⟩ (i * 1)).add 0) = _
    unfold Addr.add
    rcases Nat.eq_zero_or_pos i with h | h
    · subst h; rfl
    · rw [if_pos rfl, if_neg (by omega)]; simp
  rw [e]
  have h2 : cs[i]? = some (.int k a) := by
    rw [← Array.getElem?_toList, hcs, List.getElem?_map, hi]; rfl
  simp [World.cell?, hb, h2]

/-- A block of the call's own, read as a slice: elements of one cell. -/
theorem Rp.of_block1 {α : Type} {E : Rp α} (h1 : E.size = 1) {w : World} {S : Nat → Prop} {g : Nat} {cs : Array Value} {e : TypeId} {fr : Nat × Nat} {c : Nat} {l : List α} (enc : α → Value) (hb : w.heap[g]? = some (.cells cs e fr)) (hS : S g)
    (hcs : cs.toList = l.map enc) (hc : l.length ≤ c) (hm : c ≤ maxLen) (henc : ∀ a ∈ l, E.R w S [enc a] a) :
    E.slice.R w S [.slice (some ⟨g, 0, none⟩) l.length c] l := by
  refine ⟨_, _, rfl, hc, hm, fun _ => ⟨_, rfl, hS, fun i a hi => ⟨[enc a], fun j u hu => ?_, henc a (List.mem_of_getElem? hi)⟩⟩⟩
  have hj : j = 0 := by
    rcases Nat.eq_zero_or_pos j with h | h
    · exact h
    · rw [List.getElem?_eq_none (by simp; omega)] at hu; cases hu
  subst hj
  simp only [List.getElem?_cons_zero, Option.some.injEq] at hu
  subst hu
  have e : ((Addr.add ⟨g, 0, none⟩ (i * E.size)).add 0) = ⟨g, i, none⟩ := by
    rw [h1]
    unfold Addr.add
    rcases Nat.eq_zero_or_pos i with h | h
    · subst h; rfl
    · rw [if_pos rfl, if_neg (by omega)]; simp
  rw [e]
  have h2 : cs[i]? = some (enc a) := by
    rw [← Array.getElem?_toList, hcs, List.getElem?_map, hi]; rfl
  simp [World.cell?, hb, h2]

/-! ### what came in -/
def Arg (P : Program) (t : TypeId) {α : Type} (E : Rp α) : Prop :=
  ∀ {H : Type} {enc : TypeId × Value → H} {w : World} {spare : Nat → Bool} {held : Bool} {fuel : Nat} {cs : List Value} {x : DataW H × List MemPlace},
    DataW.trod enc P w 0 spare held fuel t cs = some x → ∃ a, E.R w (fun k => k < w.heap.size) cs a ∧ E.μ a ≤ Rows.uptoBulk x.1

theorem bulk_pos {H : Type} (d : DataW H) : 1 ≤ Rows.uptoBulk d := by
  cases d with
  | lit l => cases l <;> simp [Rows.uptoBulk]
  | nil => simp [Rows.uptoBulk]
  | ptr d => simp [Rows.uptoBulk]
  | slice elems spare => simp [Rows.uptoBulk]
  | agg parts => simp [Rows.uptoBulk]
  | iface t d => simp [Rows.uptoBulk]
  | map entries => simp [Rows.uptoBulk]
  | held h => simp [Rows.uptoBulk]

theorem bulkAll_append {H : Type} (l r : List (DataW H)) : Rows.uptoBulkAll (l ++ r) = Rows.uptoBulkAll l + Rows.uptoBulkAll r := by
  induction l with
  | nil => simp [Rows.uptoBulkAll]
  | cons x l ih => simp only [List.cons_append, Rows.uptoBulkAll, ih]; omega

section
variable {P : Program} {t : TypeId}
theorem Arg.int {k : IntKind} (ht : P.underlying t = some (.int k)) : Arg P t (Rp.int k) := by
  intro H enc w spare held fuel cs x h
  obtain ⟨n, rfl, rfl, hw⟩ := DataW.trod_int ht h
  exact ⟨n, ⟨rfl, hw⟩, by simp [Rp.int, Rows.uptoBulk]⟩
theorem Arg.str (ht : P.underlying t = some .string) : Arg P t Rp.str := by
  intro H enc w spare held fuel cs x h
  obtain ⟨s, rfl, rfl, hs⟩ := DataW.trod_string ht h
  exact ⟨s, ⟨rfl, hs⟩, by simp [Rp.str, Rows.uptoBulk]⟩
theorem Arg.bool (ht : P.underlying t = some .bool) : Arg P t Rp.bool := by
  intro H enc w spare held fuel cs x h
  obtain ⟨b, rfl, rfl⟩ := DataW.trod_bool ht h
  exact ⟨b, rfl, by simp [Rp.bool, Rows.uptoBulk]⟩
theorem Arg.slice {e : TypeId} {α : Type} {E : Rp α} (ht : P.underlying t = some (.slice e)) (hc : P.cellsOf e = E.size) (he : Arg P e E) : Arg P t E.slice := by
  intro H enc w spare held fuel cs x h
  rcases Deep.open_slice ht h with ⟨rfl, rfl⟩ | ⟨a, len, cap, m, n, D, Pl, rfl, hb, hl, hm, hmm, rfl, hx⟩
  · exact ⟨[], ⟨none, 0, rfl, Nat.le_refl _, by simp, fun h => absurd h (by simp)⟩, by simp [Rp.slice, Rp.sumμ, Rows.uptoBulk]⟩
  · have hle : len ≤ m := by rw [hmm]; split <;> omega
    have hall : ∀ i, i < len → ∃ a' : α, (∃ es, Rp.cellsAt w (a.add (i * E.size)) es ∧ E.R w (fun k => k < w.heap.size) es a') ∧ E.μ a' ≤ Rows.uptoBulk (D i) := by
      intro i hi
      obtain ⟨cs', hcells, ht'⟩ := hx i (by omega)
      obtain ⟨a', hr, hμ⟩ := he ht'
      obtain ⟨_, hlen, hat⟩ := World.cells?_some hcells
      refine ⟨a', ⟨cs', fun j u hu => ?_, hr⟩, hμ⟩
      obtain ⟨hj, rfl⟩ := List.getElem?_eq_some_iff.1 hu
      rw [hc] at hat
      rw [hat j (by omega)]
      exact hu
    have hex : ∃ l : List α, l.length = len ∧ (∀ (i : Nat) a', l[i]? = some a' → ∃ es, Rp.cellsAt w (a.add (i * E.size)) es ∧ E.R w (fun k => k < w.heap.size) es a') ∧ Rp.sumμ E.μ l ≤ Rows.uptoBulkAll ((List.range len).map D) := by
      clear hmm hx hl h
      induction len with
      | zero => exact ⟨[], rfl, by simp, by simp [Rp.sumμ, Rows.uptoBulkAll]⟩
      | succ len ih =>
        obtain ⟨l, h1, h2, h3⟩ := ih (by omega) (fun i hi => hall i (by omega))
        obtain ⟨a', h4, h5⟩ := hall len (by omega)
        refine ⟨l ++ [a'], by simp [h1], fun i x hi => ?_, ?_⟩
        · by_cases hil : i < l.length
          · rw [List.getElem?_append_left hil] at hi
            exact h2 i x hi
          · rw [List.getElem?_append_right (by omega)] at hi
            have : i - l.length = 0 := by
              rcases Nat.eq_zero_or_pos (i - l.length) with h | h
              · exact h
              · rw [List.getElem?_eq_none (by simp; omega)] at hi; cases hi
            rw [this] at hi
            simp at hi
            subst hi
            have : i = len := by omega
            subst this
            exact h4
        · simp only [List.range_succ, List.map_append, bulkAll_append, Rp.sumμ, List.map_cons, List.map_nil, Rows.uptoBulkAll, List.sum_append, List.sum_cons, List.sum_nil] at h3 ⊢
          omega
    obtain ⟨l, rfl, h2, h3⟩ := hex
    refine ⟨l, ⟨some a, cap, rfl, hl, hm, fun hpos => ⟨a, rfl, ?_, h2⟩⟩, by simp only [Rp.slice, Rows.uptoBulk]; omega⟩
    obtain ⟨es, hes, hr⟩ := h2 0 (l[0]) (List.getElem?_eq_getElem hpos)
    have hlen := E.len hr
    have hp := E.pos
    have := lt_of_cell (hes 0 es[0] (List.getElem?_eq_getElem (by omega)))
    simpa [block_add] using this
end

/-- A value of one cell is its cells. -/
theorem one_of_int {v : Value} {k : IntKind} (h : ∃ n, v = .int k n) : v.cells.toList = [v] := by obtain ⟨n, rfl⟩ := h; rfl
theorem one_of_slice {v : Value} (h : ∃ a len cap, v = .slice a len cap) : v.cells.toList = [v] := by obtain ⟨a, b, c, rfl⟩ := h; rfl
theorem one_of_string {v : Value} (h : ∃ s, v = .string s) : v.cells.toList = [v] := by obtain ⟨n, rfl⟩ := h; rfl
theorem one_of_bool {v : Value} (h : ∃ b, v = .bool b) : v.cells.toList = [v] := by obtain ⟨n, rfl⟩ := h; rfl

theorem Arg.one {P : Program} {t : TypeId} {α : Type} {E : Rp α} (ha : Arg P t E) {H : Type} {enc : TypeId × Value → H} {w : World} {spare : Nat → Bool} {held : Bool} {v : Value} {d : DataW H} {p : List MemPlace}
    (hc : v.cells.toList = [v]) (h : DataW.Trod enc P w 0 spare held t v d p) : ∃ a, E.R w (fun k => k < w.heap.size) [v] a ∧ E.μ a ≤ Rows.uptoBulk d := by
  obtain ⟨fuel, hf⟩ := h
  rw [hc] at hf
  exact ha hf

theorem bound_of {H : Type} {l : List (DataW H)} (hk : Rows.uptoSmall H l = true) : Rows.uptoBulkAll l ≤ 1048576 := of_decide_eq_true hk

end Go.Proofs.Ytbncblnchcmgbaa
