/-
  Lines of a model (model.line): their reading; a row of them that is being filled.
-/
import Derived.Test.YtbncblnchcmgbaaModA
import Derived.Test.YtbncblnchcmgbaaClon
import Derived.Laws.MakeOwn
namespace Go.Proofs.Ytbncblnchcmgbaa
open Go.RowKit Go.ChangeShapes Go.WideShapes Go.ChangeAt

structure LineL where
  op : OpL
  an : Int
  ae : Int
namespace LineL
def cells (a : LineL) (hv : Value) : List Value := a.op.cells hv ++ [.int .i64 a.an, .int .i64 a.ae]
def nums (a : LineL) : Prop := a.op.nums ∧ I64 a.an ∧ I64 a.ae
def place (a : LineL) : Int × Int := (a.op.n, a.op.epoch)
end LineL
def lineV (a : LineL) (hv : Value) : Value := .agg #[.int .i64 a.op.n, .int .i64 a.op.epoch, .int .i64 a.op.kind, .int .i64 a.op.site, .int .i64 a.op.client, .int .i64 a.op.seq, .string a.op.name, .int .i64 a.op.size, hv, .int .i64 a.an, .int .i64 a.ae]
def Rp.line : Rp LineL where
  size := 11
  R w S cs a := ∃ hv, cs = a.cells hv ∧ a.nums ∧ Rp.str.slice.R w S [hv] a.op.hashes
  μ a := Rp.opl.μ a.op
  pos := by omega
  len := by rintro w S cs a ⟨hv, rfl, _⟩; rfl
  keep := by
    rintro w w' S S' cs a hs hk ⟨hv, rfl, h1, h2⟩
    exact ⟨hv, rfl, h1, Rp.str.slice.keep hs hk h2⟩
  bnd := by
    rintro w S cs a ⟨hv, rfl, h1, h2⟩
    exact ⟨hv, rfl, h1, Rp.str.slice.bnd h2⟩
theorem Rp.at_line {w : World} {S : Nat → Prop} {A : Option Addr} {c : Nat} {l : List LineL} (h : Rp.line.slice.R w S [.slice A l.length c] l) {i : Nat} {x : LineL} (hi : l[i]? = some x) :
    ∃ ad A' c', A = some ad ∧ S ad.block ∧ (∀ (j : Nat) u, (x.cells (.slice A' x.op.hashes.length c'))[j]? = some u → w.cell? ((ad.add (i * 11)).add j) = some u) ∧ x.nums ∧ Rp.str.slice.R w S [.slice A' x.op.hashes.length c'] x.op.hashes := by
  obtain ⟨A2, c2, he, _, _, h3⟩ := h
  simp only [List.cons.injEq, Value.slice.injEq, and_true, true_and] at he
  obtain ⟨rfl, rfl⟩ := he
  have hl : 0 < l.length := by have := (List.getElem?_eq_some_iff.1 hi).1; omega
  obtain ⟨ad, rfl, hb, hc⟩ := h3 hl
  obtain ⟨es, he, hv, rfl, hn, h1⟩ := hc i x hi
  obtain ⟨A', c', e1, _⟩ := id h1
  simp only [List.cons.injEq, and_true] at e1
  subst e1
  exact ⟨ad, A', c', rfl, hb, fun j u hu => he j u hu, hn, h1⟩
theorem line_cells {w : World} {ad : Addr} {t : LineL} {hv : Value} (h : ∀ (j : Nat) u, (t.cells hv)[j]? = some u → w.cell? (ad.add j) = some u) :
    w.cell? ad = some (.int .i64 t.op.n) ∧ w.cell? ⟨ad.block, ad.off + 1, none⟩ = some (.int .i64 t.op.epoch) ∧ w.cell? ⟨ad.block, ad.off + 2, none⟩ = some (.int .i64 t.op.kind) ∧ w.cell? ⟨ad.block, ad.off + 3, none⟩ = some (.int .i64 t.op.site) ∧
    w.cell? ⟨ad.block, ad.off + 4, none⟩ = some (.int .i64 t.op.client) ∧ w.cell? ⟨ad.block, ad.off + 5, none⟩ = some (.int .i64 t.op.seq) ∧ w.cell? ⟨ad.block, ad.off + 6, none⟩ = some (.string t.op.name) ∧ w.cell? ⟨ad.block, ad.off + 7, none⟩ = some (.int .i64 t.op.size) ∧ w.cell? ⟨ad.block, ad.off + 8, none⟩ = some hv ∧
    w.cell? ⟨ad.block, ad.off + 9, none⟩ = some (.int .i64 t.an) ∧ w.cell? ⟨ad.block, ad.off + 10, none⟩ = some (.int .i64 t.ae) :=
  ⟨h 0 _ rfl, h 1 _ rfl, h 2 _ rfl, h 3 _ rfl, h 4 _ rfl, h 5 _ rfl, h 6 _ rfl, h 7 _ rfl, h 8 _ rfl, h 9 _ rfl, h 10 _ rfl⟩
/-- several stores in a row -/
def wset (w : World) (g o : Nat) : List Value → World
  | [] => w
  | v :: vs => wset (w.setCell ⟨g, o, none⟩ v) g (o + 1) vs
def lset (cs : List Value) (o : Nat) : List Value → List Value
  | [] => cs
  | v :: vs => lset (cs.set o v) (o + 1) vs
theorem wset_blk {g : Nat} {T : TypeId} : ∀ {vs : List Value} {w : World} {cs : List Value} {o : Nat}, Blk w g T cs → Blk (wset w g o vs) g T (lset cs o vs)
  | [], _, _, _, h => h
  | v :: vs, _, _, o, h => wset_blk (vs := vs) (Blk.set h o v)
theorem wset_kp {g : Nat} : ∀ {vs : List Value} {w : World} {o : Nat}, Kp (· = g) w (wset w g o vs)
  | [], _, _ => Kp.refl _ _
  | v :: vs, w, o => ((Kp.refl (· = g) w).setCell (p := ⟨g, o, none⟩) (fun _ => rfl) v).trans' (wset_kp (vs := vs))
theorem lset_length : ∀ {vs cs : List Value} {o : Nat}, (lset cs o vs).length = cs.length
  | [], _, _ => rfl
  | v :: vs, cs, o => by unfold lset; rw [lset_length]; simp
theorem lset_get : ∀ {vs cs : List Value} {o p : Nat}, o + vs.length ≤ cs.length → (lset cs o vs)[p]? = if o ≤ p ∧ p < o + vs.length then vs[p - o]? else cs[p]?
  | [], cs, o, p, h => by
    unfold lset
    rw [if_neg (by simp)]
  | v :: vs, cs, o, p, h => by
    unfold lset
    simp only [List.length_cons] at h ⊢
    rw [lset_get (by simp; omega)]
    by_cases h1 : o + 1 ≤ p ∧ p < o + 1 + vs.length
    · rw [if_pos h1, if_pos (by omega)]
      obtain ⟨q, hq⟩ : ∃ q, p - o = q + 1 := ⟨p - o - 1, by omega⟩
      rw [hq, List.getElem?_cons_succ]
      congr 1
      omega
    · rw [if_neg h1]
      by_cases h2 : p = o
      · subst h2
        rw [if_pos (by omega), Nat.sub_self, List.getElem?_cons_zero, List.getElem?_set_self (by omega)]
      · rw [if_neg (by omega), List.getElem?_set_ne (by omega)]
/-- the first lines of a row of n lie there -/
def LnAt (w : World) (S : Nat → Prop) (g n : Nat) (l : List LineL) : Prop :=
  ∃ cs, Blk w g 118 cs ∧ cs.length = n * 11 ∧ l.length ≤ n ∧ ∀ (j : Nat) a, l[j]? = some a → a.nums ∧ ∃ A c, (∀ (k : Nat) u, (a.cells (.slice A a.op.hashes.length c))[k]? = some u → cs[j * 11 + k]? = some u) ∧ Rp.str.slice.R w S [.slice A a.op.hashes.length c] a.op.hashes
namespace LnAt
variable {w w' : World} {S T : Nat → Prop} {g n : Nat} {l : List LineL}
theorem kept (h : LnAt w S g n l) (hk : Kp T w w') (hg : ¬ T g) (hs : ∀ k, S k → k < w.heap.size → ¬ T k) : LnAt w' S g n l := by
  obtain ⟨cs, h1, h2, h3, h4⟩ := h
  refine ⟨cs, h1.kept hk hg, h2, h3, fun j a ha => ?_⟩
  obtain ⟨h5, A, c, h6, h7⟩ := h4 j a ha
  exact ⟨h5, A, c, h6, Rp.str.slice.kept h7 hk hs⟩
theorem keptNo (h : LnAt w S g n l) (hk : Kp No w w') : LnAt w' S g n l := h.kept hk (fun x => x) (fun _ _ _ x => x)
theorem more (h : LnAt w S g n l) (hs : ∀ k, S k → T k) : LnAt w T g n l := by
  obtain ⟨cs, h1, h2, h3, h4⟩ := h
  refine ⟨cs, h1, h2, h3, fun j a ha => ?_⟩
  obtain ⟨h5, A, c, h6, h7⟩ := h4 j a ha
  exact ⟨h5, A, c, h6, Rp.str.slice.more h7 hs⟩
theorem bnd (h : LnAt w S g n l) : LnAt w (fun k => S k ∧ k < w.heap.size) g n l := by
  obtain ⟨cs, h1, h2, h3, h4⟩ := h
  refine ⟨cs, h1, h2, h3, fun j a ha => ?_⟩
  obtain ⟨h5, A, c, h6, h7⟩ := h4 j a ha
  exact ⟨h5, A, c, h6, Rp.str.slice.bnd h7⟩
theorem lt (h : LnAt w S g n l) : g < w.heap.size := by
  obtain ⟨cs, h1, _⟩ := h
  exact h1.lt
theorem cell (h : LnAt w S g n l) {p : Nat} (hp : p < n * 11) : ∃ u, w.cell? ⟨g, p, none⟩ = some u := by
  obtain ⟨cs, h1, h2, _⟩ := h
  exact ⟨_, h1.cell (List.getElem?_eq_getElem (by omega))⟩
theorem fr (h : LnAt w S g n l) (p : Nat) : w.frozen? ⟨g, p, none⟩ = false := by
  obtain ⟨cs, h1, _⟩ := h
  exact Blk.fr h1 p
/-- one line more -/
theorem put (h : LnAt w S g n l) (hg : ¬ S g) (hl : l.length < n) (a : LineL) (ha : a.nums) {A : Option Addr} {c : Nat} (hh : Rp.str.slice.R w S [.slice A a.op.hashes.length c] a.op.hashes) {i : Nat} (hi : l.length = i) :
    LnAt (wset w g (i * 11) (a.cells (.slice A a.op.hashes.length c))) S g n (l ++ [a]) := by
  subst hi
  obtain ⟨cs, h1, h2, h3, h4⟩ := h
  have hcl : (a.cells (.slice A a.op.hashes.length c)).length = 11 := rfl
  have hk : Kp (· = g) w (wset w g (l.length * 11) (a.cells (.slice A a.op.hashes.length c))) := wset_kp
  refine ⟨_, wset_blk h1, lset_length.trans h2, by rw [List.length_append, List.length_singleton]; omega, fun j b hb => ?_⟩
  rcases Nat.lt_trichotomy j l.length with hj | hj | hj
  · rw [List.getElem?_append_left hj] at hb
    obtain ⟨h5, A', c', h6, h7⟩ := h4 j b hb
    refine ⟨h5, A', c', fun k u hu => ?_, Rp.str.slice.kept h7 hk (fun k hs _ e => hg (e ▸ hs))⟩
    have hk11 : k < 11 := (List.getElem?_eq_some_iff.1 hu).1
    rw [lset_get (by rw [hcl]; omega), if_neg (by rw [hcl]; omega)]
    exact h6 k u hu
  · subst hj
    rw [List.getElem?_append_right (Nat.le_refl _), Nat.sub_self] at hb
    injection hb with hb
    subst hb
    refine ⟨ha, A, c, fun k u hu => ?_, Rp.str.slice.kept hh hk (fun k hs _ e => hg (e ▸ hs))⟩
    have hk11 : k < 11 := (List.getElem?_eq_some_iff.1 hu).1
    rw [lset_get (by rw [hcl]; omega), if_pos (by rw [hcl]; omega), Nat.add_sub_cancel_left]
    exact hu
  · rw [List.getElem?_eq_none (by rw [List.length_append, List.length_singleton]; omega)] at hb
    cases hb
theorem made (w : World) (S : Nat → Prop) (n : Nat) (cs : Array Value) (hc : cs.size = n * 11) : LnAt (w.alloc (.cells cs 118)) S w.heap.size n [] :=
  ⟨cs.toList, by have := Blk.new w cs.toList 118; simpa using this, by simpa using hc, Nat.zero_le _, fun j a ha => by simp at ha⟩
/-- the whole row, read -/
theorem read (h : LnAt w S g l.length l) (hm : l.length ≤ maxLen) : Rp.line.slice.R w (fun k => S k ∨ k = g) [.slice (some ⟨g, 0, none⟩) l.length l.length] l := by
  obtain ⟨cs, h1, h2, h3, h4⟩ := h
  refine ⟨_, _, rfl, Nat.le_refl _, hm, fun _ => ⟨_, rfl, .inr rfl, fun i a hi => ?_⟩⟩
  obtain ⟨h5, A, c, h6, h7⟩ := h4 i a hi
  refine ⟨_, fun j u hu => ?_, _, rfl, h5, Rp.str.slice.more h7 (fun k hk => .inl hk)⟩
  have hj : j < 11 := (List.getElem?_eq_some_iff.1 hu).1
  show w.cell? (((⟨g, 0, none⟩ : Addr).add (i * 11)).add j) = _
  rw [Addr.add_lit, Addr.add_lit]
  have := h1.cell (h6 j u hu)
  simpa using this
end LnAt
def linedL : Int × Int → List OpL → List LineL
  | _, [] => []
  | p, o :: l => ⟨o, p.1, p.2⟩ :: linedL (o.n, o.epoch) l
def lastP (p : Int × Int) (l : List OpL) : Int × Int := match l.getLast? with
  | none => p
  | some o => (o.n, o.epoch)
theorem linedL_length : ∀ (l : List OpL) (p : Int × Int), (linedL p l).length = l.length
  | [], _ => rfl
  | o :: l, p => by unfold linedL; simp [linedL_length l]
theorem linedL_snoc : ∀ (l : List OpL) (p : Int × Int) (o : OpL), linedL p (l ++ [o]) = linedL p l ++ [⟨o, (lastP p l).1, (lastP p l).2⟩]
  | [], p, o => rfl
  | x :: l, p, o => by
    show _ :: linedL _ (l ++ [o]) = _ :: linedL _ l ++ _
    rw [linedL_snoc l]
    cases l with
    | nil => rfl
    | cons y l =>
      cases hz : (y :: l).getLast? with
      | none => simp at hz
      | some z =>
        simp only [lastP, List.getLast?_cons_cons, hz]
        rfl
theorem lastP_snoc (p : Int × Int) (l : List OpL) (o : OpL) : lastP p (l ++ [o]) = (o.n, o.epoch) := by simp [lastP]
theorem lastP_I64 {l : List OpL} (h : ∀ o ∈ l, o.nums) : I64 (lastP (0, 0) l).1 ∧ I64 (lastP (0, 0) l).2 := by
  unfold lastP
  cases hl : l.getLast? with
  | none => exact ⟨rfl, rfl⟩
  | some o =>
    have := h o (List.mem_of_getLast? hl)
    exact ⟨this.1, this.2.1⟩
theorem opl_nums {w : World} {S : Nat → Prop} {A : Option Addr} {c : Nat} {l : List OpL} (h : Rp.opl.slice.R w S [.slice A l.length c] l) : ∀ o ∈ l, o.nums := fun o ho => by
  obtain ⟨i, hi⟩ := List.getElem?_of_mem ho
  obtain ⟨_, _, _, _, _, _, hn, _⟩ := Rp.at_opl h hi
  exact hn
end Go.Proofs.Ytbncblnchcmgbaa
