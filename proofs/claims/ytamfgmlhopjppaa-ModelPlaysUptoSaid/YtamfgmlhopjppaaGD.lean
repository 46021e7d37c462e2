/-
  Put together: ModA, ModB, Mod1, Lit1, LitW, Mod2, RowG, Mod4.
-/
import Derived.Test.YtamfgmlhopjppaaGB
import Derived.DeepKeys3
import Derived.Laws.MakeOwn
import Derived.Test.YtamfgmlhopjppaaShelf
import Derived.Test.YtamfgmlhopjppaaGC
import Derived.BigQuiet
import Derived.Test.YtamfgmlhopjppaaReg
namespace Go.Proofs.Ytamfgmlhopjppaa
section
open Go.RowKit Go.ChangeShapes Go.WideShapes Go.ChangeAt

def spotV (p : Int × Int) : Value := .agg #[.int .i64 p.1, .int .i64 p.2]
theorem run_spot_eq (a b : Int × Int) (w : World) : (Op.equal 37 (spotV a) (spotV b)).run Try.prog w = .ok (decide (a = b)) w := by
  obtain ⟨a1, a2⟩ := a
  obtain ⟨b1, b2⟩ := b
  unfold spotV
  show (Op.equalIn 10000 _ _ _).run _ _ = _
  by_cases h1 : a1 = b1
  · by_cases h2 : a2 = b2
    · subst h1 h2
      simp only [decide_true]
      go_simp
    · have e : decide ((a1, a2) = (b1, b2)) = false := by simp [h1, h2]
      rw [e]
      have hb : (a2 == b2) = false := beq_eq_false_iff_ne.2 h2
      subst h1
      go_simp
  · have e : decide ((a1, a2) = (b1, b2)) = false := by simp [h1]
    rw [e]
    have hb : (a1 == b1) = false := beq_eq_false_iff_ne.2 h1
    go_simp
theorem int_check (b : Bool) (x : Int) (w : World) : (Instr.checkKey b 9999 3 (.int .i64 x)).run Try.prog w = .ok () w := by
  show (Instr.checkKey b (9998 + 1) _ _).run _ _ = _
  unfold Instr.checkKey
  simp [run_underlying Try.underlying3]
theorem spot_check (b : Bool) (k : Int × Int) (w : World) : (Instr.checkKey b 10000 37 (spotV k)).run Try.prog w = .ok () w := by
  obtain ⟨k1, k2⟩ := k
  show (Instr.checkKey b (9999 + 1) _ _).run _ _ = _
  unfold Instr.checkKey spotV
  have h1 := int_check b k1 w
  have h2 := int_check b k2 w
  simp only [Sem.run_bind, run_underlying Try.underlying37, Result.andThen_ok]
  go_simp
theorem findAsking_spot (k : Int × Int) : ∀ (l : List ((Int × Int) × Value)) (es : List MapEntry) (i : Nat) (w : World), es.map (fun e => (e.key, e.val)) = l.map (fun p => (spotV p.1, p.2)) →
    (Instr.findAsking 37 (spotV k) es i).run Try.prog w = .ok ((findIx k l).map fun x => (x.1 + i, x.2)) w
  | [], [], i, w, _ => rfl
  | [], _ :: _, _, _, h => by cases h
  | _ :: _, [], _, _, h => by cases h
  | (k', v) :: l, e :: es, i, w, h => by
    simp only [List.map_cons, List.cons.injEq, Prod.mk.injEq] at h
    obtain ⟨⟨h1, h2⟩, h3⟩ := h
    unfold Instr.findAsking
    simp only [Sem.run_bind, h1, run_spot_eq, Result.andThen_ok]
    by_cases hk : k = k'
    · simp [hk, findIx, h2]
    · simp only [hk, decide_false, Bool.false_eq_true, if_false]
      rw [findAsking_spot k l es (i + 1) w h3]
      simp only [findIx, if_neg hk, Option.map_map]
      congr 1
      congr 1
      funext x
      simp only [Function.comp, Prod.mk.injEq, and_true]
      omega
theorem spot_key : KeyOk Try.prog 37 spotV where
  inj a b h := by
    obtain ⟨a1, a2⟩ := a
    obtain ⟨b1, b2⟩ := b
    unfold spotV at h
    simp at h
    rw [h.1, h.2]
  check := spot_check
  find k l es w h := by
    rw [run_findKey_eq w (by rw [Try.underlying37])]
    have := findAsking_spot k l es 0 w h
    rw [this]
    simp
  stays k w := by
    unfold Instr.keyThatStays spotV
    have : Instr.sameBits 10000 (.agg #[.int .i64 k.1, .int .i64 k.2]) (.agg #[.int .i64 k.1, .int .i64 k.2]) = true := by
      show Instr.sameBits (9999 + 1) _ _ = true
      simp [Instr.sameBits]
    rw [this]
    simp
end

section
open Go.RowKit Go.ChangeShapes Go.WideShapes Go.ChangeAt

structure LineL where
  op : OpL
  an : Int
  ae : Int
namespace LineL
def cells (a : LineL) (hv : Value) : List Value := a.op.cells hv ++ [.int .i64 a.an, .int .i64 a.ae]
def nums (a : LineL) : Prop := a.op.nums ∧ I64 a.an ∧ I64 a.ae
def place (a : LineL) : Int × Int := (a.op.n, a.op.epoch)
end LineL
def lineV (a : LineL) (hv : Value) : Value := .agg #[.int .i64 a.op.n, .int .i64 a.op.epoch, .int .i64 a.op.kind, .int .i64 a.op.site, .int .i64 a.op.client, .int .i64 a.op.seq, .string a.op.name, .int .i64 a.op.size, hv, .int .i64 a.an, .int .i64 a.ae]
def Rp.line : Rp LineL where
  size := 11
  R w S cs a := ∃ hv, cs = a.cells hv ∧ a.nums ∧ Rp.str.slice.R w S [hv] a.op.hashes
  μ a := Rp.opl.μ a.op
  pos := by omega
  len := by rintro w S cs a ⟨hv, rfl, _⟩; rfl
  keep := by
    rintro w w' S S' cs a hs hk ⟨hv, rfl, h1, h2⟩
    exact ⟨hv, rfl, h1, Rp.str.slice.keep hs hk h2⟩
  bnd := by
    rintro w S cs a ⟨hv, rfl, h1, h2⟩
    exact ⟨hv, rfl, h1, Rp.str.slice.bnd h2⟩
theorem Rp.at_line {w : World} {S : Nat → Prop} {A : Option Addr} {c : Nat} {l : List LineL} (h : Rp.line.slice.R w S [.slice A l.length c] l) {i : Nat} {x : LineL} (hi : l[i]? = some x) :
    ∃ ad A' c', A = some ad ∧ S ad.block ∧ (∀ (j : Nat) u, (x.cells (.slice A' x.op.hashes.length c'))[j]? = some u → w.cell? ((ad.add (i * 11)).add j) = some u) ∧ x.nums ∧ Rp.str.slice.R w S [.slice A' x.op.hashes.length c'] x.op.hashes := by
  obtain ⟨A2, c2, he, _, _, h3⟩ := h
  simp only [List.cons.injEq, Value.slice.injEq, and_true, true_and] at he
  obtain ⟨rfl, rfl⟩ := he
  have hl : 0 < l.length := by have := (List.getElem?_eq_some_iff.1 hi).1; omega
  obtain ⟨ad, rfl, hb, hc⟩ := h3 hl
  obtain ⟨es, he, hv, rfl, hn, h1⟩ := hc i x hi
  obtain ⟨A', c', e1, _⟩ := id h1
  simp only [List.cons.injEq, and_true] at e1
  subst e1
  exact ⟨ad, A', c', rfl, hb, fun j u hu => he j u hu, hn, h1⟩
theorem line_cells {w : World} {ad : Addr} {t : LineL} {hv : Value} (h : ∀ (j : Nat) u, (t.cells hv)[j]? = some u → w.cell? (ad.add j) = some u) :
    w.cell? ad = some (.int .i64 t.op.n) ∧ w.cell? ⟨ad.block, ad.off + 1, none⟩ = some (.int .i64 t.op.epoch) ∧ w.cell? ⟨ad.block, ad.off + 2, none⟩ = some (.int .i64 t.op.kind) ∧ w.cell? ⟨ad.block, ad.off + 3, none⟩ = some (.int .i64 t.op.site) ∧
    w.cell? ⟨ad.block, ad.off + 4, none⟩ = some (.int .i64 t.op.client) ∧ w.cell? ⟨ad.block, ad.off + 5, none⟩ = some (.int .i64 t.op.seq) ∧ w.cell? ⟨ad.block, ad.off + 6, none⟩ = some (.string t.op.name) ∧ w.cell? ⟨ad.block, ad.off + 7, none⟩ = some (.int .i64 t.op.size) ∧ w.cell? ⟨ad.block, ad.off + 8, none⟩ = some hv ∧
    w.cell? ⟨ad.block, ad.off + 9, none⟩ = some (.int .i64 t.an) ∧ w.cell? ⟨ad.block, ad.off + 10, none⟩ = some (.int .i64 t.ae) :=
  ⟨h 0 _ rfl, h 1 _ rfl, h 2 _ rfl, h 3 _ rfl, h 4 _ rfl, h 5 _ rfl, h 6 _ rfl, h 7 _ rfl, h 8 _ rfl, h 9 _ rfl, h 10 _ rfl⟩
/-- several stores in a row -/
def wset (w : World) (g o : Nat) : List Value → World
  | [] => w
  | v :: vs => wset (w.setCell ⟨g, o, none⟩ v) g (o + 1) vs
def lset (cs : List Value) (o : Nat) : List Value → List Value
  | [] => cs
  | v :: vs => lset (cs.set o v) (o + 1) vs
theorem wset_blk {g : Nat} {T : TypeId} : ∀ {vs : List Value} {w : World} {cs : List Value} {o : Nat}, Blk w g T cs → Blk (wset w g o vs) g T (lset cs o vs)
  | [], _, _, _, h => h
  | v :: vs, _, _, o, h => wset_blk (vs := vs) (Blk.set h o v)
theorem wset_kp {g : Nat} : ∀ {vs : List Value} {w : World} {o : Nat}, Kp (· = g) w (wset w g o vs)
  | [], _, _ => Kp.refl _ _
  | v :: vs, w, o => ((Kp.refl (· = g) w).setCell (p := ⟨g, o, none⟩) (fun _ => rfl) v).trans' (wset_kp (vs := vs))
theorem lset_length : ∀ {vs cs : List Value} {o : Nat}, (lset cs o vs).length = cs.length
  | [], _, _ => rfl
  | v :: vs, cs, o => by unfold lset; rw [lset_length]; simp
theorem lset_get : ∀ {vs cs : List Value} {o p : Nat}, o + vs.length ≤ cs.length → (lset cs o vs)[p]? = if o ≤ p ∧ p < o + vs.length then vs[p - o]? else cs[p]?
  | [], cs, o, p, h => by
    unfold lset
    rw [if_neg (by simp)]
  | v :: vs, cs, o, p, h => by
    unfold lset
    simp only [List.length_cons] at h ⊢
    rw [lset_get (by simp; omega)]
    by_cases h1 : o + 1 ≤ p ∧ p < o + 1 + vs.length
    · rw [if_pos h1, if_pos (by omega)]
      obtain ⟨q, hq⟩ : ∃ q, p - o = q + 1 := ⟨p - o - 1, by omega⟩
      rw [hq, List.getElem?_cons_succ]
      congr 1
      omega
    · rw [if_neg h1]
      by_cases h2 : p = o
      · subst h2
        rw [if_pos (by omega), Nat.sub_self, List.getElem?_cons_zero, List.getElem?_set_self (by omega)]
      · rw [if_neg (by omega), List.getElem?_set_ne (by omega)]
/-- the first lines of a row of n lie there -/
def LnAt (w : World) (S : Nat → Prop) (g n : Nat) (l : List LineL) : Prop :=
  ∃ cs, Blk w g 71 cs ∧ cs.length = n * 11 ∧ l.length ≤ n ∧ ∀ (j : Nat) a, l[j]? = some a → a.nums ∧ ∃ A c, (∀ (k : Nat) u, (a.cells (.slice A a.op.hashes.length c))[k]? = some u → cs[j * 11 + k]? = some u) ∧ Rp.str.slice.R w S [.slice A a.op.hashes.length c] a.op.hashes
namespace LnAt
variable {w w' : World} {S T : Nat → Prop} {g n : Nat} {l : List LineL}
theorem kept (h : LnAt w S g n l) (hk : Kp T w w') (hg : ¬ T g) (hs : ∀ k, S k → k < w.heap.size → ¬ T k) : LnAt w' S g n l := by
  obtain ⟨cs, h1, h2, h3, h4⟩ := h
  refine ⟨cs, h1.kept hk hg, h2, h3, fun j a ha => ?_⟩
  obtain ⟨h5, A, c, h6, h7⟩ := h4 j a ha
  exact ⟨h5, A, c, h6, Rp.str.slice.kept h7 hk hs⟩
theorem keptNo (h : LnAt w S g n l) (hk : Kp No w w') : LnAt w' S g n l := h.kept hk (fun x => x) (fun _ _ _ x => x)
theorem more (h : LnAt w S g n l) (hs : ∀ k, S k → T k) : LnAt w T g n l := by
  obtain ⟨cs, h1, h2, h3, h4⟩ := h
  refine ⟨cs, h1, h2, h3, fun j a ha => ?_⟩
  obtain ⟨h5, A, c, h6, h7⟩ := h4 j a ha
  exact ⟨h5, A, c, h6, Rp.str.slice.more h7 hs⟩
theorem bnd (h : LnAt w S g n l) : LnAt w (fun k => S k ∧ k < w.heap.size) g n l := by
  obtain ⟨cs, h1, h2, h3, h4⟩ := h
  refine ⟨cs, h1, h2, h3, fun j a ha => ?_⟩
  obtain ⟨h5, A, c, h6, h7⟩ := h4 j a ha
  exact ⟨h5, A, c, h6, Rp.str.slice.bnd h7⟩
theorem lt (h : LnAt w S g n l) : g < w.heap.size := by
  obtain ⟨cs, h1, _⟩ := h
  exact h1.lt
theorem cell (h : LnAt w S g n l) {p : Nat} (hp : p < n * 11) : ∃ u, w.cell? ⟨g, p, none⟩ = some u := by
  obtain ⟨cs, h1, h2, _⟩ := h
  exact ⟨_, h1.cell (List.getElem?_eq_getElem (by omega))⟩
theorem fr (h : LnAt w S g n l) (p : Nat) : w.frozen? ⟨g, p, none⟩ = false := by
  obtain ⟨cs, h1, _⟩ := h
  exact Blk.fr h1 p
/-- one line more -/
theorem put (h : LnAt w S g n l) (hg : ¬ S g) (hl : l.length < n) (a : LineL) (ha : a.nums) {A : Option Addr} {c : Nat} (hh : Rp.str.slice.R w S [.slice A a.op.hashes.length c] a.op.hashes) {i : Nat} (hi : l.length = i) :
    LnAt (wset w g (i * 11) (a.cells (.slice A a.op.hashes.length c))) S g n (l ++ [a]) := by
  subst hi
  obtain ⟨cs, h1, h2, h3, h4⟩ := h
  have hcl : (a.cells (.slice A a.op.hashes.length c)).length = 11 := rfl
  have hk : Kp (· = g) w (wset w g (l.length * 11) (a.cells (.slice A a.op.hashes.length c))) := wset_kp
  refine ⟨_, wset_blk h1, lset_length.trans h2, by rw [List.length_append, List.length_singleton]; omega, fun j b hb => ?_⟩
  rcases Nat.lt_trichotomy j l.length with hj | hj | hj
  · rw [List.getElem?_append_left hj] at hb
    obtain ⟨h5, A', c', h6, h7⟩ := h4 j b hb
    refine ⟨h5, A', c', fun k u hu => ?_, Rp.str.slice.kept h7 hk (fun k hs _ e => hg (e ▸ hs))⟩
    have hk11 : k < 11 := (List.getElem?_eq_some_iff.1 hu).1
    rw [lset_get (by rw [hcl]; omega), if_neg (by rw [hcl]; omega)]
    exact h6 k u hu
  · subst hj
    rw [List.getElem?_append_right (Nat.le_refl _), Nat.sub_self] at hb
    injection hb with hb
    subst hb
    refine ⟨ha, A, c, fun k u hu => ?_, Rp.str.slice.kept hh hk (fun k hs _ e => hg (e ▸ hs))⟩
    have hk11 : k < 11 := (List.getElem?_eq_some_iff.1 hu).1
    rw [lset_get (by rw [hcl]; omega), if_pos (by rw [hcl]; omega), Nat.add_sub_cancel_left]
    exact hu
  · rw [List.getElem?_eq_none (by rw [List.length_append, List.length_singleton]; omega)] at hb
    cases hb
theorem made (w : World) (S : Nat → Prop) (n : Nat) (cs : Array Value) (hc : cs.size = n * 11) : LnAt (w.alloc (.cells cs 71)) S w.heap.size n [] :=
  ⟨cs.toList, by have := Blk.new w cs.toList 71; simpa using this, by simpa using hc, Nat.zero_le _, fun j a ha => by simp at ha⟩
/-- the whole row, read -/
theorem read (h : LnAt w S g l.length l) (hm : l.length ≤ maxLen) : Rp.line.slice.R w (fun k => S k ∨ k = g) [.slice (some ⟨g, 0, none⟩) l.length l.length] l := by
  obtain ⟨cs, h1, h2, h3, h4⟩ := h
  refine ⟨_, _, rfl, Nat.le_refl _, hm, fun _ => ⟨_, rfl, .inr rfl, fun i a hi => ?_⟩⟩
  obtain ⟨h5, A, c, h6, h7⟩ := h4 i a hi
  refine ⟨_, fun j u hu => ?_, _, rfl, h5, Rp.str.slice.more h7 (fun k hk => .inl hk)⟩
  have hj : j < 11 := (List.getElem?_eq_some_iff.1 hu).1
  show w.cell? (((⟨g, 0, none⟩ : Addr).add (i * 11)).add j) = _
  rw [Addr.add_lit, Addr.add_lit]
  have := h1.cell (h6 j u hu)
  simpa using this
end LnAt
def linedL : Int × Int → List OpL → List LineL
  | _, [] => []
  | p, o :: l => ⟨o, p.1, p.2⟩ :: linedL (o.n, o.epoch) l
def lastP (p : Int × Int) (l : List OpL) : Int × Int := match l.getLast? with
  | none => p
  | some o => (o.n, o.epoch)
theorem linedL_length : ∀ (l : List OpL) (p : Int × Int), (linedL p l).length = l.length
  | [], _ => rfl
  | o :: l, p => by unfold linedL; simp [linedL_length l]
theorem linedL_snoc : ∀ (l : List OpL) (p : Int × Int) (o : OpL), linedL p (l ++ [o]) = linedL p l ++ [⟨o, (lastP p l).1, (lastP p l).2⟩]
  | [], p, o => rfl
  | x :: l, p, o => by
    show _ :: linedL _ (l ++ [o]) = _ :: linedL _ l ++ _
    rw [linedL_snoc l]
    cases l with
    | nil => rfl
    | cons y l =>
      cases hz : (y :: l).getLast? with
      | none => simp at hz
      | some z =>
        simp only [lastP, List.getLast?_cons_cons, hz]
        rfl
theorem lastP_snoc (p : Int × Int) (l : List OpL) (o : OpL) : lastP p (l ++ [o]) = (o.n, o.epoch) := by simp [lastP]
theorem lastP_I64 {l : List OpL} (h : ∀ o ∈ l, o.nums) : I64 (lastP (0, 0) l).1 ∧ I64 (lastP (0, 0) l).2 := by
  unfold lastP
  cases hl : l.getLast? with
  | none => exact ⟨rfl, rfl⟩
  | some o =>
    have := h o (List.mem_of_getLast? hl)
    exact ⟨this.1, this.2.1⟩
theorem opl_nums {w : World} {S : Nat → Prop} {A : Option Addr} {c : Nat} {l : List OpL} (h : Rp.opl.slice.R w S [.slice A l.length c] l) : ∀ o ∈ l, o.nums := fun o ho => by
  obtain ⟨i, hi⟩ := List.getElem?_of_mem ho
  obtain ⟨_, _, _, _, _, _, hn, _⟩ := Rp.at_opl h hi
  exact hn
end

section
open Go.RowKit Go.ChangeShapes Go.WideShapes Go.ChangeAt

set_option maxRecDepth 100000 in
theorem m_place (o : OpL) (v : Value) (w : World) : Calls Try.prog 27 #[opV o v] w fun e w' => e = .returned (spotV (o.n, o.epoch)) ∧ Kp No w w' := by
  unfold opV spotV
  obtain ⟨n, ep, k, st, cl, sq, nm, sz, hs⟩ := o
  simp only
  go_enter Try.func27, Try.ntmps27
  go_wp2_with fail
  obtain ⟨w1, hw1⟩ : ∃ w1, w.alloc (.cells #[.int .i64 n, .int .i64 ep, .int .i64 k, .int .i64 st, .int .i64 cl, .int .i64 sq, .string nm, .int .i64 sz, v] 58) = w1 := ⟨_, rfl⟩
  have hk : Kp No w w1 := by rw [← hw1]; exact (Kp.refl _ _).alloc _
  have hsz : w.heap.size + 1 = w1.heap.size := by rw [← hw1]; simp
  rw [hw1, hsz]
  have hb : Blk (w1.alloc (.cells #[.int .i64 n, .int .i64 ep] 37)) w1.heap.size 37 [.int .i64 n, .int .i64 ep] := Blk.new w1 _ _
  exact bodyPost_ret (results_cell_row rfl _ _ w1.heap.size _ _ _ _ rfl hb Try.underlying37 rfl (by kernel_rfl)) rfl ⟨rfl, hk.alloc _⟩
theorem str_cells {w : World} {S : Nat → Prop} {b o c : Nat} {l : List ByteArray} (h : Rp.str.slice.R w S [.slice (some ⟨b, o, none⟩) l.length c] l) : ∀ j, j < l.length → w.cell? ⟨b, o + j, none⟩ = some (.string (l.getD j ByteArray.empty)) := fun j hj => by
  obtain ⟨ad, hA, _, hc, _⟩ := Rp.at_str h (List.getElem?_eq_getElem hj)
  injection hA with hA
  subst hA
  rw [List.getD_eq_getElem?_getD, List.getElem?_eq_getElem hj, Option.getD_some]
  rcases j with _ | j
  · exact hc
  · exact hc
theorem str_off {w : World} {S : Nat → Prop} {A : Option Addr} {c : Nat} {l : List ByteArray} (h : Rp.str.slice.R w S [.slice A l.length c] l) (hp : 0 < l.length) : ∃ b o, A = some ⟨b, o, none⟩ := by
  obtain ⟨ad, hA, _, hc, _⟩ := Rp.at_str h (List.getElem?_eq_getElem hp)
  obtain ⟨b, o, p⟩ := ad
  cases p with
  | none => exact ⟨b, o, hA⟩
  | some p =>
    have h0 : w.cell? ⟨b, o, some p⟩ = some (.string l[0]) := hc
    unfold World.cell? at h0
    split at h0
    · simp at h0
    · cases h0
set_option maxRecDepth 100000 in
theorem c_equalS (l m : List ByteArray) (A B : Option Addr) (c d : Nat) (w : World) (S T : Nat → Prop) (hl : Rp.str.slice.R w S [.slice A l.length c] l) (hm : Rp.str.slice.R w T [.slice B m.length d] m) :
    Calls Try.prog 34 #[.slice A l.length c, .slice B m.length d] w fun e w' => e = .returned (.bool (decide (l = m))) ∧ Kp No w w' := by
  have h1 : l.length ≤ maxLen := by obtain ⟨_, _, he, h1, h2, _⟩ := hl; simp only [List.cons.injEq, Value.slice.injEq, and_true] at he; omega
  have h2 : m.length ≤ maxLen := by obtain ⟨_, _, he, h1, h2, _⟩ := hm; simp only [List.cons.injEq, Value.slice.injEq, and_true] at he; omega
  unfold maxLen at h1 h2
  by_cases hn : l.length = m.length
  · rcases Nat.eq_zero_or_pos l.length with h0 | h0
    · have e1 : l = [] := List.eq_nil_of_length_eq_zero h0
      have e2 : m = [] := List.eq_nil_of_length_eq_zero (by omega)
      subst e1 e2
      refine (sh_slices_Equal_string_empty A B c 0 d w (by omega)).mono ?_
      rintro e w' ⟨rfl, rfl⟩
      exact ⟨rfl, Kp.refl _ _⟩
    · obtain ⟨b1, o1, rfl⟩ := str_off hl h0
      obtain ⟨b2, o2, rfl⟩ := str_off hm (by omega)
      refine (sh_slices_Equal_string b1 o1 l.length c b2 o2 m.length d l m w (Nat.le_refl _) (Nat.le_refl _) (by omega) (by omega) (str_cells hl) (str_cells hm)).mono ?_
      rintro e w' ⟨rfl, q, rfl⟩
      rw [List.take_length, List.take_length]
      exact ⟨rfl, (Kp.refl _ _).drewN _⟩
  · have hne : decide (l = m) = false := decide_eq_false (fun e => hn (congrArg _ e))
    rw [hne]
    have hnb : ((l.length : Int) == (m.length : Int)) = false := beq_eq_false_iff_ne.2 (by omega)
    have hnb2 : ((l.length : Int) != (m.length : Int)) = true := by rw [bne, hnb]; rfl
    clear hl hm hne
    go_enter Try.func34, Try.ntmps34
    go_wp2_with fail
    go_ret
    exact ⟨rfl, Kp.refl _ _⟩
def EqP (a b : OpL) : Prop := a.kind = b.kind ∧ a.site = b.site ∧ a.client = b.client ∧ a.seq = b.seq ∧ a.name = b.name ∧ a.size = b.size ∧ a.hashes = b.hashes
instance (a b : OpL) : Decidable (EqP a b) := by unfold EqP; exact inferInstance
set_option maxRecDepth 100000 in
set_option maxHeartbeats 4000000 in
theorem m_equal (a b : OpL) (A1 A2 : Option Addr) (c1 c2 : Nat) (w : World) (S1 S2 : Nat → Prop) (h1 : Rp.str.slice.R w S1 [.slice A1 a.hashes.length c1] a.hashes) (h2 : Rp.str.slice.R w S2 [.slice A2 b.hashes.length c2] b.hashes) :
    Calls Try.prog 28 #[opV a (.slice A1 a.hashes.length c1), opV b (.slice A2 b.hashes.length c2)] w fun x w' => x = .returned (.bool (decide (EqP a b))) ∧ Kp No w w' := by
  have hsm := fun w1 (hk : Kp No w w1) => c_equalS a.hashes b.hashes A1 A2 c1 c2 w1 S1 S2 (Rp.str.slice.keptNo h1 hk) (Rp.str.slice.keptNo h2 hk)
  have HSM := Lib.hid hsm
  clear hsm h1 h2
  obtain ⟨R, hR⟩ : ∃ R, decide (EqP a b) = R := ⟨_, rfl⟩
  rw [hR]
  have HR := Lib.hid hR
  clear hR
  unfold opV EqP at *
  obtain ⟨an, ae, ak, as', ac, aq, anm, asz, ahs⟩ := a
  obtain ⟨bn, be, bk, bs', bc, bq, bnm, bsz, bhs⟩ := b
  simp only at *
  have HK : Hid (Kp No w ((w.alloc (.cells #[.int .i64 an, .int .i64 ae, .int .i64 ak, .int .i64 as', .int .i64 ac, .int .i64 aq, .string anm, .int .i64 asz, .slice A1 ahs.length c1] 58)).alloc (.cells #[.int .i64 bn, .int .i64 be, .int .i64 bk, .int .i64 bs', .int .i64 bc, .int .i64 bq, .string bnm, .int .i64 bsz, .slice A2 bhs.length c2] 58))) := Lib.hid (((Kp.refl _ _).alloc _).alloc _)
  by_cases e3 : ak = bk
  case neg =>
    have f : (ak == bk) = false := beq_eq_false_iff_ne.2 e3
    have HF : Hid (R = false) := Lib.hid (by rw [← HR.out]; exact decide_eq_false (fun h => e3 h.1))
    go_enter Try.func28, Try.ntmps28
    go_wp2_with fail
    go_quiet (fail)
    go_wp2_with fail
    go_ret
    exact ⟨by rw [HF.out]; rfl, HK.out.trans' ((Kp.refl No _).drewN _)⟩
  subst e3
  by_cases e4 : as' = bs'
  case neg =>
    have f : (as' == bs') = false := beq_eq_false_iff_ne.2 e4
    have HF : Hid (R = false) := Lib.hid (by rw [← HR.out]; exact decide_eq_false (fun h => e4 h.2.1))
    go_enter Try.func28, Try.ntmps28
    go_wp2_with fail
    go_quiet (fail)
    go_wp2_with fail
    go_ret
    exact ⟨by rw [HF.out]; rfl, HK.out.trans' ((Kp.refl No _).drewN _)⟩
  subst e4
  by_cases e5 : ac = bc
  case neg =>
    have f : (ac == bc) = false := beq_eq_false_iff_ne.2 e5
    have HF : Hid (R = false) := Lib.hid (by rw [← HR.out]; exact decide_eq_false (fun h => e5 h.2.2.1))
    go_enter Try.func28, Try.ntmps28
    go_wp2_with fail
    go_quiet (fail)
    go_wp2_with fail
    go_ret
    exact ⟨by rw [HF.out]; rfl, HK.out.trans' ((Kp.refl No _).drewN _)⟩
  subst e5
  by_cases e6 : aq = bq
  case neg =>
    have f : (aq == bq) = false := beq_eq_false_iff_ne.2 e6
    have HF : Hid (R = false) := Lib.hid (by rw [← HR.out]; exact decide_eq_false (fun h => e6 h.2.2.2.1))
    go_enter Try.func28, Try.ntmps28
    go_wp2_with fail
    go_quiet (fail)
    go_wp2_with fail
    go_ret
    exact ⟨by rw [HF.out]; rfl, HK.out.trans' ((Kp.refl No _).drewN _)⟩
  subst e6
  by_cases e7 : anm = bnm
  case neg =>
    have f : (anm.toList == bnm.toList) = false := by rw [bytes_list_beq]; exact decide_eq_false e7
    have HF : Hid (R = false) := Lib.hid (by rw [← HR.out]; exact decide_eq_false (fun h => e7 h.2.2.2.2.1))
    go_enter Try.func28, Try.ntmps28
    go_wp2_with fail
    go_quiet (fail)
    go_wp2_with fail
    go_ret
    exact ⟨by rw [HF.out]; rfl, HK.out.trans' ((Kp.refl No _).drewN _)⟩
  subst e7
  by_cases e8 : asz = bsz
  case neg =>
    have f : (asz == bsz) = false := beq_eq_false_iff_ne.2 e8
    have HF : Hid (R = false) := Lib.hid (by rw [← HR.out]; exact decide_eq_false (fun h => e8 h.2.2.2.2.2.1))
    go_enter Try.func28, Try.ntmps28
    go_wp2_with fail
    go_quiet (fail)
    go_wp2_with fail
    go_ret
    exact ⟨by rw [HF.out]; rfl, HK.out.trans' ((Kp.refl No _).drewN _)⟩
  subst e8
  obtain ⟨Q, hQ⟩ : ∃ Q, decide (ahs = bhs) = Q := ⟨_, rfl⟩
  rw [hQ] at HSM
  have HRQ : Hid (R = Q) := Lib.hid (by rw [← HR.out, ← hQ]; simp)
  clear hQ HR
  go_enter Try.func28, Try.ntmps28
  go_wp2_with fail
  go_quiet (fail)
  go_wp2_with fail
  refine (HSM.out _ (HK.out.trans' ((Kp.refl No _).drewN _))).mono ?_
  rintro x w2 ⟨rfl, hk⟩
  have HK2 := Lib.hid ((HK.out.trans' ((Kp.refl No _).drewN _)).trans' hk)
  clear hk
  go_wp2_with fail
  go_ret
  exact ⟨by rw [HRQ.out]; rfl, HK2.out⟩
end

section
open Go.RowKit Go.ChangeShapes Go.WideShapes Go.ChangeAt

theorem Rp.none_ {α : Type} (E : Rp α) (w : World) (S : Nat → Prop) : E.slice.R w S [.slice none 0 0] [] := ⟨none, 0, rfl, Nat.le_refl _, by simp, fun h => absurd h (by simp)⟩
theorem wpList_litW {P : Program} {ops : Array Oper} {rest : List Oper} {o : Oper} {a : Act} {w w' : World} {Q : Exit → Act → World → Prop} (hw : Region.wanted o (yielded ops a.tmps) = true) (t : TypeId) (x : Operand) (ho : o.op = .buildSlice t 1 #[(0, x)]) (v u : Value) (he : a.eval x = v)
    (hr : (Instr.buildSlice t 1 #[(0, v)]).run P w = .ok u w')
    (h : wpList P ops Q rest (a.put o.dst u) w') : wpList P ops Q (o :: rest) a w := by
  refine wpList_step fun K hK => ?_
  rw [if_pos hw]
  have e : (#[(0, x)] : Array (Nat × Operand)).map (fun (i, x) => (i, a.eval x)) = #[(0, v)] := by simp [he]
  unfold Oper.wp execOp
  simp only [ho, Sem.run_bind, e, hr, Result.andThen_ok]
  exact hK _ _ h
/-- a slice literal of one operation -/
theorem run_lit_opl (w : World) (o : OpL) (v : Value) : (Instr.buildSlice 32 1 #[(0, .agg (o.cells v).toArray)]).run Try.prog w = .ok (.slice (some ⟨w.heap.size, 0, none⟩) 1 1) (w.alloc (.cells (o.cells v).toArray 58)) := by
  unfold OpL.cells
  go_simp
/-- a call that turns only what the ledger rests on; what it rests on then is of that, or new -/
structure Upd (F : Nat → Prop) (w w' : World) (F' : Nat → Prop) : Prop where
  kp : Kp F w w'
  foot : ∀ k, F' k → F k ∨ w.heap.size ≤ k
theorem Upd.refl (F : Nat → Prop) (w : World) : Upd F w w F := ⟨Kp.refl _ _, fun _ h => .inl h⟩
theorem Upd.kpNo {F : Nat → Prop} {w w' : World} (h : Kp No w w') : Upd F w w' F := ⟨h.any, fun _ h => .inl h⟩
theorem Upd.trans {F F' F'' : Nat → Prop} {a b c : World} (h : Upd F a b F') (k : Upd F' b c F'') : Upd F a c F'' :=
  ⟨h.kp.trans k.kp (fun i hi hf => by rcases h.foot i hf with h | h; exact h; omega), fun i hi => by
    rcases k.foot i hi with h1 | h1
    · exact h.foot i h1
    · exact .inr (Nat.le_trans h.kp.size h1)⟩
end

section
open Go.RowKit Go.ChangeShapes Go.WideShapes Go.ChangeAt

section
variable {P : Program} {ops : Array Oper} {rest : List Oper} {o : Oper} {a : Act} {w w' : World} {Q : Exit → Act → World → Prop}
theorem wpl_load (hw : Region.wanted o (yielded ops a.tmps) = true) (t : TypeId) (x : Operand) (ho : o.op = .load t x) (v u : Value) (he : a.eval x = v) (hr : (Instr.loadAt t v).run P w = .ok u w') (h : wpList P ops Q rest (a.put o.dst u) w') : wpList P ops Q (o :: rest) a w := by
  refine wpList_step fun K hK => ?_
  rw [if_pos hw]
  unfold Oper.wp execOp
  simp only [ho, he, Sem.run_bind, hr, Result.andThen_ok]
  exact hK _ _ h
theorem wpl_build2 (hw : Region.wanted o (yielded ops a.tmps) = true) (t : TypeId) (i j : Nat) (x y : Operand) (ho : o.op = .build t #[(i, x), (j, y)]) (v v2 u : Value) (he : a.eval x = v) (he2 : a.eval y = v2) (hr : (Instr.build t #[(i, v), (j, v2)]).run P w = .ok u w')
    (h : wpList P ops Q rest (a.put o.dst u) w') : wpList P ops Q (o :: rest) a w := by
  refine wpList_step fun K hK => ?_
  rw [if_pos hw]
  have e : (#[(i, x), (j, y)] : Array (Nat × Operand)).map (fun (i, x) => (i, a.eval x)) = #[(i, v), (j, v2)] := by simp [he, he2]
  unfold Oper.wp execOp
  simp only [ho, Sem.run_bind, e, hr, Result.andThen_ok]
  exact hK _ _ h
theorem wpl_store (hw : Region.wanted o (yielded ops a.tmps) = true) (t : TypeId) (x y : Operand) (ho : o.op = .store t x y) (v u : Value) (he : a.eval x = v) (he2 : a.eval y = u) (hr : (Instr.storeAt t v u).run P w = .ok () w')
    (h : wpList P ops Q rest (a.put o.dst undef) w') : wpList P ops Q (o :: rest) a w := by
  refine wpList_step fun K hK => ?_
  rw [if_pos hw]
  unfold Oper.wp execOp
  simp only [ho, he, he2, Sem.run_bind, hr, Result.andThen_ok]
  exact hK _ _ h
theorem wpl_lookup (hw : Region.wanted o (yielded ops a.tmps) = true) (t : TypeId) (x y : Operand) (b : Bool) (ho : o.op = .lookup t x y b) (v v2 u : Value) (he : a.eval x = v) (he2 : a.eval y = v2) (hr : (Instr.lookup t v v2 b).run P w = .ok u w')
    (h : wpList P ops Q rest (a.put o.dst u) w') : wpList P ops Q (o :: rest) a w := by
  refine wpList_step fun K hK => ?_
  rw [if_pos hw]
  unfold Oper.wp execOp
  simp only [ho, he, he2, Sem.run_bind, hr, Result.andThen_ok]
  exact hK _ _ h
theorem wpl_update (hw : Region.wanted o (yielded ops a.tmps) = true) (t : TypeId) (x y z : Operand) (ho : o.op = .mapUpdate t x y z) (v v2 u : Value) (he : a.eval x = v) (he2 : a.eval y = v2) (he3 : a.eval z = u) (hr : (Instr.mapUpdate t v v2 u).run P w = .ok () w')
    (h : wpList P ops Q rest (a.put o.dst undef) w') : wpList P ops Q (o :: rest) a w := by
  refine wpList_step fun K hK => ?_
  rw [if_pos hw]
  unfold Oper.wp execOp
  simp only [ho, he, he2, he3, Sem.run_bind, hr, Result.andThen_ok]
  exact hK _ _ h
end
end

section
open Go.RowKit Go.ChangeShapes Go.WideShapes Go.ChangeAt

theorem run_make_lines (w : World) (n : Nat) (hn : n ≤ 1000000) : ∃ cs : Array Value, cs.size = n * 11 ∧ (Instr.makeSlice 68 (.int .i64 (n : Int)) (.int .i64 (n : Int))).run Try.prog w = .ok (.slice (some ⟨w.heap.size, 0, none⟩) n n) (w.alloc (.cells cs 71)) := by
  have el : Elem Try.prog 68 71 11 112 := Elem.of Try.underlying68 (z := .agg #[.int .i64 0, .int .i64 0, .int .i64 0, .int .i64 0, .int .i64 0, .int .i64 0, .string ByteArray.empty, .int .i64 0, .slice none 0 0, .int .i64 0, .int .i64 0]) (by kernel_rfl) rfl (by decide)
  obtain ⟨ht, i, z, hi, hz, hs, hbb, _, _⟩ := el
  have hr := run_make (P := Try.prog) w _ _ i z ht hi hz .i64 .i64 n n (by omega) (Int.le_refl _) (by rw [hbb]; omega) (by omega)
  simp only [Int.toNat_natCast] at hr
  exact ⟨_, by rw [size_madeCells, hs], hr⟩
theorem run_store_line (w : World) (g o : Nat) (a : LineL) (A : Option Addr) (n c : Nat) (u0 u1 u2 u3 u4 u5 u6 u7 u8 u9 u10 : Value) (h0 : w.cell? ⟨g, o, none⟩ = some u0) (h1 : w.cell? ⟨g, o + 1, none⟩ = some u1) (h2 : w.cell? ⟨g, o + 2, none⟩ = some u2) (h3 : w.cell? ⟨g, o + 3, none⟩ = some u3) (h4 : w.cell? ⟨g, o + 4, none⟩ = some u4)
    (h5 : w.cell? ⟨g, o + 5, none⟩ = some u5) (h6 : w.cell? ⟨g, o + 6, none⟩ = some u6) (h7 : w.cell? ⟨g, o + 7, none⟩ = some u7) (h8 : w.cell? ⟨g, o + 8, none⟩ = some u8) (h9 : w.cell? ⟨g, o + 9, none⟩ = some u9) (h10 : w.cell? ⟨g, o + 10, none⟩ = some u10) (hf : ∀ p, w.frozen? ⟨g, p, none⟩ = false) :
    (Instr.storeAt 71 (.pointer (some ⟨g, o, none⟩)) (lineV a (.slice A n c))).run Try.prog w = .ok () (wset w g o (a.cells (.slice A n c))) := by
  unfold lineV
  go_simp
  rfl
theorem run_load_op {w : World} {y : Nat} {o : OpL} {A : Option Addr} {n c : Nat} (h : Blk w y 58 [.int .i64 o.n, .int .i64 o.epoch, .int .i64 o.kind, .int .i64 o.site, .int .i64 o.client, .int .i64 o.seq, .string o.name, .int .i64 o.size, .slice A n c]) :
    (Instr.loadAt 58 (.pointer (some ⟨y, 0, none⟩))).run Try.prog w = .ok (opV o (.slice A n c)) w := by
  have y0 : w.cell? ⟨y, 0, none⟩ = some _ := Blk.cell h rfl
  have y1 : w.cell? ⟨y, 1, none⟩ = some _ := Blk.cell h rfl
  have y2 : w.cell? ⟨y, 2, none⟩ = some _ := Blk.cell h rfl
  have y3 : w.cell? ⟨y, 3, none⟩ = some _ := Blk.cell h rfl
  have y4 : w.cell? ⟨y, 4, none⟩ = some _ := Blk.cell h rfl
  have y5 : w.cell? ⟨y, 5, none⟩ = some _ := Blk.cell h rfl
  have y6 : w.cell? ⟨y, 6, none⟩ = some _ := Blk.cell h rfl
  have y7 : w.cell? ⟨y, 7, none⟩ = some _ := Blk.cell h rfl
  have y8 : w.cell? ⟨y, 8, none⟩ = some _ := Blk.cell h rfl
  clear h
  unfold opV
  go_simp
theorem run_load_spot {w : World} {y : Nat} {a b : Int} (h : Blk w y 37 [.int .i64 a, .int .i64 b]) : (Instr.loadAt 37 (.pointer (some ⟨y, 0, none⟩))).run Try.prog w = .ok (spotV (a, b)) w := by
  have y0 : w.cell? ⟨y, 0, none⟩ = some _ := Blk.cell h rfl
  have y1 : w.cell? ⟨y, 1, none⟩ = some _ := Blk.cell h rfl
  clear h
  unfold spotV
  go_simp
theorem run_line (w : World) (o : OpL) (hv : Value) (a b : Int) : (Instr.build 71 #[(0, opV o hv), (1, spotV (a, b))]).run Try.prog w = .ok (lineV ⟨o, a, b⟩ hv) w := by
  unfold opV spotV lineV
  go_simp
set_option maxRecDepth 100000 in
set_option maxHeartbeats 4000000 in
theorem m_lined (l : List OpL) (A : Option Addr) (c : Nat) (w : World) (S : Nat → Prop) (hl : Rp.opl.slice.R w S [.slice A l.length c] l) (hll : l.length ≤ 1000000) (hsm : ∀ o ∈ l, o.hashes.length ≤ 1000000) :
    Calls Try.prog 26 #[.slice A l.length c] w fun e w' => ∃ g, e = .returned (.slice (some ⟨g, 0, none⟩) l.length l.length) ∧ w.heap.size ≤ g ∧ LnAt w' (fun k => w.heap.size ≤ k ∧ k ≠ g) g l.length (linedL (0, 0) l) ∧ Kp No w w' := by
  have HL := Lib.hid hl
  have HSM := Lib.hid hsm
  obtain ⟨cs, hcs, hmk⟩ := run_make_lines w l.length hll
  obtain ⟨g, hg⟩ : ∃ v, w.heap.size = v := ⟨_, rfl⟩
  obtain ⟨wa, hwa⟩ : ∃ v, w.alloc (.cells cs 71) = v := ⟨_, rfl⟩
  have hka : Kp No w wa := by rw [← hwa]; exact (Kp.refl _ _).alloc _
  have HLA : Hid (∀ sp, wa.heap.size = sp → LnAt wa (fun k => w.heap.size ≤ k ∧ k ≠ g ∧ k ≠ sp) g l.length []) := Lib.hid (fun sp _ => by rw [← hwa, ← hg]; exact LnAt.made w _ _ _ hcs)
  have HKA := Lib.hid hka
  have HGW : Hid (w.heap.size ≤ g) := Lib.hid (Nat.le_of_eq hg)
  rw [hg, hwa] at hmk
  clear hl hsm hcs hwa hka
  go_enter Try.func26, Try.ntmps26
  go_wp2_with fail
  clear hmk hg
  obtain ⟨sp, hsp⟩ : ∃ v, wa.heap.size = v := ⟨_, rfl⟩
  obtain ⟨wb, hwb⟩ : ∃ v, wa.alloc (.cells #[.int .i64 0, .int .i64 0] 37) = v := ⟨_, rfl⟩
  have hkb : Kp No wa wb := by rw [← hwb]; exact (Kp.refl _ _).alloc _
  have hln := HLA.out sp hsp
  have HGS : Hid (g ≠ sp) := Lib.hid (by have := hln.lt; omega)
  have HLN : Hid (LnAt wb (fun k => w.heap.size ≤ k ∧ k ≠ g ∧ k ≠ sp) g l.length (linedL (0, 0) (l.take 0))) := Lib.hid (hln.keptNo hkb)
  have HBS : Hid (Blk wb sp 37 [.int .i64 (lastP (0, 0) (l.take 0)).1, .int .i64 (lastP (0, 0) (l.take 0)).2]) := Lib.hid (by rw [← hwb, ← hsp]; exact Blk.new wa _ _)
  have HKB : Hid (Kp No w wb) := Lib.hid (HKA.out.trans' hkb)
  have HSW : Hid (w.heap.size ≤ sp) := Lib.hid (by rw [← hsp]; exact HKA.out.size)
  rw [hwb, hsp]
  clear hkb hln hwb hsp HLA HKA
  go_loopw [13] (fun iv wr => ∃ i : Nat, i ≤ l.length ∧ iv = .int .i64 (i : Int) ∧ Hid (LnAt wr (fun k => w.heap.size ≤ k ∧ k ≠ g ∧ k ≠ sp) g l.length (linedL (0, 0) (l.take i))) ∧ Hid (Blk wr sp 37 [.int .i64 (lastP (0, 0) (l.take i)).1, .int .i64 (lastP (0, 0) (l.take i)).2]) ∧ Hid (Kp No w wr)) (fun iv _ => l.length - (intOf iv).toNat)
  case atStart => exact ⟨0, Nat.zero_le _, rfl, HLN, HBS, HKB⟩
  case round =>
    clear HLN HBS HKB
    obtain ⟨i, hi, rfl, HLN, HBS, HKR⟩ := hrel
    by_cases hlt : i < l.length
    · have hli : (i : Int) < (l.length : Int) := by omega
      obtain ⟨o, ho⟩ : ∃ o, l[i]? = some o := ⟨_, List.getElem?_eq_getElem hlt⟩
      have hst : l.take (i + 1) = l.take i ++ [o] := by
        obtain ⟨e1, e2⟩ := List.getElem?_eq_some_iff.1 ho
        rw [List.take_succ_eq_append_getElem e1, e2]
      have hln2 : linedL (0, 0) (l.take (i + 1)) = linedL (0, 0) (l.take i) ++ [⟨o, (lastP (0, 0) (l.take i)).1, (lastP (0, 0) (l.take i)).2⟩] := by rw [hst, linedL_snoc]
      have hlp2 : lastP (0, 0) (l.take (i + 1)) = (o.n, o.epoch) := by rw [hst, lastP_snoc]
      have hlen : (linedL (0, 0) (l.take i)).length = i := by rw [linedL_length, List.length_take]; omega
      have hos := HSM.out o (List.mem_of_getElem? ho)
      obtain ⟨D, hD⟩ : ∃ v, linedL (0, 0) (l.take i) = v := ⟨_, rfl⟩
      obtain ⟨p1, hp1⟩ : ∃ v, (lastP (0, 0) (l.take i)).1 = v := ⟨_, rfl⟩
      obtain ⟨p2, hp2⟩ : ∃ v, (lastP (0, 0) (l.take i)).2 = v := ⟨_, rfl⟩
      have HIP : Hid (I64 p1 ∧ I64 p2) := Lib.hid (by rw [← hp1, ← hp2]; exact lastP_I64 (fun o ho => opl_nums HL.out o (List.mem_of_mem_take ho)))
      rw [hD] at hln2 HLN hlen
      rw [hp1, hp2] at hln2 HBS
      obtain ⟨ad, A', c', rfl, _, hcell, hnum, hrd⟩ := Rp.at_opl (Rp.opl.slice.keptNo HL.out HKR.out) ho
      obtain ⟨z0, z1, z2, z3, z4, z5, z6, z7, z8⟩ := opl_cells hcell
      obtain ⟨y, hy⟩ : ∃ v, wr.heap.size = v := ⟨_, rfl⟩
      obtain ⟨w2, hw2⟩ : ∃ v, wr.alloc (.cells #[.int .i64 o.n, .int .i64 o.epoch, .int .i64 o.kind, .int .i64 o.site, .int .i64 o.client, .int .i64 o.seq, .string o.name, .int .i64 o.size, .slice A' o.hashes.length c'] 58) = v := ⟨_, rfl⟩
      have hk2 : Kp No wr w2 := by rw [← hw2]; exact (Kp.refl _ _).alloc _
      have hby : Blk w2 y 58 [.int .i64 o.n, .int .i64 o.epoch, .int .i64 o.kind, .int .i64 o.site, .int .i64 o.client, .int .i64 o.seq, .string o.name, .int .i64 o.size, .slice A' o.hashes.length c'] := by rw [← hw2, ← hy]; exact Blk.new wr _ _
      have hcl := c_cloneS o.hashes A' c' w2 S (Rp.str.slice.keptNo hrd hk2) hos
      have HCL := Lib.hid hcl
      have HBY := Lib.hid hby
      have HNUM := Lib.hid hnum
      have hyg : g < y ∧ sp < y ∧ w.heap.size ≤ y := by
        rw [← hy]
        exact ⟨HLN.out.lt, Blk.lt HBS.out, HKR.out.size⟩
      have HYG := Lib.hid hyg
      have HL2 : Hid (LnAt w2 (fun k => (w.heap.size ≤ k ∧ k ≠ g ∧ k ≠ sp) ∧ k < y) g l.length D) := Lib.hid (by rw [← hy]; exact HLN.out.bnd.keptNo hk2)
      have HS2 := Lib.hid (HBS.out.kept hk2 (fun z => z))
      have HK2 := Lib.hid (HKR.out.trans' hk2)
      have HLEN := Lib.hid hlen
      have HLN2 := Lib.hid hln2
      have HLP2 := Lib.hid hlp2
      have y8 : w2.cell? ⟨y, 8, none⟩ = some _ := Blk.cell hby rfl
      clear ho hst hln2 hlp2 hlen hcell hnum hrd hk2 hby hcl hyg hD hp1 hp2 HLN HBS HKR
      obtain ⟨on, oe, ok, os, oc, oq, onm, osz, ohs⟩ := o
      simp only at *
      obtain ⟨hn, hhn⟩ : ∃ k, ohs.length = k := ⟨_, rfl⟩
      have HHN := Lib.hid hhn
      rw [hhn] at HCL HBY y8 hw2 z8
      clear hhn
      go_wp2_with fail
      clear z0 z1 z2 z3 z4 z5 z6 z7 z8 hw2 hy
      refine HCL.out.mono ?_
      rintro e w3 ⟨A5, c5, rfl, hown5, hk3⟩
      have hb3 := HBY.out.kept hk3 (fun z => z)
      have y8 : w3.cell? ⟨y, 8, none⟩ = some _ := Blk.cell hb3 rfl
      have g8 := Blk.fr hb3 8
      obtain ⟨w4, hw4⟩ : ∃ v, w3.setCell ⟨y, 8, none⟩ (.slice A5 hn c5) = v := ⟨_, rfl⟩
      have hb4 : Blk w4 y 58 [.int .i64 on, .int .i64 oe, .int .i64 ok, .int .i64 os, .int .i64 oc, .int .i64 oq, .string onm, .int .i64 osz, .slice A5 hn c5] := by rw [← hw4]; exact Blk.set hb3 8 (.slice A5 hn c5)
      have hk4 : Kp (· = y) w3 w4 := by rw [← hw4]; exact (Kp.refl (· = y) w3).setCell (p := ⟨y, 8, none⟩) (fun _ => rfl) _
      have hyw3 : y < w3.heap.size := Blk.lt hb3
      have hr4 : Rp.str.slice.R w4 (fun k => w.heap.size ≤ k ∧ k ≠ g ∧ k ≠ sp) [.slice A5 ohs.length c5] ohs := by
        rw [HHN.out]
        have hyw2 := Blk.lt HBY.out
        have hkw := HK2.out.size
        have h := (hown5.str_any (fun k => w2.heap.size ≤ k)).read (fun k hk => (hown5.lt k hk).1)
        exact Rp.str.slice.more (Rp.str.slice.kept h hk4 (fun k hk _ e => by omega)) (fun k hk => ⟨by omega, by have := HYG.out; omega, by have := HYG.out; omega⟩)
      have hl4 : LnAt w4 (fun k => w.heap.size ≤ k ∧ k ≠ g ∧ k ≠ sp) g l.length D := by
        exact ((HL2.out.keptNo hk3).kept hk4 (by have := HYG.out; omega) (fun k hk _ e => by have := hk.2; omega)).more (fun k hk => hk.1)
      have hs4 : Blk w4 sp 37 [.int .i64 p1, .int .i64 p2] := (HS2.out.kept hk3 (fun z => z)).kept hk4 (by have := HYG.out; omega)
      have hld : (Instr.loadAt 58 (.pointer (some ⟨y, 0, none⟩))).run Try.prog w4 = .ok (opV ⟨on, oe, ok, os, oc, oq, onm, osz, ohs⟩ (.slice A5 hn c5)) w4 := run_load_op hb4
      have hls : (Instr.loadAt 37 (.pointer (some ⟨sp, 0, none⟩))).run Try.prog w4 = .ok (spotV (p1, p2)) w4 := run_load_spot hs4
      have hbu := run_line w4 ⟨on, oe, ok, os, oc, oq, onm, osz, ohs⟩ (.slice A5 hn c5) p1 p2
      have hcl : ∀ k, k < 11 → ∃ u, w4.cell? ⟨g, i * 11 + k, none⟩ = some u := fun k hk => hl4.cell (by omega)
      obtain ⟨u0, e0⟩ := hcl 0 (by omega)
      obtain ⟨u1, e1⟩ := hcl 1 (by omega)
      obtain ⟨u2, e2⟩ := hcl 2 (by omega)
      obtain ⟨u3, e3⟩ := hcl 3 (by omega)
      obtain ⟨u4, e4⟩ := hcl 4 (by omega)
      obtain ⟨u5, e5⟩ := hcl 5 (by omega)
      obtain ⟨u6, e6⟩ := hcl 6 (by omega)
      obtain ⟨u7, e7⟩ := hcl 7 (by omega)
      obtain ⟨u8, e8⟩ := hcl 8 (by omega)
      obtain ⟨u9, e9⟩ := hcl 9 (by omega)
      obtain ⟨u10, e10⟩ := hcl 10 (by omega)
      have hst := run_store_line w4 g (i * 11) ⟨⟨on, oe, ok, os, oc, oq, onm, osz, ohs⟩, p1, p2⟩ A5 hn c5 u0 u1 u2 u3 u4 u5 u6 u7 u8 u9 u10 e0 e1 e2 e3 e4 e5 e6 e7 e8 e9 e10 hl4.fr
      have hput := hl4.put (fun h => h.2.1 rfl) (by rw [HLEN.out]; exact hlt) ⟨⟨on, oe, ok, os, oc, oq, onm, osz, ohs⟩, p1, p2⟩ ⟨HNUM.out, HIP.out.1, HIP.out.2⟩ hr4 HLEN.out
      rw [HHN.out] at hput
      obtain ⟨w5, hw5⟩ : ∃ v, wset w4 g (i * 11) (LineL.cells ⟨⟨on, oe, ok, os, oc, oq, onm, osz, ohs⟩, p1, p2⟩ (.slice A5 hn c5)) = v := ⟨_, rfl⟩
      have hk5 : Kp (· = g) w4 w5 := by rw [← hw5]; exact wset_kp
      rw [hw5] at hst hput
      have hb5 := hb4.kept hk5 (by have := HYG.out; omega)
      have hs5 := hs4.kept hk5 (fun e => HGS.out e.symm)
      have HLD := Lib.hid hld
      have HLS := Lib.hid hls
      have HBU := Lib.hid hbu
      have HST := Lib.hid hst
      have HPUT := Lib.hid hput
      have HLD5 := Lib.hid (run_load_op (o := ⟨on, oe, ok, os, oc, oq, onm, osz, ohs⟩) hb5)
      have HPL := Lib.hid (m_place ⟨on, oe, ok, os, oc, oq, onm, osz, ohs⟩ (.slice A5 hn c5) w5)
      have HS5 := Lib.hid hs5
      have HK5 : Hid (Kp No w w5) := Lib.hid (((HK2.out.trans' hk3).trans hk4 (fun k hk e => by have := HYG.out; omega)).trans hk5 (fun k hk e => by have := HGW.out; omega))
      have hil : (i : Int) < (l.length : Int) := by omega
      clear hown5 hk3 hb3 hb4 hk4 hyw3 hr4 hl4 hs4 hld hls hbu hcl e0 e1 e2 e3 e4 e5 e6 e7 e8 e9 e10 hst hput hw5 hk5 hb5 hs5 HCL HBY HNUM HL2 HS2 HK2 HYG
      go_wp2_with (first | (refine wpl_load (by first | rfl | go_simp) 58 _ rfl _ _ (by go_simp) HLD.out ?_; go_simp) | (refine wpl_load (by first | rfl | go_simp) 37 _ rfl _ _ (by go_simp) HLS.out ?_; go_simp) | (refine wpl_build2 (by first | rfl | go_simp) 71 0 1 _ _ rfl _ _ _ (by go_simp) (by go_simp) HBU.out ?_; go_simp) | (refine wpl_store (by first | rfl | go_simp) 71 _ _ rfl _ _ (by go_simp) (by go_simp) HST.out ?_; go_simp) | (refine wpl_load (by first | rfl | go_simp) 58 _ rfl _ _ (by go_simp) HLD5.out ?_; go_simp))
      refine HPL.out.mono ?_
      rintro e w6 ⟨rfl, hk6⟩
      have hs6 := HS5.out.kept hk6 (fun z => z)
      have s0 : w6.cell? ⟨sp, 0, none⟩ = some _ := Blk.cell hs6 rfl
      have s1 : w6.cell? ⟨sp, 1, none⟩ = some _ := Blk.cell hs6 rfl
      have f0 := Blk.fr hs6 0
      have f1 := Blk.fr hs6 1
      have hb7 : Blk ((w6.setCell ⟨sp, 0, none⟩ (.int .i64 on)).setCell ⟨sp, 1, none⟩ (.int .i64 oe)) sp 37 [.int .i64 on, .int .i64 oe] := Blk.set (Blk.set hs6 0 (.int .i64 on)) 1 (.int .i64 oe)
      have hk7 : Kp (· = sp) w6 ((w6.setCell ⟨sp, 0, none⟩ (.int .i64 on)).setCell ⟨sp, 1, none⟩ (.int .i64 oe)) := ((Kp.refl (· = sp) w6).setCell (p := ⟨sp, 0, none⟩) (fun _ => rfl) _).setCell (p := ⟨sp, 1, none⟩) (fun _ => rfl) _
      have HB7 := Lib.hid hb7
      have HL7 := Lib.hid ((HPUT.out.keptNo hk6).kept hk7 HGS.out (fun k hk _ e => hk.2.2 e))
      have HK7 : Hid (Kp No w ((w6.setCell ⟨sp, 0, none⟩ (.int .i64 on)).setCell ⟨sp, 1, none⟩ (.int .i64 oe))) := Lib.hid ((HK5.out.trans' hk6).trans hk7 (fun k hk e => by have := HSW.out; omega))
      unfold spotV
      clear hk6 hs6 hb7 hk7
      go_wp2_with fail
      go_roundw
      case rel => exact ⟨i + 1, by omega, by go_num, by rw [HLN2.out]; exact HL7, by rw [HLP2.out]; exact HB7, HK7⟩
      case measure => simp [intOf]; omega
    · obtain rfl : i = l.length := by omega
      have HLN2 := Lib.hid HLN.out
      rw [List.take_length] at HLN2
      go_wp2_with fail
      go_ret
      exact ⟨g, rfl, HGW.out, HLN2.out.more (fun k hk => ⟨hk.1, hk.2.1⟩), HKR.out⟩
end

section
open Go.RowKit Go.ChangeShapes Go.WideShapes Go.ChangeAt

def RowG {α : Type} (E : Rp α) (T : TypeId) (w : World) (S : Nat → Prop) (g n : Nat) (l : List α) : Prop :=
  ∃ cs, Blk w g T cs ∧ n * E.size ≤ cs.length ∧ l.length = n ∧ ∀ (j : Nat) a, l[j]? = some a → E.R w S ((cs.drop (j * E.size)).take E.size) a
namespace RowG
variable {α : Type} {E : Rp α} {T : TypeId} {w w' : World} {S Q : Nat → Prop} {g n : Nat} {l : List α}
theorem of_own {v : Value} {base : Nat} (h : Own E w S base T v l) (hl : 0 < l.length) : ∃ g c, v = .slice (some ⟨g, 0, none⟩) l.length c ∧ l.length ≤ c ∧ c ≤ maxLen ∧ v.ownBlock = some g ∧ RowG E T w S g l.length l := by
  obtain ⟨xs, ⟨h0, h1⟩, _, h3⟩ := h
  rcases h1 with ⟨_, h1⟩ | ⟨g, cap, cur, rfl, hb, hg, hn, hm, hc, ht⟩
  · omega
  · refine ⟨g, cap, rfl, hn, hm, rfl, cur.toList, by unfold Blk; simpa using hg, ?_, rfl, fun j a ha => ?_⟩
    · have hxl : xs.length = l.length * E.size := h0
      rw [← ht, List.length_take] at hxl
      omega
    · have h4 := h3 j a ha
      have hj := (List.getElem?_eq_some_iff.1 ha).1
      have hmul : (j + 1) * E.size ≤ l.length * E.size := Nat.mul_le_mul_right _ hj
      rw [Nat.add_mul, Nat.one_mul] at hmul
      have e : (xs.drop (j * E.size)).take E.size = (cur.toList.drop (j * E.size)).take E.size := by
        rw [← ht, List.drop_take, List.take_take]
        congr 1
        omega
      rw [e] at h4
      exact h4
theorem kept (h : RowG E T w S g n l) (hk : Kp Q w w') (hg : ¬ Q g) (hs : ∀ k, S k → k < w.heap.size → ¬ Q k) : RowG E T w' S g n l := by
  obtain ⟨cs, h1, h2, h3, h4⟩ := h
  exact ⟨cs, h1.kept hk hg, h2, h3, fun j a ha => E.kept (h4 j a ha) hk hs⟩
theorem keptNo (h : RowG E T w S g n l) (hk : Kp No w w') : RowG E T w' S g n l := h.kept hk (fun x => x) (fun _ _ _ x => x)
theorem cells (h : RowG E T w S g n l) {j : Nat} {a : α} (ha : l[j]? = some a) : ∃ es, es.length = E.size ∧ E.R w S es a ∧ ∀ (k : Nat) u, es[k]? = some u → w.cell? ⟨g, j * E.size + k, none⟩ = some u := by
  obtain ⟨cs, h1, h2, h3, h4⟩ := h
  have hr := h4 j a ha
  refine ⟨_, E.len hr, hr, fun k u hu => h1.cell ?_⟩
  have hk : k < E.size := by
    have := (List.getElem?_eq_some_iff.1 hu).1
    rw [List.length_take] at this
    omega
  rw [List.getElem?_take_of_lt hk, List.getElem?_drop] at hu
  exact hu
theorem fr (h : RowG E T w S g n l) (p : Nat) : w.frozen? ⟨g, p, none⟩ = false := by
  obtain ⟨cs, h1, _⟩ := h
  exact Blk.fr h1 p
theorem set (h : RowG E T w S g n l) (hg : ¬ S g) {j : Nat} (hj : j < n) {es : List Value} {a : α} (hr : E.R w S es a) : RowG E T (wset w g (j * E.size) es) S g n (l.set j a) := by
  obtain ⟨cs, h1, h2, h3, h4⟩ := h
  have hes : es.length = E.size := E.len hr
  have hmul : (j + 1) * E.size ≤ n * E.size := Nat.mul_le_mul_right _ hj
  rw [Nat.add_mul, Nat.one_mul] at hmul
  have hk : Kp (· = g) w (wset w g (j * E.size) es) := wset_kp
  have hkr : ∀ {cs a}, E.R w S cs a → E.R (wset w g (j * E.size) es) S cs a := fun h => E.kept h hk (fun k hs _ e => hg (e ▸ hs))
  refine ⟨_, wset_blk h1, by rw [lset_length]; exact h2, by rw [List.length_set]; exact h3, fun i b hb => ?_⟩
  by_cases hij : i = j
  · subst hij
    rw [List.getElem?_set_self (by omega)] at hb
    injection hb with hb
    subst hb
    have e : ((lset cs (i * E.size) es).drop (i * E.size)).take E.size = es := by
      apply List.ext_getElem?
      intro k
      by_cases hk2 : k < E.size
      · rw [List.getElem?_take_of_lt hk2, List.getElem?_drop, lset_get (by omega), if_pos (by omega), Nat.add_sub_cancel_left]
      · rw [List.getElem?_eq_none (by rw [List.length_take]; omega), List.getElem?_eq_none (by omega)]
    rw [e]
    exact hkr hr
  · rw [List.getElem?_set_ne (fun e => hij e.symm)] at hb
    have hi : i < n := by have := (List.getElem?_eq_some_iff.1 hb).1; omega
    have hne : ∀ k, k < E.size → ¬ (j * E.size ≤ i * E.size + k ∧ i * E.size + k < j * E.size + es.length) := by
      intro k hk2 ⟨h5, h6⟩
      rcases Nat.lt_or_gt_of_ne hij with hlt | hlt
      · have := Nat.mul_le_mul_right E.size (show i + 1 ≤ j from hlt)
        rw [Nat.add_mul, Nat.one_mul] at this
        omega
      · have := Nat.mul_le_mul_right E.size (show j + 1 ≤ i from hlt)
        rw [Nat.add_mul, Nat.one_mul] at this
        omega
    have e : ((lset cs (j * E.size) es).drop (i * E.size)).take E.size = (cs.drop (i * E.size)).take E.size := by
      apply List.ext_getElem?
      intro k
      by_cases hk2 : k < E.size
      · rw [List.getElem?_take_of_lt hk2, List.getElem?_take_of_lt hk2, List.getElem?_drop, List.getElem?_drop, lset_get (by omega), if_neg (hne k hk2)]
      · rw [List.getElem?_eq_none (by rw [List.length_take]; omega), List.getElem?_eq_none (by rw [List.length_take]; omega)]
    rw [e]
    exact hkr (h4 i b hb)
theorem read (h : RowG E T w S g n l) {c : Nat} (hc : n ≤ c) (hm : c ≤ maxLen) : E.slice.R w (fun k => S k ∨ k = g) [.slice (some ⟨g, 0, none⟩) n c] l := by
  have hln : l.length = n := by obtain ⟨cs, _, _, h3, _⟩ := h; exact h3
  subst hln
  refine ⟨_, _, rfl, hc, hm, fun _ => ⟨_, rfl, .inr rfl, fun i a hi => ?_⟩⟩
  obtain ⟨es, h5, h6, h7⟩ := h.cells hi
  refine ⟨es, fun j u hu => ?_, E.more h6 (fun k hk => .inl hk)⟩
  show w.cell? (((⟨g, 0, none⟩ : Addr).add (i * E.size)).add j) = _
  rw [Addr.add_lit, Addr.add_lit]
  have := h7 j u hu
  simpa using this
end RowG
end

section
open Go.RowKit Go.ChangeShapes Go.WideShapes Go.ChangeAt

theorem run_load_opAt {w : World} {g o : Nat} {a : OpL} {A : Option Addr} {n c : Nat} (h : ∀ (k : Nat) u, (a.cells (.slice A n c))[k]? = some u → w.cell? ⟨g, o + k, none⟩ = some u) :
    (Instr.loadAt 58 (.pointer (some ⟨g, o, none⟩))).run Try.prog w = .ok (opV a (.slice A n c)) w := by
  have y0 : w.cell? ⟨g, o, none⟩ = some _ := h 0 _ rfl
  have y1 : w.cell? ⟨g, o + 1, none⟩ = some _ := h 1 _ rfl
  have y2 : w.cell? ⟨g, o + 2, none⟩ = some _ := h 2 _ rfl
  have y3 : w.cell? ⟨g, o + 3, none⟩ = some _ := h 3 _ rfl
  have y4 : w.cell? ⟨g, o + 4, none⟩ = some _ := h 4 _ rfl
  have y5 : w.cell? ⟨g, o + 5, none⟩ = some _ := h 5 _ rfl
  have y6 : w.cell? ⟨g, o + 6, none⟩ = some _ := h 6 _ rfl
  have y7 : w.cell? ⟨g, o + 7, none⟩ = some _ := h 7 _ rfl
  have y8 : w.cell? ⟨g, o + 8, none⟩ = some _ := h 8 _ rfl
  clear h
  unfold opV
  go_simp
theorem run_store_opAt (w : World) (g o : Nat) (a : OpL) (A : Option Addr) (n c : Nat) (b : OpL) (v : Value) (h : ∀ (k : Nat) u, (b.cells v)[k]? = some u → w.cell? ⟨g, o + k, none⟩ = some u) (hf : ∀ p, w.frozen? ⟨g, p, none⟩ = false) :
    (Instr.storeAt 58 (.pointer (some ⟨g, o, none⟩)) (opV a (.slice A n c))).run Try.prog w = .ok () (wset w g o (a.cells (.slice A n c))) := by
  have y0 : w.cell? ⟨g, o, none⟩ = some _ := h 0 _ rfl
  have y1 : w.cell? ⟨g, o + 1, none⟩ = some _ := h 1 _ rfl
  have y2 : w.cell? ⟨g, o + 2, none⟩ = some _ := h 2 _ rfl
  have y3 : w.cell? ⟨g, o + 3, none⟩ = some _ := h 3 _ rfl
  have y4 : w.cell? ⟨g, o + 4, none⟩ = some _ := h 4 _ rfl
  have y5 : w.cell? ⟨g, o + 5, none⟩ = some _ := h 5 _ rfl
  have y6 : w.cell? ⟨g, o + 6, none⟩ = some _ := h 6 _ rfl
  have y7 : w.cell? ⟨g, o + 7, none⟩ = some _ := h 7 _ rfl
  have y8 : w.cell? ⟨g, o + 8, none⟩ = some _ := h 8 _ rfl
  clear h
  unfold opV
  go_simp
  rfl
/-- turned around so far -/
def RevAt (n k : Nat) (l L : List OpL) : Prop := L.length = n ∧ ∀ p, p < n → L[p]? = if p < k ∨ n - k ≤ p then l[n - 1 - p]? else l[p]?
theorem RevAt.zero {l : List OpL} : RevAt l.length 0 l l := ⟨rfl, fun p hp => by rw [if_neg (by omega)]⟩
theorem RevAt.step {n k : Nat} {l L : List OpL} (h : RevAt n k l L) (hk : k < n - 1 - k) {x y : OpL} (hx : L[k]? = some x) (hy : L[n - 1 - k]? = some y) : RevAt n (k + 1) l ((L.set k y).set (n - 1 - k) x) := by
  obtain ⟨h1, h2⟩ := h
  have hxk := h2 k (by omega)
  have hyk := h2 (n - 1 - k) (by omega)
  rw [if_neg (by omega), hx] at hxk
  rw [if_neg (by omega), hy] at hyk
  refine ⟨by simp [h1], fun p hp => ?_⟩
  by_cases e1 : p = n - 1 - k
  · subst e1
    rw [List.getElem?_set_self (by simp [h1]; omega), if_pos (by omega), show n - 1 - (n - 1 - k) = k by omega, ← hxk]
  · rw [List.getElem?_set_ne (fun e => e1 e.symm)]
    by_cases e2 : p = k
    · subst e2
      rw [List.getElem?_set_self (by omega), if_pos (by omega), ← hyk]
    · rw [List.getElem?_set_ne (fun e => e2 e.symm), h2 p hp]
      by_cases e3 : p < k ∨ n - k ≤ p
      · rw [if_pos e3, if_pos (by omega)]
      · rw [if_neg e3, if_neg (by omega)]
theorem RevAt.full {n k : Nat} {l L : List OpL} (h : RevAt n k l L) (hl : l.length = n) (hk : n - 1 - k ≤ k) : L = l.reverse := by
  obtain ⟨h1, h2⟩ := h
  apply List.ext_getElem?
  intro p
  by_cases hp : p < n
  · rw [h2 p hp, List.getElem?_reverse (by omega), hl]
    by_cases e : p < k ∨ n - k ≤ p
    · rw [if_pos e]
    · rw [if_neg e, show n - 1 - p = p by omega]
  · rw [List.getElem?_eq_none (by omega), List.getElem?_eq_none (by rw [List.length_reverse]; omega)]
set_option maxRecDepth 100000 in
theorem m_rev0 (c : Nat) (A : Option Addr) (w : World) : Calls Try.prog 42 #[.slice A 0 c] w fun e w' => e = .returned (.tuple #[]) ∧ w' = w := by
  go_enter Try.func42, Try.ntmps42
  go_wp2_with fail
  go_loopw [2, 3] (fun iv jv wr => iv = .int .i64 0 ∧ jv = .int .i64 (-1) ∧ wr = w) (fun _ _ _ => 0)
  case atStart => exact ⟨rfl, rfl, rfl⟩
  case round =>
    obtain ⟨rfl, rfl, rfl⟩ := hrel
    go_wp2_with fail
    go_end0
    exact ⟨rfl, rfl⟩
set_option maxRecDepth 100000 in
set_option maxHeartbeats 4000000 in
theorem m_rev (l : List OpL) (n g c : Nat) (S : Nat → Prop) (w : World) (hn : n ≤ 1000000) (hr : RowG Rp.opl 58 w S g n l) (hg : ¬ S g) (hp : 0 < n) :
    Calls Try.prog 42 #[.slice (some ⟨g, 0, none⟩) n c] w fun e w' => e = .returned (.tuple #[]) ∧ RowG Rp.opl 58 w' S g n l.reverse ∧ Kp (· = g) w w' := by
  have hln : l.length = n := by obtain ⟨cs, _, _, h3, _⟩ := hr; exact h3
  have HR := Lib.hid hr
  have hrv : RevAt n 0 l l := by rw [← hln]; exact RevAt.zero
  have HRV := Lib.hid hrv
  have HG := Lib.hid hg
  clear hr hrv hg
  go_enter Try.func42, Try.ntmps42
  go_wp2_with fail
  go_loopw [2, 3] (fun iv jv wr => ∃ (k : Nat) (L : List OpL), k ≤ n ∧ iv = .int .i64 (k : Int) ∧ jv = .int .i64 ((n : Int) - 1 - (k : Int)) ∧ Hid (RowG Rp.opl 58 wr S g n L) ∧ Hid (RevAt n k l L) ∧ Hid (Kp (· = g) w wr)) (fun iv _ _ => n - (intOf iv).toNat)
  case atStart => exact ⟨0, l, Nat.zero_le _, rfl, by simp, HR, HRV, Lib.hid (Kp.refl _ _)⟩
  case round =>
    clear HR HRV
    obtain ⟨k, L, hk, rfl, rfl, HR, HRV, HKR⟩ := hrel
    by_cases hlt : k < n - 1 - k
    · have hli : (k : Int) < (n : Int) - 1 - (k : Int) := by omega
      obtain ⟨x, hx⟩ : ∃ x, L[k]? = some x := ⟨_, List.getElem?_eq_getElem (by rw [HRV.out.1]; omega)⟩
      obtain ⟨y, hy⟩ : ∃ y, L[n - 1 - k]? = some y := ⟨_, List.getElem?_eq_getElem (by rw [HRV.out.1]; omega)⟩
      obtain ⟨q, hq⟩ : ∃ q, n - 1 - k = q := ⟨_, rfl⟩
      have hqi : (n : Int) - 1 - (k : Int) = (q : Int) := by omega
      rw [hqi] at hli ⊢
      obtain ⟨wd, hwd⟩ : ∃ v, wr.drew = v := ⟨_, rfl⟩
      have hkd : Kp No wr wd := by rw [← hwd]; exact (Kp.refl _ _).drew
      have hrd := HR.out.keptNo hkd
      rw [hq] at hy
      obtain ⟨ex, _, hrx, hcx⟩ := hrd.cells hx
      obtain ⟨ey, _, hry, hcy⟩ := hrd.cells hy
      obtain ⟨hvx, rfl, hnx, Ax, cx, hvx2, hhx⟩ := id hrx
      obtain ⟨hvy, rfl, hny, Ay, cy, hvy2, hhy⟩ := id hry
      simp only [List.cons.injEq, and_true] at hvx2 hvy2
      subst hvx2 hvy2
      have hs1 := run_store_opAt wd g (k * 9) y Ay y.hashes.length cy x _ hcx hrd.fr
      have hr1 := hrd.set HG.out (j := k) (show k < n by omega) hry
      have hk1 : Kp (· = g) wd (wset wd g (k * 9) (y.cells (.slice Ay y.hashes.length cy))) := wset_kp
      obtain ⟨w1, hw1⟩ : ∃ v, wset wd g (k * 9) (y.cells (.slice Ay y.hashes.length cy)) = v := ⟨_, rfl⟩
      rw [show k * Rp.opl.size = k * 9 from rfl, hw1] at hr1
      rw [hw1] at hs1 hk1
      have hqk : q ≠ k := by omega
      have hqn : q < n := by omega
      obtain ⟨ez, _, hrz, hcz⟩ := hr1.cells (show (L.set k y)[q]? = some y by rw [List.getElem?_set_ne (fun e => hqk e.symm)]; exact hy)
      obtain ⟨hvz, rfl, _, Az, cz, hvz2, _⟩ := id hrz
      have hs2 := run_store_opAt w1 g (q * 9) x Ax x.hashes.length cx y _ hcz hr1.fr
      have hrx1 : Rp.opl.R w1 S (x.cells (.slice Ax x.hashes.length cx)) x := Rp.opl.kept hrx hk1 (fun k hk _ e => HG.out (e ▸ hk))
      have hr2 := hr1.set HG.out hqn hrx1
      have hk2 : Kp (· = g) w1 (wset w1 g (q * 9) (x.cells (.slice Ax x.hashes.length cx))) := wset_kp
      obtain ⟨w2, hw2⟩ : ∃ v, wset w1 g (q * 9) (x.cells (.slice Ax x.hashes.length cx)) = v := ⟨_, rfl⟩
      rw [show q * Rp.opl.size = q * 9 from rfl, hw2] at hr2
      rw [hw2] at hs2 hk2
      have hstep := HRV.out.step hlt hx (by rw [hq]; exact hy)
      rw [hq] at hstep
      have HS1 := Lib.hid hs1
      have HS2 := Lib.hid hs2
      have HR2 := Lib.hid hr2
      have HSTEP := Lib.hid hstep
      have HK2 : Hid (Kp (· = g) w w2) := Lib.hid (((HKR.out.trans hkd.any (fun _ _ h => h)).trans hk1 (fun _ _ h => h)).trans hk2 (fun _ _ h => h))
      have x0 : wd.cell? ⟨g, k * 9, none⟩ = some _ := hcx 0 _ rfl
      have x1 : wd.cell? ⟨g, k * 9 + 1, none⟩ = some _ := hcx 1 _ rfl
      have x2 : wd.cell? ⟨g, k * 9 + 2, none⟩ = some _ := hcx 2 _ rfl
      have x3 : wd.cell? ⟨g, k * 9 + 3, none⟩ = some _ := hcx 3 _ rfl
      have x4 : wd.cell? ⟨g, k * 9 + 4, none⟩ = some _ := hcx 4 _ rfl
      have x5 : wd.cell? ⟨g, k * 9 + 5, none⟩ = some _ := hcx 5 _ rfl
      have x6 : wd.cell? ⟨g, k * 9 + 6, none⟩ = some _ := hcx 6 _ rfl
      have x7 : wd.cell? ⟨g, k * 9 + 7, none⟩ = some _ := hcx 7 _ rfl
      have x8 : wd.cell? ⟨g, k * 9 + 8, none⟩ = some _ := hcx 8 _ rfl
      have y0 : wd.cell? ⟨g, q * 9, none⟩ = some _ := hcy 0 _ rfl
      have y1 : wd.cell? ⟨g, q * 9 + 1, none⟩ = some _ := hcy 1 _ rfl
      have y2 : wd.cell? ⟨g, q * 9 + 2, none⟩ = some _ := hcy 2 _ rfl
      have y3 : wd.cell? ⟨g, q * 9 + 3, none⟩ = some _ := hcy 3 _ rfl
      have y4 : wd.cell? ⟨g, q * 9 + 4, none⟩ = some _ := hcy 4 _ rfl
      have y5 : wd.cell? ⟨g, q * 9 + 5, none⟩ = some _ := hcy 5 _ rfl
      have y6 : wd.cell? ⟨g, q * 9 + 6, none⟩ = some _ := hcy 6 _ rfl
      have y7 : wd.cell? ⟨g, q * 9 + 7, none⟩ = some _ := hcy 7 _ rfl
      have y8 : wd.cell? ⟨g, q * 9 + 8, none⟩ = some _ := hcy 8 _ rfl
      have hkn : (k : Int) < (n : Int) := by omega
      have hqnI : (q : Int) < (n : Int) := by omega
      unfold opV at hs1 hs2
      have HS1 := Lib.hid hs1
      have HS2 := Lib.hid hs2
      clear hkd hrd hcx hcy hcz hrx hry hrz hs1 hs2 hr1 hr2 hrx1 hk1 hk2 hstep hnx hny hhx hhy hw1 hw2 hx hy
      go_wp2_with fail
      refine Reg.wp_region_plan [⟨0, false, []⟩, ⟨1, false, []⟩, ⟨2, false, []⟩, ⟨3, false, []⟩, ⟨4, false, []⟩, ⟨5, false, []⟩, ⟨6, false, []⟩, ⟨7, false, []⟩, ⟨8, false, []⟩, ⟨9, false, []⟩, ⟨10, false, []⟩, ⟨11, false, []⟩, ⟨12, false, []⟩, ⟨13, true, []⟩, ⟨14, false, []⟩, ⟨15, true, []⟩] rfl (by kernel_rfl) ?_
      rw [hwd]
      clear hwd
      repeat (first | (refine Reg.look rfl rfl rfl (by go_simp; rfl) rfl ?_; go_simp) | (refine Reg.skip rfl rfl rfl ?_; go_simp))
      refine Reg.act rfl ?_
      go_wp2_with (refine wpl_store (by first | rfl | go_simp) 58 _ _ rfl _ _ (by go_simp) (by go_simp) HS1.out ?_; go_simp)
      (refine ⟨?anew, ?_⟩; case anew => ((repeat (refine Reg.anew_cons rfl rfl (fun _ => by go_simp) ?_)); exact Reg.anew_nil))
      repeat (first | (refine Reg.look rfl rfl rfl (by go_simp; rfl) rfl ?_; go_simp) | (refine Reg.skip rfl rfl rfl ?_; go_simp))
      refine Reg.act rfl ?_
      go_wp2_with (refine wpl_store (by first | rfl | go_simp) 58 _ _ rfl _ _ (by go_simp) (by go_simp) HS2.out ?_; go_simp)
      (refine ⟨?anew, ?_⟩; case anew => ((repeat (refine Reg.anew_cons rfl rfl (fun _ => by go_simp) ?_)); exact Reg.anew_nil))
      repeat (first | (refine Reg.look rfl rfl rfl (by go_simp; rfl) rfl ?_; go_simp) | (refine Reg.skip rfl rfl rfl ?_; go_simp))
      (refine Reg.done ?_; simp only [Exit.then])
      go_wp2_with fail
      go_roundw
      case rel => exact ⟨k + 1, _, by omega, by go_num, by (simp only [Value.int.injEq, true_and]; omega), HR2, HSTEP, HK2⟩
      case measure => simp [intOf]; omega
    · have hli : ¬ (k : Int) < (n : Int) - 1 - (k : Int) := by omega
      have HRE := Lib.hid (HRV.out.full hln (by omega))
      go_wp2_with fail
      go_end0
      exact ⟨rfl, by rw [← HRE.out]; exact HR.out, HKR.out⟩
end
end Go.Proofs.Ytamfgmlhopjppaa
