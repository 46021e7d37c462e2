/-
  Put together: ModA, ModB, Mod1, ModM, ShtA, PlyA.
-/
import Derived.Test.YtamfgmlhopjppaaGreatGB
import Derived.DeepKeys3
import Derived.Laws.MakeOwn
import Derived.Test.YtamfgmlhopjppaaGreatShelf
import Derived.Test.YtamfgmlhopjppaaGreatGC
import Derived.BigQuiet
import Derived.Test.YtamfgmlhopjppaaGreatGE
import Derived.Test.YtamfgmlhopjppaaGreatGA
namespace Go.Proofs.YtamfgmlhopjppaaGreat
section
open Go.RowKit Go.ChangeShapes Go.WideShapes Go.ChangeAt

def spotV (p : Int × Int) : Value := .agg #[.int .i64 p.1, .int .i64 p.2]
theorem run_spot_eq (a b : Int × Int) (w : World) : (Op.equal 42 (spotV a) (spotV b)).run Tryz.prog w = .ok (decide (a = b)) w := by
  obtain ⟨a1, a2⟩ := a
  obtain ⟨b1, b2⟩ := b
  unfold spotV
  show (Op.equalIn 10000 _ _ _).run _ _ = _
  by_cases h1 : a1 = b1
  · by_cases h2 : a2 = b2
    · subst h1 h2
      simp only [decide_true]
      go_simp
    · have e : decide ((a1, a2) = (b1, b2)) = false := by simp [h1, h2]
      rw [e]
      have hb : (a2 == b2) = false := beq_eq_false_iff_ne.2 h2
      subst h1
      go_simp
  · have e : decide ((a1, a2) = (b1, b2)) = false := by simp [h1]
    rw [e]
    have hb : (a1 == b1) = false := beq_eq_false_iff_ne.2 h1
    go_simp
theorem int_check (b : Bool) (x : Int) (w : World) : (Instr.checkKey b 9999 3 (.int .i64 x)).run Tryz.prog w = .ok () w := by
  show (Instr.checkKey b (9998 + 1) _ _).run _ _ = _
  unfold Instr.checkKey
  simp [run_underlying Tryz.underlying3]
theorem spot_check (b : Bool) (k : Int × Int) (w : World) : (Instr.checkKey b 10000 42 (spotV k)).run Tryz.prog w = .ok () w := by
  obtain ⟨k1, k2⟩ := k
  show (Instr.checkKey b (9999 + 1) _ _).run _ _ = _
  unfold Instr.checkKey spotV
  have h1 := int_check b k1 w
  have h2 := int_check b k2 w
  simp only [Sem.run_bind, run_underlying Tryz.underlying42, Result.andThen_ok]
  go_simp
theorem findAsking_spot (k : Int × Int) : ∀ (l : List ((Int × Int) × Value)) (es : List MapEntry) (i : Nat) (w : World), es.map (fun e => (e.key, e.val)) = l.map (fun p => (spotV p.1, p.2)) →
    (Instr.findAsking 42 (spotV k) es i).run Tryz.prog w = .ok ((findIx k l).map fun x => (x.1 + i, x.2)) w
  | [], [], i, w, _ => rfl
  | [], _ :: _, _, _, h => by cases h
  | _ :: _, [], _, _, h => by cases h
  | (k', v) :: l, e :: es, i, w, h => by
    simp only [List.map_cons, List.cons.injEq, Prod.mk.injEq] at h
    obtain ⟨⟨h1, h2⟩, h3⟩ := h
    unfold Instr.findAsking
    simp only [Sem.run_bind, h1, run_spot_eq, Result.andThen_ok]
    by_cases hk : k = k'
    · simp [hk, findIx, h2]
    · simp only [hk, decide_false, Bool.false_eq_true, if_false]
      rw [findAsking_spot k l es (i + 1) w h3]
      simp only [findIx, if_neg hk, Option.map_map]
      congr 1
      congr 1
      funext x
      simp only [Function.comp, Prod.mk.injEq, and_true]
      omega
theorem spot_key : KeyOk Tryz.prog 42 spotV where
  inj a b h := by
    obtain ⟨a1, a2⟩ := a
    obtain ⟨b1, b2⟩ := b
    unfold spotV at h
    simp at h
    rw [h.1, h.2]
  check := spot_check
  find k l es w h := by
    rw [run_findKey_eq w (by rw [Tryz.underlying42])]
    have := findAsking_spot k l es 0 w h
    rw [this]
    simp
  stays k w := by
    unfold Instr.keyThatStays spotV
    have : Instr.sameBits 10000 (.agg #[.int .i64 k.1, .int .i64 k.2]) (.agg #[.int .i64 k.1, .int .i64 k.2]) = true := by
      show Instr.sameBits (9999 + 1) _ _ = true
      simp [Instr.sameBits]
    rw [this]
    simp
end

section
open Go.RowKit Go.ChangeShapes Go.WideShapes Go.ChangeAt

structure LineL where
  op : OpL
  an : Int
  ae : Int
namespace LineL
def cells (a : LineL) (hv : Value) : List Value := a.op.cells hv ++ [.int .i64 a.an, .int .i64 a.ae]
def nums (a : LineL) : Prop := a.op.nums ∧ I64 a.an ∧ I64 a.ae
def place (a : LineL) : Int × Int := (a.op.n, a.op.epoch)
end LineL
def lineV (a : LineL) (hv : Value) : Value := .agg #[.int .i64 a.op.n, .int .i64 a.op.epoch, .int .i64 a.op.kind, .int .i64 a.op.site, .int .i64 a.op.client, .int .i64 a.op.seq, .string a.op.name, .int .i64 a.op.size, hv, .int .i64 a.an, .int .i64 a.ae]
def Rp.line : Rp LineL where
  size := 11
  R w S cs a := ∃ hv, cs = a.cells hv ∧ a.nums ∧ Rp.str.slice.R w S [hv] a.op.hashes
  μ a := Rp.opl.μ a.op
  pos := by omega
  len := by rintro w S cs a ⟨hv, rfl, _⟩; rfl
  keep := by
    rintro w w' S S' cs a hs hk ⟨hv, rfl, h1, h2⟩
    exact ⟨hv, rfl, h1, Rp.str.slice.keep hs hk h2⟩
  bnd := by
    rintro w S cs a ⟨hv, rfl, h1, h2⟩
    exact ⟨hv, rfl, h1, Rp.str.slice.bnd h2⟩
theorem Rp.at_line {w : World} {S : Nat → Prop} {A : Option Addr} {c : Nat} {l : List LineL} (h : Rp.line.slice.R w S [.slice A l.length c] l) {i : Nat} {x : LineL} (hi : l[i]? = some x) :
    ∃ ad A' c', A = some ad ∧ S ad.block ∧ (∀ (j : Nat) u, (x.cells (.slice A' x.op.hashes.length c'))[j]? = some u → w.cell? ((ad.add (i * 11)).add j) = some u) ∧ x.nums ∧ Rp.str.slice.R w S [.slice A' x.op.hashes.length c'] x.op.hashes := by
  obtain ⟨A2, c2, he, _, _, h3⟩ := h
  simp only [List.cons.injEq, Value.slice.injEq, and_true, true_and] at he
  obtain ⟨rfl, rfl⟩ := he
  have hl : 0 < l.length := by have := (List.getElem?_eq_some_iff.1 hi).1; omega
  obtain ⟨ad, rfl, hb, hc⟩ := h3 hl
  obtain ⟨es, he, hv, rfl, hn, h1⟩ := hc i x hi
  obtain ⟨A', c', e1, _⟩ := id h1
  simp only [List.cons.injEq, and_true] at e1
  subst e1
  exact ⟨ad, A', c', rfl, hb, fun j u hu => he j u hu, hn, h1⟩
theorem line_cells {w : World} {ad : Addr} {t : LineL} {hv : Value} (h : ∀ (j : Nat) u, (t.cells hv)[j]? = some u → w.cell? (ad.add j) = some u) :
    w.cell? ad = some (.int .i64 t.op.n) ∧ w.cell? ⟨ad.block, ad.off + 1, none⟩ = some (.int .i64 t.op.epoch) ∧ w.cell? ⟨ad.block, ad.off + 2, none⟩ = some (.int .i64 t.op.kind) ∧ w.cell? ⟨ad.block, ad.off + 3, none⟩ = some (.int .i64 t.op.site) ∧
    w.cell? ⟨ad.block, ad.off + 4, none⟩ = some (.int .i64 t.op.client) ∧ w.cell? ⟨ad.block, ad.off + 5, none⟩ = some (.int .i64 t.op.seq) ∧ w.cell? ⟨ad.block, ad.off + 6, none⟩ = some (.string t.op.name) ∧ w.cell? ⟨ad.block, ad.off + 7, none⟩ = some (.int .i64 t.op.size) ∧ w.cell? ⟨ad.block, ad.off + 8, none⟩ = some hv ∧
    w.cell? ⟨ad.block, ad.off + 9, none⟩ = some (.int .i64 t.an) ∧ w.cell? ⟨ad.block, ad.off + 10, none⟩ = some (.int .i64 t.ae) :=
  ⟨h 0 _ rfl, h 1 _ rfl, h 2 _ rfl, h 3 _ rfl, h 4 _ rfl, h 5 _ rfl, h 6 _ rfl, h 7 _ rfl, h 8 _ rfl, h 9 _ rfl, h 10 _ rfl⟩
/-- several stores in a row -/
def wset (w : World) (g o : Nat) : List Value → World
  | [] => w
  | v :: vs => wset (w.setCell ⟨g, o, none⟩ v) g (o + 1) vs
def lset (cs : List Value) (o : Nat) : List Value → List Value
  | [] => cs
  | v :: vs => lset (cs.set o v) (o + 1) vs
theorem wset_blk {g : Nat} {T : TypeId} : ∀ {vs : List Value} {w : World} {cs : List Value} {o : Nat}, Blk w g T cs → Blk (wset w g o vs) g T (lset cs o vs)
  | [], _, _, _, h => h
  | v :: vs, _, _, o, h => wset_blk (vs := vs) (Blk.set h o v)
theorem wset_kp {g : Nat} : ∀ {vs : List Value} {w : World} {o : Nat}, Kp (· = g) w (wset w g o vs)
  | [], _, _ => Kp.refl _ _
  | v :: vs, w, o => ((Kp.refl (· = g) w).setCell (p := ⟨g, o, none⟩) (fun _ => rfl) v).trans' (wset_kp (vs := vs))
theorem lset_length : ∀ {vs cs : List Value} {o : Nat}, (lset cs o vs).length = cs.length
  | [], _, _ => rfl
  | v :: vs, cs, o => by unfold lset; rw [lset_length]; simp
theorem lset_get : ∀ {vs cs : List Value} {o p : Nat}, o + vs.length ≤ cs.length → (lset cs o vs)[p]? = if o ≤ p ∧ p < o + vs.length then vs[p - o]? else cs[p]?
  | [], cs, o, p, h => by
    unfold lset
    rw [if_neg (by simp)]
  | v :: vs, cs, o, p, h => by
    unfold lset
    simp only [List.length_cons] at h ⊢
    rw [lset_get (by simp; omega)]
    by_cases h1 : o + 1 ≤ p ∧ p < o + 1 + vs.length
    · rw [if_pos h1, if_pos (by omega)]
      obtain ⟨q, hq⟩ : ∃ q, p - o = q + 1 := ⟨p - o - 1, by omega⟩
      rw [hq, List.getElem?_cons_succ]
      congr 1
      omega
    · rw [if_neg h1]
      by_cases h2 : p = o
      · subst h2
        rw [if_pos (by omega), Nat.sub_self, List.getElem?_cons_zero, List.getElem?_set_self (by omega)]
      · rw [if_neg (by omega), List.getElem?_set_ne (by omega)]
namespace LnAt
variable {w w' : World} {S T : Nat → Prop} {g n : Nat} {l : List LineL}
end LnAt
def linedL : Int × Int → List OpL → List LineL
  | _, [] => []
  | p, o :: l => ⟨o, p.1, p.2⟩ :: linedL (o.n, o.epoch) l
def lastP (p : Int × Int) (l : List OpL) : Int × Int := match l.getLast? with
  | none => p
  | some o => (o.n, o.epoch)
theorem linedL_length : ∀ (l : List OpL) (p : Int × Int), (linedL p l).length = l.length
  | [], _ => rfl
  | o :: l, p => by unfold linedL; simp [linedL_length l]
theorem linedL_snoc : ∀ (l : List OpL) (p : Int × Int) (o : OpL), linedL p (l ++ [o]) = linedL p l ++ [⟨o, (lastP p l).1, (lastP p l).2⟩]
  | [], p, o => rfl
  | x :: l, p, o => by
    show _ :: linedL _ (l ++ [o]) = _ :: linedL _ l ++ _
    rw [linedL_snoc l]
    cases l with
    | nil => rfl
    | cons y l =>
      cases hz : (y :: l).getLast? with
      | none => simp at hz
      | some z =>
        simp only [lastP, List.getLast?_cons_cons, hz]
        rfl
theorem lastP_snoc (p : Int × Int) (l : List OpL) (o : OpL) : lastP p (l ++ [o]) = (o.n, o.epoch) := by simp [lastP]
theorem lastP_I64 {l : List OpL} (h : ∀ o ∈ l, o.nums) : I64 (lastP (0, 0) l).1 ∧ I64 (lastP (0, 0) l).2 := by
  unfold lastP
  cases hl : l.getLast? with
  | none => exact ⟨rfl, rfl⟩
  | some o =>
    have := h o (List.mem_of_getLast? hl)
    exact ⟨this.1, this.2.1⟩
theorem opl_nums {w : World} {S : Nat → Prop} {A : Option Addr} {c : Nat} {l : List OpL} (h : Rp.opl.slice.R w S [.slice A l.length c] l) : ∀ o ∈ l, o.nums := fun o ho => by
  obtain ⟨i, hi⟩ := List.getElem?_of_mem ho
  obtain ⟨_, _, _, _, _, _, hn, _⟩ := Rp.at_opl h hi
  exact hn
end

section
open Go.RowKit Go.ChangeShapes Go.WideShapes Go.ChangeAt

theorem str_cells {w : World} {S : Nat → Prop} {b o c : Nat} {l : List ByteArray} (h : Rp.str.slice.R w S [.slice (some ⟨b, o, none⟩) l.length c] l) : ∀ j, j < l.length → w.cell? ⟨b, o + j, none⟩ = some (.string (l.getD j ByteArray.empty)) := fun j hj => by
  obtain ⟨ad, hA, _, hc, _⟩ := Rp.at_str h (List.getElem?_eq_getElem hj)
  injection hA with hA
  subst hA
  rw [List.getD_eq_getElem?_getD, List.getElem?_eq_getElem hj, Option.getD_some]
  rcases j with _ | j
  · exact hc
  · exact hc
theorem str_off {w : World} {S : Nat → Prop} {A : Option Addr} {c : Nat} {l : List ByteArray} (h : Rp.str.slice.R w S [.slice A l.length c] l) (hp : 0 < l.length) : ∃ b o, A = some ⟨b, o, none⟩ := by
  obtain ⟨ad, hA, _, hc, _⟩ := Rp.at_str h (List.getElem?_eq_getElem hp)
  obtain ⟨b, o, p⟩ := ad
  cases p with
  | none => exact ⟨b, o, hA⟩
  | some p =>
    have h0 : w.cell? ⟨b, o, some p⟩ = some (.string l[0]) := hc
    unfold World.cell? at h0
    split at h0
    · simp at h0
    · cases h0
set_option maxRecDepth 100000 in
theorem c_equalS (l m : List ByteArray) (A B : Option Addr) (c d : Nat) (w : World) (S T : Nat → Prop) (hl : Rp.str.slice.R w S [.slice A l.length c] l) (hm : Rp.str.slice.R w T [.slice B m.length d] m) :
    Calls Tryz.prog 80 #[.slice A l.length c, .slice B m.length d] w fun e w' => e = .returned (.bool (decide (l = m))) ∧ Kp No w w' := by
  have h1 : l.length ≤ maxLen := by obtain ⟨_, _, he, h1, h2, _⟩ := hl; simp only [List.cons.injEq, Value.slice.injEq, and_true] at he; omega
  have h2 : m.length ≤ maxLen := by obtain ⟨_, _, he, h1, h2, _⟩ := hm; simp only [List.cons.injEq, Value.slice.injEq, and_true] at he; omega
  unfold maxLen at h1 h2
  by_cases hn : l.length = m.length
  · rcases Nat.eq_zero_or_pos l.length with h0 | h0
    · have e1 : l = [] := List.eq_nil_of_length_eq_zero h0
      have e2 : m = [] := List.eq_nil_of_length_eq_zero (by omega)
      subst e1 e2
      refine (sh_slices_Equal_string_empty A B c 0 d w (by omega)).mono ?_
      rintro e w' ⟨rfl, rfl⟩
      exact ⟨rfl, Kp.refl _ _⟩
    · obtain ⟨b1, o1, rfl⟩ := str_off hl h0
      obtain ⟨b2, o2, rfl⟩ := str_off hm (by omega)
      refine (sh_slices_Equal_string b1 o1 l.length c b2 o2 m.length d l m w (Nat.le_refl _) (Nat.le_refl _) (by omega) (by omega) (str_cells hl) (str_cells hm)).mono ?_
      rintro e w' ⟨rfl, q, rfl⟩
      rw [List.take_length, List.take_length]
      exact ⟨rfl, (Kp.refl _ _).drewN _⟩
  · have hne : decide (l = m) = false := decide_eq_false (fun e => hn (congrArg _ e))
    rw [hne]
    have hnb : ((l.length : Int) == (m.length : Int)) = false := beq_eq_false_iff_ne.2 (by omega)
    have hnb2 : ((l.length : Int) != (m.length : Int)) = true := by rw [bne, hnb]; rfl
    clear hl hm hne
    go_enter Tryz.func80, Tryz.ntmps80
    go_wp2_with fail
    go_ret
    exact ⟨rfl, Kp.refl _ _⟩
def EqP (a b : OpL) : Prop := a.kind = b.kind ∧ a.site = b.site ∧ a.client = b.client ∧ a.seq = b.seq ∧ a.name = b.name ∧ a.size = b.size ∧ a.hashes = b.hashes
instance (a b : OpL) : Decidable (EqP a b) := by unfold EqP; exact inferInstance
end

section
open Go.RowKit Go.ChangeShapes Go.WideShapes Go.ChangeAt

structure AskL where
  kind : Int
  client : Int
  seq : Int
  name : ByteArray
  data : ByteArray
  mode : Int
  lag : Int
namespace AskL
def cells (a : AskL) : List Value := [.int .i64 a.kind, .int .i64 a.client, .int .i64 a.seq, .string a.name, .string a.data, .int .i64 a.mode, .int .i64 a.lag]
def nums (a : AskL) : Prop := I64 a.kind ∧ I64 a.client ∧ I64 a.seq ∧ a.name.size ≤ maxLen ∧ a.data.size ≤ maxLen ∧ I64 a.mode ∧ I64 a.lag
end AskL
def Rp.ask : Rp AskL where
  size := 7
  R _ _ cs a := cs = a.cells ∧ a.nums
  μ a := a.name.size + a.data.size + 1
  pos := by omega
  len := by rintro w S cs a ⟨rfl, _⟩; rfl
  keep := by
    rintro w w' S S' cs a hs hk ⟨rfl, h⟩
    exact ⟨rfl, h⟩
  bnd := by
    rintro w S cs a ⟨rfl, h⟩
    exact ⟨rfl, h⟩
structure MV where
  lines : List ((Int × Int) × LineL)
  asks : List AskL
def clash (ls : List ((Int × Int) × LineL)) (l : LineL) : Bool := match mget l.place ls with
  | none => false
  | some was => !(decide ((was.an, was.ae) = (l.an, l.ae)) && decide (EqP was.op l.op))
def putAll (ls : List ((Int × Int) × LineL)) (m : List LineL) : List ((Int × Int) × LineL) := m.foldl (fun ls l => mput l.place l ls) ls
theorem putAll_snoc (ls : List ((Int × Int) × LineL)) (m : List LineL) (l : LineL) : putAll ls (m ++ [l]) = mput l.place l (putAll ls m) := by simp [putAll, List.foldl_append]
def seeL (ops : List OpL) (M : MV) : Int × MV :=
  if rowB 0 0 ops = false then (3, M)
  else if (linedL (0, 0) ops).any (clash M.lines) = true then (200, M)
  else (0, { M with lines := putAll M.lines (linedL (0, 0) ops) })
def MFoot (m b : Nat) (av : Value) (S : Nat → Prop) (k : Nat) : Prop := k = m ∨ k = b ∨ av.ownBlock = some k ∨ S k
theorem MapRp.bnd {κ α : Type} [DecidableEq κ] {E : Rp α} {w : World} {S : Nat → Prop} {b : Nat} {enc : κ → Value} {l : List (κ × α)} (h : MapRp E w S b enc l) : MapRp E w (fun k => S k ∧ k < w.heap.size) b enc l := by
  obtain ⟨lv, h1, h2, h3⟩ := h
  refine ⟨lv, h1, h2, fun k a ha => ?_⟩
  obtain ⟨cs, h4, h5⟩ := h3 k a ha
  exact ⟨cs, h4, E.bnd h5⟩
namespace MIn
variable {w w' : World} {m b : Nat} {av : Value} {S T : Nat → Prop} {M : MV}
end MIn
namespace MAt
variable {w w' : World} {m : Nat} {M : MV} {F T : Nat → Prop}
end MAt
/-- what a model may hold -/
structure OkM (M : MV) : Prop where
  key : ∀ p l, mget p M.lines = some l → p = l.place
  low : ∀ p l, mget p M.lines = some l → 1 ≤ p.1 ∧ p.1 ≤ 1000000
  ahead : ∀ p l, mget p M.lines = some l → l.an = p.1 - 1
  hashes : ∀ p l, mget p M.lines = some l → l.op.hashes.length ≤ 1000000
end

section
open Go.RowKit Go.ChangeShapes Go.WideShapes Go.ChangeAt

/-- readings of a whole value -/
structure Rd (α : Type) where
  R : World → (Nat → Prop) → List Value → α → Prop
  μ : α → Nat
/-- a sheet: a number and texts -/
def Rd.sheet : Rd (Int × List ByteArray) where
  R w S cs a := ∃ A c, cs = [.agg #[.int .i64 a.1, .slice A a.2.length c]] ∧ (Lit.int .i64 a.1).wf = true ∧ Rp.str.slice.R w S [.slice A a.2.length c] a.2
  μ a := Rp.str.slice.μ a.2
theorem sheet_arg {P : Program} {t : TypeId} {f0 f1 : Field} (ht : P.underlying t = some (.struct #[f0, f1])) (h0 : f0.offset = 0) (h1 : f1.offset = 1) (hc0 : P.cellsOf f0.type = 1) (hc1 : P.cellsOf f1.type = 1) (hi : P.underlying f0.type = some (.int .i64)) (ha : Arg P f1.type Rp.str.slice) (hc : P.cellsOf t = 2)
    {H : Type} {enc : TypeId × Value → H} {w : World} {spare : Nat → Bool} {held : Bool} {r : Reach} {base : Nat} {v : Value} {d : DataW H} {p : List MemPlace}
    (hv : Value.okWide P w r base t v) (h : DataW.Trod enc P w 0 spare held t v d p) : ∃ a, Rd.sheet.R w (fun k => k < w.heap.size) [v] a ∧ Rd.sheet.μ a ≤ Rows.uptoBulk d := by
  obtain ⟨cs, rfl, hs⟩ := okWide_struct ht hv
  obtain ⟨fuel, hf⟩ := h
  have hcl : (Value.agg cs).cells.toList = cs.toList := rfl
  rw [hcl] at hf
  obtain ⟨y0, y1, n, hx, hl, hy0, hy1⟩ := trod_struct2 ht hf
  rw [hc] at hl
  match hcs : cs.toList, hl with
  | [x, y], _ =>
    rw [hcs, h0, hc0] at hy0
    rw [hcs, h1, hc1] at hy1
    simp only [List.drop_zero, List.take_succ_cons, List.take_zero] at hy0
    simp only [List.drop_succ_cons, List.drop_zero, List.take_succ_cons, List.take_zero] at hy1
    obtain ⟨m, he, _, hw⟩ := DataW.trod_int hi hy0
    obtain ⟨l, hr, hμ⟩ := ha hy1
    obtain ⟨A, c, he2, _⟩ := id hr
    simp only [List.cons.injEq, and_true] at he he2
    subst he he2
    have hcs2 : cs = #[.int .i64 m, .slice A l.length c] := by rw [← Array.toList_inj, hcs]
    subst hcs2
    refine ⟨(m, l), ⟨A, c, rfl, hw, hr⟩, ?_⟩
    simp only [Prod.mk.injEq] at hx
    rw [hx.1]
    simp only [Rd.sheet, Rows.uptoBulk, Rows.uptoBulkAll]
    omega
end

section
open Go.RowKit Go.ChangeShapes Go.WideShapes Go.ChangeAt

/-- an answer -/
structure RepL where
  ask : Int
  err : Int
  an : Int
  ae : Int
  names : List ByteArray
  data : ByteArray
  lost : List OpL
namespace RepL
def cells (r : RepL) (nv lv : Value) : List Value := [.int .i64 r.ask, .int .i64 r.err, .int .i64 r.an, .int .i64 r.ae, nv, .string r.data, lv]
def nums (r : RepL) : Prop := I64 r.ask ∧ I64 r.err ∧ I64 r.an ∧ I64 r.ae ∧ r.data.size ≤ maxLen
end RepL
/-- a call -/
structure PlayL where
  kind : Int
  ops : List OpL
  ask : AskL
  rep : RepL
namespace PlayL
def cells (o : PlayL) (ov nv lv : Value) : List Value := [.int .i64 o.kind, ov] ++ o.ask.cells ++ o.rep.cells nv lv
def nums (o : PlayL) : Prop := I64 o.kind ∧ o.ask.nums ∧ o.rep.nums
end PlayL
def Rp.spot : Rp (Int × Int) where
  size := 2
  R w S cs a := cs = [.int .i64 a.1, .int .i64 a.2] ∧ I64 a.1 ∧ I64 a.2
  μ _ := 0
  pos := by omega
  len := by rintro w S cs a ⟨rfl, _⟩; rfl
  keep := by
    rintro w w' S S' cs a hs hk ⟨rfl, h⟩
    exact ⟨rfl, h⟩
  bnd := by
    rintro w S cs a ⟨rfl, h⟩
    exact ⟨rfl, h⟩
theorem Arg.spot {P : Program} {t : TypeId} {f0 f1 : Field} (ht : P.underlying t = some (.struct #[f0, f1])) (ho : [f0.offset, f1.offset] = [0, 1]) (hc : [P.cellsOf f0.type, P.cellsOf f1.type] = [1, 1]) (hct : P.cellsOf t = 2)
    (h0 : P.underlying f0.type = some (.int .i64)) (h1 : P.underlying f1.type = some (.int .i64)) : Arg P t Rp.spot := by
  intro H enc w spare held fuel cs x h
  obtain ⟨xs, n, _, rfl, hl, hlen, hf⟩ := DataW.trod_struct ht h
  simp only [List.cons.injEq, and_true] at ho hc
  obtain ⟨o0, o1⟩ := ho
  obtain ⟨c0, c1⟩ := hc
  rw [hct] at hl
  match xs, hlen with
  | [y0, y1], _ =>
    have g0 := hf 0 f0 rfl
    have g1 := hf 1 f1 rfl
    match cs, hl with
    | [a, b], _ =>
      rw [o0, c0] at g0
      rw [o1, c1] at g1
      simp only [List.drop_zero, List.drop_succ_cons, List.take_succ_cons, List.take_zero, List.getElem?_cons_zero, List.getElem?_cons_succ] at g0 g1
      obtain ⟨k0, e0, _, w0⟩ := DataW.trod_int h0 g0
      obtain ⟨k1, e1, _, w1⟩ := DataW.trod_int h1 g1
      simp only [List.cons.injEq, and_true] at e0 e1
      subst e0 e1
      exact ⟨(k0, k1), ⟨rfl, w0, w1⟩, Nat.zero_le _⟩
theorem Arg.ask {P : Program} {t : TypeId} {f0 f1 f2 f3 f4 f5 f6 : Field} (ht : P.underlying t = some (.struct #[f0, f1, f2, f3, f4, f5, f6])) (ho : [f0.offset, f1.offset, f2.offset, f3.offset, f4.offset, f5.offset, f6.offset] = [0, 1, 2, 3, 4, 5, 6])
    (hc : [P.cellsOf f0.type, P.cellsOf f1.type, P.cellsOf f2.type, P.cellsOf f3.type, P.cellsOf f4.type, P.cellsOf f5.type, P.cellsOf f6.type] = [1, 1, 1, 1, 1, 1, 1]) (hct : P.cellsOf t = 7)
    (h0 : P.underlying f0.type = some (.int .i64)) (h1 : P.underlying f1.type = some (.int .i64)) (h2 : P.underlying f2.type = some (.int .i64)) (h3 : P.underlying f3.type = some .string) (h4 : P.underlying f4.type = some .string) (h5 : P.underlying f5.type = some (.int .i64)) (h6 : P.underlying f6.type = some (.int .i64)) : Arg P t Rp.ask := by
  intro H enc w spare held fuel cs x h
  obtain ⟨xs, n, _, rfl, hl, hlen, hf⟩ := DataW.trod_struct ht h
  simp only [List.cons.injEq, and_true] at ho hc
  obtain ⟨o0, o1, o2, o3, o4, o5, o6⟩ := ho
  obtain ⟨c0, c1, c2, c3, c4, c5, c6⟩ := hc
  rw [hct] at hl
  match xs, hlen with
  | [y0, y1, y2, y3, y4, y5, y6], _ =>
    have g0 := hf 0 f0 rfl
    have g1 := hf 1 f1 rfl
    have g2 := hf 2 f2 rfl
    have g3 := hf 3 f3 rfl
    have g4 := hf 4 f4 rfl
    have g5 := hf 5 f5 rfl
    have g6 := hf 6 f6 rfl
    match cs, hl with
    | [d0, d1, d2, d3, d4, d5, d6], _ =>
      rw [o0, c0] at g0
      rw [o1, c1] at g1
      rw [o2, c2] at g2
      rw [o3, c3] at g3
      rw [o4, c4] at g4
      rw [o5, c5] at g5
      rw [o6, c6] at g6
      simp only [List.drop_zero, List.drop_succ_cons, List.take_succ_cons, List.take_zero, List.getElem?_cons_zero, List.getElem?_cons_succ] at g0 g1 g2 g3 g4 g5 g6
      obtain ⟨k0, e0, _, w0⟩ := DataW.trod_int h0 g0
      obtain ⟨k1, e1, _, w1⟩ := DataW.trod_int h1 g1
      obtain ⟨k2, e2, _, w2⟩ := DataW.trod_int h2 g2
      obtain ⟨s3, e3, e3', w3⟩ := DataW.trod_string h3 g3
      obtain ⟨s4, e4, e4', w4⟩ := DataW.trod_string h4 g4
      obtain ⟨k5, e5, _, w5⟩ := DataW.trod_int h5 g5
      obtain ⟨k6, e6, _, w6⟩ := DataW.trod_int h6 g6
      simp only [List.cons.injEq, and_true] at e0 e1 e2 e3 e4 e5 e6
      subst e0 e1 e2 e3 e4 e5 e6
      refine ⟨⟨k0, k1, k2, s3, s4, k5, k6⟩, ⟨rfl, w0, w1, w2, w3, w4, w5, w6⟩, ?_⟩
      have b3 : s3.size ≤ Rows.uptoBulk y3.1 := by rw [e3']; simp [Rows.uptoBulk]
      have b4 : s4.size ≤ Rows.uptoBulk y4.1 := by rw [e4']; simp [Rows.uptoBulk]
      show s3.size + s4.size + 1 ≤ _
      simp only [List.map_cons, List.map_nil, Rows.uptoBulk, Rows.uptoBulkAll]
      omega
def Rp.rep : Rp RepL where
  size := 7
  R w S cs a := ∃ nv lv, cs = a.cells nv lv ∧ a.nums ∧ Rp.str.slice.R w S [nv] a.names ∧ Rp.opl.slice.R w S [lv] a.lost
  μ a := Rp.str.slice.μ a.names + a.data.size + Rp.opl.slice.μ a.lost
  pos := by omega
  len := by rintro w S cs a ⟨nv, lv, rfl, _⟩; rfl
  keep := by
    rintro w w' S S' cs a hs hk ⟨nv, lv, rfl, h1, h2, h3⟩
    exact ⟨nv, lv, rfl, h1, Rp.str.slice.keep hs hk h2, Rp.opl.slice.keep hs hk h3⟩
  bnd := by
    rintro w S cs a ⟨nv, lv, rfl, h1, h2, h3⟩
    exact ⟨nv, lv, rfl, h1, Rp.str.slice.bnd h2, Rp.opl.slice.bnd h3⟩
theorem Arg.rep {P : Program} {t : TypeId} {f0 f1 f2 f3 f4 f5 : Field} (ht : P.underlying t = some (.struct #[f0, f1, f2, f3, f4, f5])) (ho : [f0.offset, f1.offset, f2.offset, f3.offset, f4.offset, f5.offset] = [0, 1, 2, 4, 5, 6])
    (hc : [P.cellsOf f0.type, P.cellsOf f1.type, P.cellsOf f2.type, P.cellsOf f3.type, P.cellsOf f4.type, P.cellsOf f5.type] = [1, 1, 2, 1, 1, 1]) (hct : P.cellsOf t = 7)
    (h0 : P.underlying f0.type = some (.int .i64)) (h1 : P.underlying f1.type = some (.int .i64)) (h2 : Arg P f2.type Rp.spot) (h3 : Arg P f3.type Rp.str.slice) (h4 : P.underlying f4.type = some .string) (h5 : Arg P f5.type Rp.opl.slice) : Arg P t Rp.rep := by
  intro H enc w spare held fuel cs x h
  obtain ⟨xs, n, _, rfl, hl, hlen, hf⟩ := DataW.trod_struct ht h
  simp only [List.cons.injEq, and_true] at ho hc
  obtain ⟨o0, o1, o2, o3, o4, o5⟩ := ho
  obtain ⟨c0, c1, c2, c3, c4, c5⟩ := hc
  rw [hct] at hl
  match xs, hlen with
  | [y0, y1, y2, y3, y4, y5], _ =>
    have g0 := hf 0 f0 rfl
    have g1 := hf 1 f1 rfl
    have g2 := hf 2 f2 rfl
    have g3 := hf 3 f3 rfl
    have g4 := hf 4 f4 rfl
    have g5 := hf 5 f5 rfl
    match cs, hl with
    | [d0, d1, d2, d3, d4, d5, d6], _ =>
      rw [o0, c0] at g0
      rw [o1, c1] at g1
      rw [o2, c2] at g2
      rw [o3, c3] at g3
      rw [o4, c4] at g4
      rw [o5, c5] at g5
      simp only [List.drop_zero, List.drop_succ_cons, List.take_succ_cons, List.take_zero, List.getElem?_cons_zero, List.getElem?_cons_succ] at g0 g1 g2 g3 g4 g5
      obtain ⟨k0, e0, _, w0⟩ := DataW.trod_int h0 g0
      obtain ⟨k1, e1, _, w1⟩ := DataW.trod_int h1 g1
      obtain ⟨⟨p1, p2⟩, ⟨e2, w2, w2'⟩, _⟩ := h2 g2
      obtain ⟨l3, hr3, hμ3⟩ := h3 g3
      obtain ⟨s4, e4, e4', w4⟩ := DataW.trod_string h4 g4
      obtain ⟨l5, hr5, hμ5⟩ := h5 g5
      simp only [List.cons.injEq, and_true] at e0 e1 e2 e4
      obtain ⟨e2, e2'⟩ := e2
      subst e0 e1 e2 e2' e4
      refine ⟨⟨k0, k1, p1, p2, l3, s4, l5⟩, ⟨d4, d6, rfl, ⟨w0, w1, w2, w2', w4⟩, hr3, hr5⟩, ?_⟩
      have b4 : s4.size ≤ Rows.uptoBulk y4.1 := by rw [e4']; simp [Rows.uptoBulk]
      have h3' : Rp.str.slice.μ l3 ≤ Rows.uptoBulk y3.1 := hμ3
      have h5' : Rp.opl.slice.μ l5 ≤ Rows.uptoBulk y5.1 := hμ5
      show Rp.str.slice.μ l3 + s4.size + Rp.opl.slice.μ l5 ≤ _
      simp only [List.map_cons, List.map_nil, Rows.uptoBulk, Rows.uptoBulkAll]
      omega
def Rp.play : Rp PlayL where
  size := 16
  R w S cs a := ∃ ov nv lv, cs = a.cells ov nv lv ∧ a.nums ∧ Rp.opl.slice.R w S [ov] a.ops ∧ Rp.str.slice.R w S [nv] a.rep.names ∧ Rp.opl.slice.R w S [lv] a.rep.lost
  μ a := Rp.opl.slice.μ a.ops + Rp.ask.μ a.ask + Rp.rep.μ a.rep
  pos := by omega
  len := by rintro w S cs a ⟨ov, nv, lv, rfl, _⟩; rfl
  keep := by
    rintro w w' S S' cs a hs hk ⟨ov, nv, lv, rfl, h1, h2, h3, h4⟩
    exact ⟨ov, nv, lv, rfl, h1, Rp.opl.slice.keep hs hk h2, Rp.str.slice.keep hs hk h3, Rp.opl.slice.keep hs hk h4⟩
  bnd := by
    rintro w S cs a ⟨ov, nv, lv, rfl, h1, h2, h3, h4⟩
    exact ⟨ov, nv, lv, rfl, h1, Rp.opl.slice.bnd h2, Rp.str.slice.bnd h3, Rp.opl.slice.bnd h4⟩
theorem Arg.play {P : Program} {t : TypeId} {f0 f1 f2 f3 : Field} (ht : P.underlying t = some (.struct #[f0, f1, f2, f3])) (ho : [f0.offset, f1.offset, f2.offset, f3.offset] = [0, 1, 2, 9])
    (hc : [P.cellsOf f0.type, P.cellsOf f1.type, P.cellsOf f2.type, P.cellsOf f3.type] = [1, 1, 7, 7]) (hct : P.cellsOf t = 16)
    (h0 : P.underlying f0.type = some (.int .i64)) (h1 : Arg P f1.type Rp.opl.slice) (h2 : Arg P f2.type Rp.ask) (h3 : Arg P f3.type Rp.rep) : Arg P t Rp.play := by
  intro H enc w spare held fuel cs x h
  obtain ⟨xs, n, _, rfl, hl, hlen, hf⟩ := DataW.trod_struct ht h
  simp only [List.cons.injEq, and_true] at ho hc
  obtain ⟨o0, o1, o2, o3⟩ := ho
  obtain ⟨c0, c1, c2, c3⟩ := hc
  rw [hct] at hl
  match xs, hlen with
  | [y0, y1, y2, y3], _ =>
    have g0 := hf 0 f0 rfl
    have g1 := hf 1 f1 rfl
    have g2 := hf 2 f2 rfl
    have g3 := hf 3 f3 rfl
    match cs, hl with
    | [d0, d1, d2, d3, d4, d5, d6, d7, d8, d9, d10, d11, d12, d13, d14, d15], _ =>
      rw [o0, c0] at g0
      rw [o1, c1] at g1
      rw [o2, c2] at g2
      rw [o3, c3] at g3
      simp only [List.drop_zero, List.drop_succ_cons, List.take_succ_cons, List.take_zero, List.getElem?_cons_zero, List.getElem?_cons_succ] at g0 g1 g2 g3
      obtain ⟨k0, e0, _, w0⟩ := DataW.trod_int h0 g0
      obtain ⟨l1, hr1, hμ1⟩ := h1 g1
      obtain ⟨a, ⟨e2, w2⟩, hμ2⟩ := h2 g2
      obtain ⟨r, ⟨nv, lv, e3, w3, hn3, hl3⟩, hμ3⟩ := h3 g3
      unfold AskL.cells at e2
      unfold RepL.cells at e3
      simp only [List.cons.injEq, and_true] at e0 e2 e3
      obtain ⟨p0, p1, p2, p3, p4, p5, p6⟩ := e2
      obtain ⟨q0, q1, q2, q3, q4, q5, q6⟩ := e3
      subst e0 p0 p1 p2 p3 p4 p5 p6 q0 q1 q2 q3 q4 q5 q6
      refine ⟨⟨k0, l1, a, r⟩, ⟨_, _, _, rfl, ⟨w0, w2, w3⟩, hr1, hn3, hl3⟩, ?_⟩
      have h1' : Rp.opl.slice.μ l1 ≤ Rows.uptoBulk y1.1 := hμ1
      have h2' : Rp.ask.μ a ≤ Rows.uptoBulk y2.1 := hμ2
      have h3' : Rp.rep.μ r ≤ Rows.uptoBulk y3.1 := hμ3
      show Rp.opl.slice.μ l1 + Rp.ask.μ a + Rp.rep.μ r ≤ _
      simp only [List.map_cons, List.map_nil, Rows.uptoBulk, Rows.uptoBulkAll]
      omega
/-- one of a list of calls -/
theorem Rp.at_play {w : World} {S : Nat → Prop} {A : Option Addr} {c : Nat} {l : List PlayL} (h : Rp.play.slice.R w S [.slice A l.length c] l) {i : Nat} {x : PlayL} (hi : l[i]? = some x) :
    ∃ ad O co N cn L cl, A = some ad ∧ S ad.block ∧ (∀ (j : Nat) u, (x.cells (.slice O x.ops.length co) (.slice N x.rep.names.length cn) (.slice L x.rep.lost.length cl))[j]? = some u → w.cell? ((ad.add (i * 16)).add j) = some u) ∧ x.nums ∧
      Rp.opl.slice.R w S [.slice O x.ops.length co] x.ops ∧ Rp.str.slice.R w S [.slice N x.rep.names.length cn] x.rep.names ∧ Rp.opl.slice.R w S [.slice L x.rep.lost.length cl] x.rep.lost := by
  obtain ⟨A2, c2, he, _, _, h3⟩ := h
  simp only [List.cons.injEq, Value.slice.injEq, and_true, true_and] at he
  obtain ⟨rfl, rfl⟩ := he
  have hl : 0 < l.length := by have := (List.getElem?_eq_some_iff.1 hi).1; omega
  obtain ⟨ad, rfl, hb, hc⟩ := h3 hl
  obtain ⟨es, he, ov, nv, lv, rfl, hn, h1, h2, h4⟩ := hc i x hi
  obtain ⟨O, co, e1, _⟩ := id h1
  obtain ⟨N, cn, e2, _⟩ := id h2
  obtain ⟨L, cl, e3, _⟩ := id h4
  simp only [List.cons.injEq, and_true] at e1 e2 e3
  subst e1 e2 e3
  exact ⟨ad, O, co, N, cn, L, cl, rfl, hb, fun j u hu => he j u hu, hn, h1, h2, h4⟩
theorem play_cells {w : World} {ad : Addr} {c : PlayL} {ov nv lv : Value} (h : ∀ (j : Nat) u, (c.cells ov nv lv)[j]? = some u → w.cell? (ad.add j) = some u) :
    w.cell? ad = some (.int .i64 c.kind) ∧ w.cell? ⟨ad.block, ad.off + 1, none⟩ = some ov ∧ w.cell? ⟨ad.block, ad.off + 2, none⟩ = some (.int .i64 c.ask.kind) ∧ w.cell? ⟨ad.block, ad.off + 3, none⟩ = some (.int .i64 c.ask.client) ∧
    w.cell? ⟨ad.block, ad.off + 4, none⟩ = some (.int .i64 c.ask.seq) ∧ w.cell? ⟨ad.block, ad.off + 5, none⟩ = some (.string c.ask.name) ∧ w.cell? ⟨ad.block, ad.off + 6, none⟩ = some (.string c.ask.data) ∧ w.cell? ⟨ad.block, ad.off + 7, none⟩ = some (.int .i64 c.ask.mode) ∧
    w.cell? ⟨ad.block, ad.off + 8, none⟩ = some (.int .i64 c.ask.lag) ∧ w.cell? ⟨ad.block, ad.off + 9, none⟩ = some (.int .i64 c.rep.ask) ∧ w.cell? ⟨ad.block, ad.off + 10, none⟩ = some (.int .i64 c.rep.err) ∧ w.cell? ⟨ad.block, ad.off + 11, none⟩ = some (.int .i64 c.rep.an) ∧
    w.cell? ⟨ad.block, ad.off + 12, none⟩ = some (.int .i64 c.rep.ae) ∧ w.cell? ⟨ad.block, ad.off + 13, none⟩ = some nv ∧ w.cell? ⟨ad.block, ad.off + 14, none⟩ = some (.string c.rep.data) ∧ w.cell? ⟨ad.block, ad.off + 15, none⟩ = some lv :=
  ⟨h 0 _ rfl, h 1 _ rfl, h 2 _ rfl, h 3 _ rfl, h 4 _ rfl, h 5 _ rfl, h 6 _ rfl, h 7 _ rfl, h 8 _ rfl, h 9 _ rfl, h 10 _ rfl, h 11 _ rfl, h 12 _ rfl, h 13 _ rfl, h 14 _ rfl, h 15 _ rfl⟩
/-- one call, as an argument by itself -/
def playV (o : PlayL) (ov nv lv : Value) : Value := .agg #[.int .i64 o.kind, ov, .int .i64 o.ask.kind, .int .i64 o.ask.client, .int .i64 o.ask.seq, .string o.ask.name, .string o.ask.data, .int .i64 o.ask.mode, .int .i64 o.ask.lag, .int .i64 o.rep.ask, .int .i64 o.rep.err, .int .i64 o.rep.an, .int .i64 o.rep.ae, nv, .string o.rep.data, lv]
def Rd.play : Rd PlayL where
  R w S cs a := ∃ A c B d C e, cs = [playV a (.slice A a.ops.length c) (.slice B a.rep.names.length d) (.slice C a.rep.lost.length e)] ∧ a.nums ∧ Rp.opl.slice.R w S [.slice A a.ops.length c] a.ops ∧ Rp.str.slice.R w S [.slice B a.rep.names.length d] a.rep.names ∧ Rp.opl.slice.R w S [.slice C a.rep.lost.length e] a.rep.lost
  μ a := Rp.play.μ a
theorem play_arg {P : Program} {t : TypeId} {fs : Array Field} (ht : P.underlying t = some (.struct fs)) (ha : Arg P t Rp.play)
    {H : Type} {enc : TypeId × Value → H} {w : World} {spare : Nat → Bool} {held : Bool} {r : Reach} {base : Nat} {v : Value} {d : DataW H} {p : List MemPlace}
    (hv : Value.okWide P w r base t v) (h : DataW.Trod enc P w 0 spare held t v d p) : ∃ a, Rd.play.R w (fun k => k < w.heap.size) [v] a ∧ Rd.play.μ a ≤ Rows.uptoBulk d := by
  obtain ⟨cs, rfl, hs⟩ := okWide_struct ht hv
  obtain ⟨fuel, hf⟩ := h
  have hcl : (Value.agg cs).cells.toList = cs.toList := rfl
  rw [hcl] at hf
  obtain ⟨a, ⟨ov, nv, lv, he, hn, h1, h2, h3⟩, hμ⟩ := ha hf
  obtain ⟨A, c, e1, _⟩ := id h1
  obtain ⟨B, d, e2, _⟩ := id h2
  obtain ⟨C, e, e3, _⟩ := id h3
  simp only [List.cons.injEq, and_true] at e1 e2 e3
  subst e1 e2 e3
  refine ⟨a, ⟨A, c, B, d, C, e, ?_, hn, h1, h2, h3⟩, hμ⟩
  unfold playV
  refine congrArg (fun x => [Value.agg x]) ?_
  rw [← Array.toList_inj, he]
  rfl
end
end Go.Proofs.YtamfgmlhopjppaaGreat
