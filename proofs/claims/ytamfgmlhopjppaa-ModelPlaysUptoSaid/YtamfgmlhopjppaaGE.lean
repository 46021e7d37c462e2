/-
  Put together: OwnL, Fold, Led1, ModM, ModW, Deed6.
-/
import Derived.Test.YtamfgmlhopjppaaGB
import Derived.Test.YtamfgmlhopjppaaGC
import Derived.Laws.ResultCell
import Derived.Laws.Rows
import Derived.Test.YtamfgmlhopjppaaGD
namespace Go.Proofs.Ytamfgmlhopjppaa
section
open Go.RowKit Go.ChangeShapes Go.WideShapes Go.ChangeAt

theorem slice_one' {w : World} {S : Nat → Prop} {hv : Value} {l : List ByteArray} (h : Rp.str.slice.R w S [hv] l) : hv.oneCell' = true := by
  obtain ⟨A, c, he, _⟩ := h
  simp only [List.cons.injEq, and_true] at he
  subst he
  rfl
theorem Own.hashed {w : World} {S S' : Nat → Prop} {base g c : Nat} {l : List OpL} (h : Own Rp.opl w S base 58 (.slice (some ⟨g, 0, none⟩) l.length c) l) {i : Nat} {o : OpL} (hi : l[i]? = some o) {hv : Value} (hr : Rp.str.slice.R w S' [hv] o.hashes) (hS : ∀ k, S k → S' k) (hg : ¬ S' g) :
    Own Rp.opl (w.setCell ⟨g, i * 9 + 8, none⟩ hv) S' base 58 (.slice (some ⟨g, 0, none⟩) l.length c) l := by
  obtain ⟨xs, h1, h2, h3⟩ := h
  have hk : Kp (· = g) w (w.setCell ⟨g, i * 9 + 8, none⟩ hv) := (Kp.refl (· = g) w).setCell (p := ⟨g, i * 9 + 8, none⟩) (fun _ => rfl) _
  refine ⟨xs.set (i * 9 + 8) hv, (h1.stored (i * 9 + 8) hv).1, fun u hu => ?_, fun j a ha => ?_⟩
  · rcases List.mem_or_eq_of_mem_set hu with hu | rfl
    · exact h2 u hu
    · exact slice_one' hr
  · have h4 := h3 j a ha
    have h4' : Rp.opl.R w S ((xs.drop (j * 9)).take 9) a := h4
    show Rp.opl.R _ S' (((xs.set (i * 9 + 8) hv).drop (j * 9)).take 9) a
    have hsk : ∀ {cs b}, Rp.opl.R w S cs b → Rp.opl.R (w.setCell ⟨g, i * 9 + 8, none⟩ hv) S' cs b := fun hR => Rp.opl.more (Rp.opl.kept hR hk (fun k hk2 _ e => hg (hS _ (e ▸ hk2)))) hS
    by_cases hlt : i * 9 + 8 < j * 9
    · rw [List.drop_set_of_lt hlt]
      exact hsk h4'
    · rw [List.drop_set, if_neg hlt, List.take_set]
      by_cases hij : j = i
      · subst hij
        rw [hi] at ha
        injection ha with ha
        subst ha
        obtain ⟨v, he, hn, _⟩ := h4'
        rw [he, show j * 9 + 8 - j * 9 = 8 by omega]
        refine ⟨hv, rfl, hn, ?_⟩
        exact Rp.str.slice.kept hr hk (fun k hk2 _ e => hg (e ▸ hk2))
      · have hge : 9 ≤ i * 9 + 8 - j * 9 := by omega
        rw [List.set_eq_of_length_le (by rw [List.length_take]; omega)]
        exact hsk h4'
theorem Own.at_opl {w : World} {S : Nat → Prop} {base : Nat} {A : Option Addr} {c : Nat} {l : List OpL} (h : Own Rp.opl w S base 58 (.slice A l.length c) l) {i : Nat} {o : OpL} (hi : l[i]? = some o) :
    ∃ g A' c', A = some ⟨g, 0, none⟩ ∧ base ≤ g ∧ (∃ cs, w.heap[g]? = some (.cells cs 58 (0, 0))) ∧ (∀ (j : Nat) u, (o.cells (.slice A' o.hashes.length c'))[j]? = some u → w.cell? ⟨g, i * 9 + j, none⟩ = some u) ∧ (∀ j, w.frozen? ⟨g, j, none⟩ = false) ∧ o.nums ∧ Rp.str.slice.R w S [.slice A' o.hashes.length c'] o.hashes := by
  obtain ⟨xs, ⟨h0, h1⟩, h2, h3⟩ := h
  have hlt := (List.getElem?_eq_some_iff.1 hi).1
  rcases h1 with ⟨he, h1⟩ | ⟨g, cap, cur, he, hb, hg, hn, hm, hc, ht⟩
  · omega
  · injection he with he
    subst he
    obtain ⟨v, he2, hnum, hr⟩ : Rp.opl.R w S ((xs.drop (i * 9)).take 9) o := h3 i o hi
    obtain ⟨A', c', hv, _⟩ := id hr
    simp only [List.cons.injEq, and_true] at hv
    subst hv
    refine ⟨g, A', c', rfl, hb, ⟨_, hg⟩, fun j u hu => ?_, fun j => by simp [World.frozen?, hg], hnum, hr⟩
    have hj : j < 9 := by have := (List.getElem?_eq_some_iff.1 hu).1; simpa [OpL.cells] using this
    rw [← he2, List.getElem?_take_of_lt hj, List.getElem?_drop] at hu
    have hlt2 : i * 9 + j < l.length * 9 := by omega
    rw [← ht, List.getElem?_take_of_lt (by exact hlt2), Array.getElem?_toList] at hu
    simp [World.cell?, hg, hu]
/-- all hashes lie in other blocks than they did -/
theorem Own.rehash {w : World} {S S' : Nat → Prop} {base g c : Nat} {l : List OpL} (h : Own Rp.opl w S base 58 (.slice (some ⟨g, 0, none⟩) l.length c) l) (hr : ∀ (j : Nat) o, l[j]? = some o → ∃ v, w.cell? ⟨g, j * 9 + 8, none⟩ = some v ∧ Rp.str.slice.R w S' [v] o.hashes) :
    Own Rp.opl w S' base 58 (.slice (some ⟨g, 0, none⟩) l.length c) l := by
  have ha := fun {i : Nat} {o : OpL} (hi : l[i]? = some o) => Own.at_opl h hi
  obtain ⟨xs, h1, h2, h3⟩ := h
  refine ⟨xs, h1, h2, fun j o hj => ?_⟩
  obtain ⟨v, he, hn, _⟩ : Rp.opl.R w S ((xs.drop (j * 9)).take 9) o := h3 j o hj
  show Rp.opl.R w S' ((xs.drop (j * 9)).take 9) o
  obtain ⟨u, hu, hr2⟩ := hr j o hj
  obtain ⟨h0, h1⟩ := h1
  have hlt := (List.getElem?_eq_some_iff.1 hj).1
  rcases h1 with ⟨he2, h1⟩ | ⟨g', cap, cur, he2, hb, hg, hn2, hm, hc, ht⟩
  · omega
  · injection he2 with he2
    injection he2 with he2
    injection he2 with he2
    subst he2
    have h8 : (o.cells v)[8]? = some v := rfl
    rw [← he, List.getElem?_take_of_lt (by omega), List.getElem?_drop] at h8
    have hlt2 : j * 9 + 8 < l.length * 9 := by omega
    rw [← ht, List.getElem?_take_of_lt (by exact hlt2), Array.getElem?_toList] at h8
    have h9 : w.cell? ⟨g, j * 9 + 8, none⟩ = some v := by simp [World.cell?, hg, h8]
    rw [h9] at hu
    injection hu with hu
    subst hu
    exact ⟨v, he, hn, hr2⟩
/-- new since a world, but for one block -/
def New (w : World) (g : Nat) : Nat → Prop := fun k => w.heap.size ≤ k ∧ k ≠ g
end

section
open Go.RowKit Go.ChangeShapes Go.WideShapes Go.ChangeAt

abbrev Sheets := List (ByteArray × (Int × List ByteArray))
def sumS (l : Sheets) : Int := (l.map (·.2.1)).sum
/-- what comes of operations -/
structure FV where
  live : Sheets
  lastOf : List (Int × OpL)
  hE : Int
  hS : Int
namespace FV
def used (f : FV) : Int := sumS f.live
def fresh : FV := ⟨[], [], 0, 0⟩
def take1 (f : FV) (o : OpL) : FV :=
  if o.kind = 3 then { f with hE := o.epoch, hS := o.site }
  else { f with live := if o.kind = 1 then mput o.name (o.size, o.hashes) (mdel o.name f.live) else mdel o.name f.live, lastOf := mput o.client o f.lastOf }
def take (f : FV) (l : List OpL) : FV := l.foldl take1 f
end FV
def sizeAt (k : ByteArray) (l : Sheets) : Int := ((mget k l).map (·.1)).getD 0
theorem sumS_del (k : ByteArray) : ∀ l : Sheets, sumS (mdel k l) = sumS l - sizeAt k l
  | [] => rfl
  | (k', v) :: l => by
    have ih := sumS_del k l
    unfold sumS sizeAt at ih ⊢
    unfold mdel mget
    split
    · simp; omega
    · simp only [List.map_cons, List.sum_cons, ih]; omega
theorem sumS_put (k : ByteArray) (v : Int × List ByteArray) : ∀ l : Sheets, mget k l = none → sumS (mput k v l) = sumS l + v.1
  | [], _ => by simp [sumS, mput]
  | (k', v') :: l, h => by
    unfold mget at h
    split at h
    · cases h
    · rename_i hne
      have ih := sumS_put k v l h
      unfold sumS at ih ⊢
      unfold mput
      rw [if_neg hne]
      simp only [List.map_cons, List.sum_cons, ih]; omega
theorem len_mdel {κ ν : Type} [DecidableEq κ] (k : κ) : ∀ l : List (κ × ν), (mdel k l).length ≤ l.length
  | [] => Nat.le_refl _
  | (k', v) :: l => by
    unfold mdel
    split
    · simp
    · have := len_mdel k l; simp; omega
theorem len_mput {κ ν : Type} [DecidableEq κ] (k : κ) (u : ν) : ∀ l : List (κ × ν), (mput k u l).length ≤ l.length + 1
  | [] => by simp [mput]
  | (k', v) :: l => by
    unfold mput
    split
    · simp
    · have := len_mput k u l; simp; omega
theorem mem_mdel {κ ν : Type} [DecidableEq κ] (k : κ) (p : κ × ν) : ∀ l : List (κ × ν), p ∈ mdel k l → p ∈ l
  | [], h => h
  | (k', v) :: l, h => by
    unfold mdel at h
    split at h
    · exact List.mem_cons_of_mem _ h
    · rcases List.mem_cons.1 h with h | h
      · rw [h]; exact List.mem_cons_self
      · exact List.mem_cons_of_mem _ (mem_mdel k p l h)
theorem mem_mput {κ ν : Type} [DecidableEq κ] (k : κ) (u : ν) (p : κ × ν) : ∀ l : List (κ × ν), p ∈ mput k u l → p = (k, u) ∨ p ∈ l
  | [], h => by simpa [mput] using h
  | (k', v) :: l, h => by
    unfold mput at h
    split at h
    · rcases List.mem_cons.1 h with h | h
      · exact .inl h
      · exact .inr (List.mem_cons_of_mem _ h)
    · rcases List.mem_cons.1 h with h | h
      · exact .inr (by rw [h]; exact List.mem_cons_self)
      · rcases mem_mput k u p l h with h | h
        · exact .inl h
        · exact .inr (List.mem_cons_of_mem _ h)
theorem mem_of_mget {κ ν : Type} [DecidableEq κ] {k : κ} {v : ν} : ∀ {l : List (κ × ν)}, mget k l = some v → (k, v) ∈ l
  | (k', v') :: l, h => by
    unfold mget at h
    split at h
    · rename_i hk; injection h with h; subst hk h; exact List.mem_cons_self
    · exact List.mem_cons_of_mem _ (mem_of_mget h)

def Small (x : Int) : Prop := 0 ≤ x ∧ x ≤ 1073741824
/-- so much may be live -/
structure FV.Ok (f : FV) (n : Nat) : Prop where
  nodup : (f.live.map (·.1)).Nodup
  small : ∀ p ∈ f.live, Small p.2.1
  len : f.live.length ≤ n
theorem FV.fresh_ok : FV.fresh.Ok 0 := ⟨List.nodup_nil, by simp [FV.fresh], Nat.le_refl _⟩
theorem sum_small : ∀ l : Sheets, (∀ p ∈ l, Small p.2.1) → 0 ≤ sumS l ∧ sumS l ≤ 1073741824 * l.length
  | [], _ => by simp [sumS]
  | p :: l, h => by
    obtain ⟨h1, h2⟩ := sum_small l (fun q hq => h q (List.mem_cons_of_mem _ hq))
    obtain ⟨h3, h4⟩ := h p List.mem_cons_self
    unfold sumS at h1 h2 ⊢
    simp only [List.map_cons, List.sum_cons, List.length_cons]
    omega
namespace FV.Ok
variable {f : FV} {n : Nat}
theorem bound (h : f.Ok n) : 0 ≤ f.used ∧ f.used ≤ 1073741824 * n := by
  obtain ⟨h1, h2⟩ := sum_small f.live h.small
  have := h.len
  unfold FV.used
  omega
theorem sizeAt_small (h : f.Ok n) (k : ByteArray) : Small (sizeAt k f.live) := by
  unfold sizeAt
  cases hg : mget k f.live with
  | none => simp [Small]
  | some v => exact h.small _ (mem_of_mget hg)
theorem del (h : f.Ok n) (k : ByteArray) : (FV.mk (mdel k f.live) f.lastOf f.hE f.hS).Ok n :=
  ⟨nodup_mdel _ _ h.nodup, fun p hp => h.small p (mem_mdel _ _ _ hp), Nat.le_trans (len_mdel _ _) h.len⟩
theorem step (h : f.Ok n) (o : OpL) (hs : o.kind = 1 → Small o.size) : (f.take1 o).Ok (n + 1) := by
  unfold FV.take1
  split
  · exact ⟨h.nodup, h.small, Nat.le_succ_of_le h.len⟩
  · refine ⟨?_, fun p hp => ?_, ?_⟩
    · simp only
      split
      · exact nodup_mput _ _ _ (nodup_mdel _ _ h.nodup)
      · exact nodup_mdel _ _ h.nodup
    · simp only at hp
      split at hp
      · rename_i hk
        rcases mem_mput _ _ _ _ hp with hp | hp
        · rw [hp]; exact hs hk
        · exact h.small p (mem_mdel _ _ _ hp)
      · exact h.small p (mem_mdel _ _ _ hp)
    · have := len_mdel o.name f.live
      have := h.len
      simp only
      split
      · have := len_mput o.name (o.size, o.hashes) (mdel o.name f.live); omega
      · omega
theorem take (h : f.Ok n) : ∀ (l : List OpL), (∀ o ∈ l, o.kind = 1 → Small o.size) → (f.take l).Ok (n + l.length) := by
  intro l
  induction l generalizing f n with
  | nil => intro _; exact h
  | cons o l ih =>
    intro hs
    have := ih (h.step o (hs o List.mem_cons_self)) (fun x hx => hs x (List.mem_cons_of_mem _ hx))
    rw [show n + (o :: l).length = n + 1 + l.length by simp; omega]
    exact this
end FV.Ok
theorem FV.take_snoc (f : FV) (l : List OpL) (o : OpL) : f.take (l ++ [o]) = (f.take l).take1 o := by
  unfold FV.take; simp

/-- a ledger's block and its maps -/
def T3 (l b1 b2 : Nat) : Nat → Prop := fun k => k = l ∨ k = b1 ∨ k = b2
theorem Blk.ne_map {w : World} {l b : Nat} {t : TypeId} {cs : List Value} {es : Array MapEntry} {clock : Nat} (h : Blk w l t cs) (hb : w.heap[b]? = some (.map es clock)) : l ≠ b := by
  rintro rfl
  unfold Blk at h
  rw [h] at hb
  cases hb
namespace FAt
variable {w w' : World} {l : Nat} {rest : List Value} {b1 b2 : Nat} {S T : Nat → Prop} {f : FV}
end FAt
theorem key_name : KeyOk Try.prog 9 (κ := ByteArray) Value.string := KeyOk.string Try.underlying9
theorem key_cl : KeyOk Try.prog 3 (κ := Int) (Value.int .i64) := KeyOk.int Try.underlying3
theorem zero_sht (w : World) : (zeroValue 56).run Try.prog w = .ok (.agg #[.int .i64 0, .slice none 0 0]) w := by
  go_simp
theorem zero_op (w : World) : (zeroValue 58).run Try.prog w = .ok (.agg #[.int .i64 0, .int .i64 0, .int .i64 0, .int .i64 0, .int .i64 0, .int .i64 0, .string ByteArray.empty, .int .i64 0, .slice none 0 0]) w := by
  go_simp
  rfl
namespace TSt
variable {l : Nat} {rest : List Value} {b1 b2 : Nat} {S : Nat → Prop} {base g c : Nat} {ops : List OpL} {x : Nat} {o : OpL} {v : Value} {hE hS : Int} {w w' : World} {us : Int} {live : Sheets} {last : List (Int × OpL)}
end TSt
end

section
open Go.RowKit Go.ChangeShapes Go.WideShapes Go.ChangeAt
end

section
open Go.RowKit Go.ChangeShapes Go.WideShapes Go.ChangeAt

structure AskL where
  kind : Int
  client : Int
  seq : Int
  name : ByteArray
  data : ByteArray
  mode : Int
  lag : Int
namespace AskL
def cells (a : AskL) : List Value := [.int .i64 a.kind, .int .i64 a.client, .int .i64 a.seq, .string a.name, .string a.data, .int .i64 a.mode, .int .i64 a.lag]
def nums (a : AskL) : Prop := I64 a.kind ∧ I64 a.client ∧ I64 a.seq ∧ a.name.size ≤ maxLen ∧ a.data.size ≤ maxLen ∧ I64 a.mode ∧ I64 a.lag
end AskL
def Rp.ask : Rp AskL where
  size := 7
  R _ _ cs a := cs = a.cells ∧ a.nums
  μ a := a.name.size + a.data.size + 1
  pos := by omega
  len := by rintro w S cs a ⟨rfl, _⟩; rfl
  keep := by
    rintro w w' S S' cs a hs hk ⟨rfl, h⟩
    exact ⟨rfl, h⟩
  bnd := by
    rintro w S cs a ⟨rfl, h⟩
    exact ⟨rfl, h⟩
structure MV where
  lines : List ((Int × Int) × LineL)
  asks : List AskL
def clash (ls : List ((Int × Int) × LineL)) (l : LineL) : Bool := match mget l.place ls with
  | none => false
  | some was => !(decide ((was.an, was.ae) = (l.an, l.ae)) && decide (EqP was.op l.op))
def putAll (ls : List ((Int × Int) × LineL)) (m : List LineL) : List ((Int × Int) × LineL) := m.foldl (fun ls l => mput l.place l ls) ls
theorem putAll_snoc (ls : List ((Int × Int) × LineL)) (m : List LineL) (l : LineL) : putAll ls (m ++ [l]) = mput l.place l (putAll ls m) := by simp [putAll, List.foldl_append]
def seeL (ops : List OpL) (M : MV) : Int × MV :=
  if rowB 0 0 ops = false then (3, M)
  else if (linedL (0, 0) ops).any (clash M.lines) = true then (200, M)
  else (0, { M with lines := putAll M.lines (linedL (0, 0) ops) })
structure MIn (w : World) (m b : Nat) (av : Value) (S : Nat → Prop) (M : MV) : Prop where
  blk : Blk w m 66 [.map (some b), av]
  map : MapRp Rp.line w S b spotV M.lines
  ask : Own Rp.ask w No 0 34 av M.asks
  mb : m ≠ b
  sm : ¬ S m
  sb : ¬ S b
  am : av.ownBlock ≠ some m
  ab : av.ownBlock ≠ some b
  sa : ∀ k, S k → av.ownBlock ≠ some k
  hi : ∀ k, S k → k < w.heap.size
def MFoot (m b : Nat) (av : Value) (S : Nat → Prop) (k : Nat) : Prop := k = m ∨ k = b ∨ av.ownBlock = some k ∨ S k
def MAt (w : World) (m : Nat) (M : MV) (F : Nat → Prop) : Prop := ∃ b av S, MIn w m b av S M ∧ ∀ k, F k ↔ MFoot m b av S k
theorem MapRp.bnd {κ α : Type} [DecidableEq κ] {E : Rp α} {w : World} {S : Nat → Prop} {b : Nat} {enc : κ → Value} {l : List (κ × α)} (h : MapRp E w S b enc l) : MapRp E w (fun k => S k ∧ k < w.heap.size) b enc l := by
  obtain ⟨lv, h1, h2, h3⟩ := h
  refine ⟨lv, h1, h2, fun k a ha => ?_⟩
  obtain ⟨cs, h4, h5⟩ := h3 k a ha
  exact ⟨cs, h4, E.bnd h5⟩
namespace MIn
variable {w w' : World} {m b : Nat} {av : Value} {S T : Nat → Prop} {M : MV}
theorem kept (h : MIn w m b av S M) (hk : Kp T w w') (hT : ∀ k, MFoot m b av S k → ¬ T k) : MIn w' m b av S M :=
  ⟨h.blk.kept hk (hT m (.inl rfl)), h.map.kept hk (hT b (.inr (.inl rfl))) (fun k hs _ => hT k (.inr (.inr (.inr hs)))), h.ask.kept hk (fun _ hs _ _ => hs) (fun k hv => hT k (.inr (.inr (.inl hv)))), h.mb, h.sm, h.sb, h.am, h.ab, h.sa, fun k hs => Nat.lt_of_lt_of_le (h.hi k hs) hk.size⟩
theorem lt (h : MIn w m b av S M) {k : Nat} (hk : MFoot m b av S k) : k < w.heap.size := by
  rcases hk with rfl | rfl | hk | hk
  · exact Blk.lt h.blk
  · exact h.map.lt
  · exact (h.ask.lt k hk).2
  · exact h.hi k hk
end MIn
namespace MAt
variable {w w' : World} {m : Nat} {M : MV} {F T : Nat → Prop}
theorem kept (h : MAt w m M F) (hk : Kp T w w') (hT : ∀ k, F k → ¬ T k) : MAt w' m M F := by
  obtain ⟨b, av, S, h1, h2⟩ := h
  exact ⟨b, av, S, h1.kept hk (fun k hf => hT k ((h2 k).2 hf)), h2⟩
theorem keptNo (h : MAt w m M F) (hk : Kp No w w') : MAt w' m M F := h.kept hk (fun _ _ x => x)
theorem lt (h : MAt w m M F) {k : Nat} (hk : F k) : k < w.heap.size := by
  obtain ⟨b, av, S, h1, h2⟩ := h
  exact h1.lt ((h2 k).1 hk)
end MAt
/-- what a model may hold -/
structure OkM (M : MV) : Prop where
  key : ∀ p l, mget p M.lines = some l → p = l.place
  low : ∀ p l, mget p M.lines = some l → 1 ≤ p.1 ∧ p.1 ≤ 1000000
  ahead : ∀ p l, mget p M.lines = some l → l.an = p.1 - 1
  hashes : ∀ p l, mget p M.lines = some l → l.op.hashes.length ≤ 1000000
end

section
open Go.RowKit Go.ChangeShapes Go.WideShapes Go.ChangeAt

def zeroO : OpL := ⟨0, 0, 0, 0, 0, 0, ByteArray.empty, 0, []⟩
theorem zero_line (w : World) : (zeroValue 71).run Try.prog w = .ok (lineV ⟨zeroO, 0, 0⟩ (.slice none 0 0)) w := by
  unfold lineV zeroO
  go_simp
  rfl
theorem run_load_line {w : World} {g o : Nat} {a : LineL} {A : Option Addr} {n c : Nat} (h : ∀ (k : Nat) u, (a.cells (.slice A n c))[k]? = some u → w.cell? ⟨g, o + k, none⟩ = some u) :
    (Instr.loadAt 71 (.pointer (some ⟨g, o, none⟩))).run Try.prog w = .ok (lineV a (.slice A n c)) w := by
  have y0 : w.cell? ⟨g, o, none⟩ = some _ := h 0 _ rfl
  have y1 : w.cell? ⟨g, o + 1, none⟩ = some _ := h 1 _ rfl
  have y2 : w.cell? ⟨g, o + 2, none⟩ = some _ := h 2 _ rfl
  have y3 : w.cell? ⟨g, o + 3, none⟩ = some _ := h 3 _ rfl
  have y4 : w.cell? ⟨g, o + 4, none⟩ = some _ := h 4 _ rfl
  have y5 : w.cell? ⟨g, o + 5, none⟩ = some _ := h 5 _ rfl
  have y6 : w.cell? ⟨g, o + 6, none⟩ = some _ := h 6 _ rfl
  have y7 : w.cell? ⟨g, o + 7, none⟩ = some _ := h 7 _ rfl
  have y8 : w.cell? ⟨g, o + 8, none⟩ = some _ := h 8 _ rfl
  have y9 : w.cell? ⟨g, o + 9, none⟩ = some _ := h 9 _ rfl
  have y10 : w.cell? ⟨g, o + 10, none⟩ = some _ := h 10 _ rfl
  clear h
  unfold lineV
  go_simp
theorem run_load_lop {w : World} {y : Nat} {o : OpL} {A : Option Addr} {n c : Nat} {p q : Value} (h : Blk w y 71 [.int .i64 o.n, .int .i64 o.epoch, .int .i64 o.kind, .int .i64 o.site, .int .i64 o.client, .int .i64 o.seq, .string o.name, .int .i64 o.size, .slice A n c, p, q]) :
    (Instr.loadAt 58 (.pointer (some ⟨y, 0, none⟩))).run Try.prog w = .ok (opV o (.slice A n c)) w := by
  have y0 : w.cell? ⟨y, 0, none⟩ = some _ := Blk.cell h rfl
  have y1 : w.cell? ⟨y, 1, none⟩ = some _ := Blk.cell h rfl
  have y2 : w.cell? ⟨y, 2, none⟩ = some _ := Blk.cell h rfl
  have y3 : w.cell? ⟨y, 3, none⟩ = some _ := Blk.cell h rfl
  have y4 : w.cell? ⟨y, 4, none⟩ = some _ := Blk.cell h rfl
  have y5 : w.cell? ⟨y, 5, none⟩ = some _ := Blk.cell h rfl
  have y6 : w.cell? ⟨y, 6, none⟩ = some _ := Blk.cell h rfl
  have y7 : w.cell? ⟨y, 7, none⟩ = some _ := Blk.cell h rfl
  have y8 : w.cell? ⟨y, 8, none⟩ = some _ := Blk.cell h rfl
  clear h
  unfold opV
  go_simp
theorem LnAt.at_ {w : World} {S : Nat → Prop} {g n : Nat} {l : List LineL} (h : LnAt w S g n l) {j : Nat} {a : LineL} (ha : l[j]? = some a) :
    a.nums ∧ ∃ A c, (∀ (k : Nat) u, (a.cells (.slice A a.op.hashes.length c))[k]? = some u → w.cell? ⟨g, j * 11 + k, none⟩ = some u) ∧ Rp.str.slice.R w S [.slice A a.op.hashes.length c] a.op.hashes := by
  obtain ⟨cs, h1, h2, h3, h4⟩ := h
  obtain ⟨h5, A, c, h6, h7⟩ := h4 j a ha
  exact ⟨h5, A, c, fun k u hu => h1.cell (h6 k u hu), h7⟩
theorem MIn.look {w : World} {m b : Nat} {av : Value} {S : Nat → Prop} {M : MV} (h : MIn w m b av S M) (p : Int × Int) : ∃ (a : LineL) (A : Option Addr) (n c : Nat) (B : Bool),
    (∀ w', Kp No w w' → (Instr.lookup 64 (.map (some b)) (spotV p) true).run Try.prog w' = .ok (.tuple #[lineV a (.slice A n c), .bool B]) w') ∧ ((B = true ∧ mget p M.lines = some a ∧ n = a.op.hashes.length ∧ Rp.str.slice.R w S [.slice A n c] a.op.hashes) ∨ (B = false ∧ mget p M.lines = none)) := by
  obtain ⟨u, B, h3, h4⟩ := h.map.look_all (P := Try.prog) spot_key Try.underlying64 p zero_line
  rcases h4 with ⟨rfl, a, cs, h5, rfl, hv, rfl, _, h6⟩ | ⟨rfl, h5, rfl⟩
  · obtain ⟨Av, cv, hv', _⟩ := id h6
    simp only [List.cons.injEq, and_true] at hv'
    subst hv'
    exact ⟨a, Av, _, cv, true, h3, .inl ⟨rfl, h5, rfl, h6⟩⟩
  · exact ⟨⟨zeroO, 0, 0⟩, none, 0, 0, false, h3, .inr ⟨rfl, h5⟩⟩
theorem MIn.nums {w : World} {m b : Nat} {av : Value} {S : Nat → Prop} {M : MV} (h : MIn w m b av S M) {p : Int × Int} {a : LineL} (hg : mget p M.lines = some a) : a.nums := by
  obtain ⟨lv, _, _, h3⟩ := h.map
  obtain ⟨cs, _, hv, _, h4, _⟩ := h3 p a hg
  exact h4
end

section
open Go.RowKit Go.ChangeShapes Go.WideShapes Go.ChangeAt

/-- new since w0, but for a slice's own row -/
def NewX (w0 w : World) (v : Value) : Nat → Prop := fun k => w0.heap.size ≤ k ∧ k < w.heap.size ∧ v.ownBlock ≠ some k
theorem opl_lit (w : World) (o : OpL) (hv : Value) (S : Nat → Prop) (hS : S w.heap.size) (hn : o.nums) (hr : Rp.str.slice.R w S [hv] o.hashes) :
    Rp.opl.slice.R (w.alloc (.cells (o.cells hv).toArray 58)) S [.slice (some ⟨w.heap.size, 0, none⟩) 1 1] [o] := by
  refine ⟨_, _, rfl, Nat.le_refl _, by unfold maxLen; omega, fun _ => ⟨_, rfl, hS, fun i a hi => ?_⟩⟩
  obtain rfl : i = 0 := by have := (List.getElem?_eq_some_iff.1 hi).1; simp at this; exact this
  injection hi with hi
  subst hi
  refine ⟨o.cells hv, fun j u hu => ?_, hv, rfl, hn, Rp.str.slice.keptNo hr ((Kp.refl _ _).alloc _)⟩
  rw [Addr.add_lit, Addr.add_lit]
  have hb : Blk (w.alloc (.cells (o.cells hv).toArray 58)) w.heap.size 58 (o.cells hv) := Blk.new w (o.cells hv) _
  have h2 := hb.cell hu
  simpa using h2
set_option maxRecDepth 100000 in
set_option maxHeartbeats 2000000 in
theorem r_ownops (l : List OpL) (A : Option Addr) (c : Nat) (w : World) (S : Nat → Prop) (hl : Rp.opl.slice.R w S [.slice A l.length c] l) (hll : l.length ≤ 1000000) (hsm : ∀ o ∈ l, o.hashes.length ≤ 1000000) :
    Calls Try.prog 8 #[.slice A l.length c] w fun e w' => ∃ A' c', e = .returned (.slice A' l.length c') ∧ Own Rp.opl w' (NewX w w' (.slice A' l.length c')) w.heap.size 58 (.slice A' l.length c') l ∧ Kp No w w' := by
  have HL := Lib.hid hl
  have HSM := Lib.hid hsm
  clear hl hsm
  go_enter Try.func8, Try.ntmps8
  go_wp2_with fail
  go_loopw [3, 4] (fun ov iv wr => ∃ i : Nat, i ≤ l.length ∧ iv = .int .i64 (i : Int) ∧ Hid (Own Rp.opl wr (NewX w wr ov) w.heap.size 58 ov (l.take i)) ∧ Hid (Kp No w wr)) (fun _ iv _ => l.length - (intOf iv).toNat)
  case atStart => exact ⟨0, Nat.zero_le _, rfl, Lib.hid (Own.nil _ _ _ _ _), Lib.hid (Kp.refl _ _)⟩
  case round =>
    obtain ⟨i, hi, rfl, HO, HK⟩ := hrel
    obtain ⟨Av, cv, rfl⟩ := HO.out.shape
    have hDi : (l.take i).length = i := by rw [List.length_take]; omega
    by_cases hlt : i < l.length
    · have hli : (i : Int) < (l.length : Int) := by omega
      obtain ⟨o, ho⟩ : ∃ o, l[i]? = some o := ⟨_, List.getElem?_eq_getElem hlt⟩
      have hst : l.take (i + 1) = l.take i ++ [o] := by
        obtain ⟨e1, e2⟩ := List.getElem?_eq_some_iff.1 ho
        rw [List.take_succ_eq_append_getElem e1, e2]
      have hos := HSM.out o (List.mem_of_getElem? ho)
      obtain ⟨ad, A', c', rfl, _, hcell, hnum, hrd⟩ := Rp.at_opl (Rp.opl.slice.keptNo HL.out HK.out) ho
      obtain ⟨z0, z1, z2, z3, z4, z5, z6, z7, z8⟩ := opl_cells hcell
      have HNUM := Lib.hid hnum
      have HRD := Lib.hid (Rp.str.slice.keptNo hrd ((Kp.refl No wr).alloc (.cells #[.int .i64 o.n, .int .i64 o.epoch, .int .i64 o.kind, .int .i64 o.site, .int .i64 o.client, .int .i64 o.seq, .string o.name, .int .i64 o.size, .slice A' o.hashes.length c'] 58)))
      have HBO := Lib.hid (Blk.new wr [.int .i64 o.n, .int .i64 o.epoch, .int .i64 o.kind, .int .i64 o.site, .int .i64 o.client, .int .i64 o.seq, .string o.name, .int .i64 o.size, .slice A' o.hashes.length c'] 58)
      have hsz : (wr.alloc (.cells #[.int .i64 o.n, .int .i64 o.epoch, .int .i64 o.kind, .int .i64 o.site, .int .i64 o.client, .int .i64 o.seq, .string o.name, .int .i64 o.size, .slice A' o.hashes.length c'] 58)).heap.size = wr.heap.size + 1 := by simp
      have HGE := Lib.hid (Nat.le_of_eq hsz)
      have HNW : Hid (((wr.alloc (.cells #[.int .i64 o.n, .int .i64 o.epoch, .int .i64 o.kind, .int .i64 o.site, .int .i64 o.client, .int .i64 o.seq, .string o.name, .int .i64 o.size, .slice A' o.hashes.length c'] 58)).alloc (.cells #[] 9)).heap[wr.heap.size + 1]? = some (.cells #[] 9 (0, 0))) := Lib.hid (by rw [← hsz]; exact heap_alloc_new _ _)
      clear hsz
      obtain ⟨E, hE⟩ : ∃ E, l.take i = E := ⟨_, rfl⟩
      rw [hE] at HO hst hDi
      rw [hE]
      have HST := Lib.hid hst
      have hEl : E.length ≤ 1000000 := by omega
      have HDI := Lib.hid hDi
      clear hDi
      clear ho hst hcell hnum hrd hE
      go_wp2_with (at_builtin; first
        | (refine wpList_copy_at (E := Rp.str) rfl (wr.alloc (.cells #[.int .i64 o.n, .int .i64 o.epoch, .int .i64 o.kind, .int .i64 o.site, .int .i64 o.client, .int .i64 o.seq, .string o.name, .int .i64 o.size, .slice A' o.hashes.length c'] 58)) _ (wr.heap.size + 1) (.tmp 16) (.tmp 19) 38 rfl 9 16 el_strL rfl HNW.out HGE.out ((Kp.refl _ _).alloc _) A' c' S o.hashes rfl HRD.out Rp.str_one (by omega) ?_
           intro A5 c5 w5 hown5 hk5
           have hb5 := Blk.kept HBO.out hk5 (fun x => x)
           have y0 : w5.cell? ⟨wr.heap.size, 0, none⟩ = some _ := Blk.cell hb5 rfl
           have y1 : w5.cell? ⟨wr.heap.size, 1, none⟩ = some _ := Blk.cell hb5 rfl
           have y2 : w5.cell? ⟨wr.heap.size, 2, none⟩ = some _ := Blk.cell hb5 rfl
           have y3 : w5.cell? ⟨wr.heap.size, 3, none⟩ = some _ := Blk.cell hb5 rfl
           have y4 : w5.cell? ⟨wr.heap.size, 4, none⟩ = some _ := Blk.cell hb5 rfl
           have y5 : w5.cell? ⟨wr.heap.size, 5, none⟩ = some _ := Blk.cell hb5 rfl
           have y6 : w5.cell? ⟨wr.heap.size, 6, none⟩ = some _ := Blk.cell hb5 rfl
           have y7 : w5.cell? ⟨wr.heap.size, 7, none⟩ = some _ := Blk.cell hb5 rfl
           have y8 : w5.cell? ⟨wr.heap.size, 8, none⟩ = some _ := Blk.cell hb5 rfl
           have g8 := Blk.fr hb5 8
           have hb6 := Blk.set hb5 8 (.slice A5 o.hashes.length c5)
           have hk6 : Kp No wr (w5.setCell ⟨wr.heap.size, 8, none⟩ (.slice A5 o.hashes.length c5)) := (((Kp.refl No wr).alloc _).trans' hk5).trans ((Kp.refl (· = wr.heap.size) w5).setCell (p := ⟨wr.heap.size, 8, none⟩) (fun _ => rfl) _) (fun k hk e => absurd hk (by omega))
           have hsz6 : (w5.setCell ⟨wr.heap.size, 8, none⟩ (.slice A5 o.hashes.length c5)).heap.size = w5.heap.size := by simp
           have hw5 : wr.heap.size < w5.heap.size := Blk.lt hb5
           have hr6 : Rp.str.slice.R (w5.setCell ⟨wr.heap.size, 8, none⟩ (.slice A5 o.hashes.length c5)) (fun k => wr.heap.size < k ∧ k < w5.heap.size) [.slice A5 o.hashes.length c5] o.hashes := by
             have h := (hown5.str_any (fun k => wr.heap.size < k ∧ k < w5.heap.size)).read (fun k hk => ⟨by have := (hown5.lt k hk).1; omega, (hown5.lt k hk).2⟩)
             exact Rp.str.slice.kept h ((Kp.refl (· = wr.heap.size) w5).setCell (p := ⟨wr.heap.size, 8, none⟩) (fun _ => rfl) _) (fun k hk _ e => by have := hk.1; omega)
           have hsrc := opl_lit (w5.setCell ⟨wr.heap.size, 8, none⟩ (.slice A5 o.hashes.length c5)) o (.slice A5 o.hashes.length c5) (fun k => w.heap.size ≤ k ∧ k < w5.heap.size + 1 ∧ (Value.slice Av E.length cv).ownBlock ≠ some k) (by
             rw [hsz6]
             refine ⟨by have := HK.out.size; omega, by omega, fun h => ?_⟩
             have := (HO.out.lt _ h).2
             omega) HNUM.out (Rp.str.slice.more hr6 (fun k hk => ⟨by have := HK.out.size; omega, by omega, fun h => by have := (HO.out.lt _ h).2; omega⟩))
           rw [hsz6] at hsrc
           have HSRC := Lib.hid hsrc
           have HOW : Hid (Own Rp.opl ((w5.setCell ⟨wr.heap.size, 8, none⟩ (.slice A5 o.hashes.length c5)).alloc (.cells (o.cells (.slice A5 o.hashes.length c5)).toArray 58)) (fun k => w.heap.size ≤ k ∧ k < w5.heap.size + 1 ∧ (Value.slice Av E.length cv).ownBlock ≠ some k) w.heap.size 58 (.slice Av E.length cv) E) := Lib.hid ((HO.out.keptNo (hk6.alloc _)).mono (Nat.le_refl _) (fun k hk => ⟨hk.1, by have := hk.2.1; omega, hk.2.2⟩))
           have HK6 := Lib.hid (hk6.alloc (.cells (o.cells (.slice A5 o.hashes.length c5)).toArray 58))
           have HSZ7 : Hid (((w5.setCell ⟨wr.heap.size, 8, none⟩ (.slice A5 o.hashes.length c5)).alloc (.cells (o.cells (.slice A5 o.hashes.length c5)).toArray 58)).heap.size = w5.heap.size + 1) := Lib.hid (by simp)
           have HLTO := Lib.hid HO.out.lt
           clear hown5 hk5 hb5 hb6 hk6 hsz6 hr6 hsrc z0 z1 z2 z3 z4 z5 z6 z7 z8)
        | (refine wpList_append_rp (E := Rp.opl) rfl _ (.tmp 23) (.tmp 25) 32 rfl w.heap.size 58 96 el_op (fun k => w.heap.size ≤ k ∧ k < w5.heap.size + 1 ∧ (Value.slice Av E.length cv).ownBlock ≠ some k) (.slice Av E.length cv) E rfl HOW.out (some ⟨w5.heap.size, 0, none⟩) 1 (fun k => w.heap.size ≤ k ∧ k < w5.heap.size + 1 ∧ (Value.slice Av E.length cv).ownBlock ≠ some k) [o] rfl HSRC.out Rp.opl_one ?hcap ?hby ?hbase (fun _ h => h) (fun k hk h => h.2.2 hk) ?_
           case hcap => simp [maxLen]; omega
           case hby => simp; omega
           case hbase => have h1 := HK.out.size; have h2 := HK6.out.size; exact Nat.le_trans h1 h2
           intro v9 w9 hown9 hg9 hbl9
           obtain ⟨A9, c9, rfl⟩ := hown9.shape
           have hk9 : Kp No w w9 := (HK.out.trans' HK6.out).grown hg9 (fun k hk hlt => by have := (HLTO.out k hk).1; omega)
           have hs9 : w5.heap.size + 1 ≤ w9.heap.size := Nat.le_trans (Nat.le_of_eq HSZ7.out.symm) ((Kp.refl (fun _ => True) _).grown hg9 (fun _ _ _ => trivial)).size
           have hbl9 : (Value.slice A9 (E ++ [o]).length c9).ownBlock = (Value.slice Av E.length cv).ownBlock ∨ (Value.slice A9 (E ++ [o]).length c9).ownBlock = some (w5.heap.size + 1) := hbl9.imp id (fun h => h.trans (congrArg some HSZ7.out))
           have HO9 : Hid (Own Rp.opl w9 (NewX w w9 (.slice A9 (E ++ [o]).length c9)) w.heap.size 58 (.slice A9 (E ++ [o]).length c9) (E ++ [o])) := Lib.hid (hown9.mono (Nat.le_refl _) (fun k hk => ⟨hk.1, by have := hk.2.1; omega, fun h => by
             rcases hbl9 with h2 | h2
             · exact hk.2.2 (h2 ▸ h)
             · rw [h2] at h; injection h with h; have := hk.2.1; omega⟩))
           have HK9 := Lib.hid hk9
           clear hown9 hg9 hbl9 hk9 hs9 HOW HSRC HK6 y0 y1 y2 y3 y4 y5 y6 y7 y8 g8))
      have hle : (E ++ [o]).length = E.length + 1 := by simp
      rw [hle, ← HST.out] at HO9
      go_roundw
      case rel => exact ⟨i + 1, by omega, by go_num, HO9, HK9⟩
      case measure => simp [intOf]; omega
    · obtain rfl : i = l.length := by omega
      have hall : l.take l.length = l := List.take_length
      rw [hall] at HO
      have HO2 := HO
      have hle : (l.take l.length).length = l.length := by rw [hall]
      clear hDi
      go_wp2_with fail
      go_ret
      refine ⟨_, _, ?_, HO2.out, HK.out⟩
      rw [hle]
      rfl
end
end Go.Proofs.Ytamfgmlhopjppaa
