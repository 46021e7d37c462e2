/-
  In whatever order ledgers are seen, the tree is the same: ModelOrder answers true for every input of bulk at most 1048576. (Said is false BY SIZE.)
-/
import Derived.Test.YtbncblnchcmgbaaPlyA
import Derived.Test.YtbncblnchcmgbaaDeed6
import Derived.Test.YtbncblnchcmgbaaOrdL
import Derived.Test.YtbncblnchcmgbaaMod3
import Derived.Test.YtbncblnchcmgbaaModF
import Derived.Test.YtbncblnchcmgbaaRow
import Derived.Test.YtbncblnchcmgbaaDeed4
namespace Go.Proofs.Ytbncblnchcmgbaa
section
open Go.RowKit Go.ChangeShapes Go.WideShapes Go.ChangeAt

def spotsL (l : List OpL) : List (Int × Int) := [(0, 0), (1, 1), (3, 2)] ++ l.map (fun o => (o.n, o.epoch))
theorem el_spot : Elem Try.prog 64 54 2 16 := Elem.of Try.underlying64 (z := .agg #[.int .i64 0, .int .i64 0]) (by kernel_rfl) rfl (by decide)
theorem Rp.spot_one {w : World} : ∀ cs a S', Rp.spot.R w S' cs a → ∀ u ∈ cs, u.oneCell' = true := by
  rintro cs a S' ⟨rfl, _⟩ u hu
  simp only [List.mem_cons, List.not_mem_nil, or_false] at hu
  rcases hu with rfl | rfl <;> rfl
theorem spot_lit (w : World) (p : Int × Int) (S : Nat → Prop) (hS : S w.heap.size) (h1 : I64 p.1) (h2 : I64 p.2) :
    Rp.spot.slice.R (w.alloc (.cells #[.int .i64 p.1, .int .i64 p.2] 54)) S [.slice (some ⟨w.heap.size, 0, none⟩) 1 1] [p] := by
  refine ⟨_, _, rfl, Nat.le_refl _, by unfold maxLen; simp, fun _ => ⟨_, rfl, hS, fun i b hi => ?_⟩⟩
  obtain rfl : i = 0 := by have := (List.getElem?_eq_some_iff.1 hi).1; simp at this; exact this
  injection hi with hi
  subst hi
  refine ⟨[.int .i64 p.1, .int .i64 p.2], fun j u hu => ?_, rfl, h1, h2⟩
  rw [Addr.add_lit, Addr.add_lit]
  have hb : Blk (w.alloc (.cells #[.int .i64 p.1, .int .i64 p.2] 54)) w.heap.size 54 [.int .i64 p.1, .int .i64 p.2] := Blk.new w _ _
  have h2 := hb.cell hu
  simpa using h2
theorem spot_three (w : World) : Own Rp.spot (w.alloc (.cells #[.int .i64 0, .int .i64 0, .int .i64 1, .int .i64 1, .int .i64 3, .int .i64 2] 54)) No w.heap.size 54 (.slice (some ⟨w.heap.size, 0, none⟩) 3 3) [(0, 0), (1, 1), (3, 2)] := by
  refine ⟨[.int .i64 0, .int .i64 0, .int .i64 1, .int .i64 1, .int .i64 3, .int .i64 2], ⟨rfl, .inr ⟨w.heap.size, 3, _, rfl, Nat.le_refl _, heap_alloc_new _ _, Nat.le_refl _, by unfold maxLen; omega, rfl, rfl⟩⟩, ?_, fun i a hi => ?_⟩
  · intro u hu
    simp only [List.mem_cons, List.not_mem_nil, or_false] at hu
    rcases hu with rfl | rfl | rfl | rfl | rfl | rfl <;> rfl
  · match i, hi with
    | 0, hi => injection hi with hi; subst hi; exact ⟨rfl, rfl, rfl⟩
    | 1, hi => injection hi with hi; subst hi; exact ⟨rfl, rfl, rfl⟩
    | 2, hi => injection hi with hi; subst hi; exact ⟨rfl, rfl, rfl⟩
    | n + 3, hi => simp at hi
theorem Own.spot_any {w : World} {S : Nat → Prop} {base : Nat} {e : TypeId} {v : Value} {l : List (Int × Int)} (h : Own Rp.spot w S base e v l) (S' : Nat → Prop) : Own Rp.spot w S' base e v l := by
  obtain ⟨xs, q1, q2, q3⟩ := h
  exact ⟨xs, q1, q2, fun i a ha => q3 i a ha⟩
set_option maxRecDepth 100000 in
set_option maxHeartbeats 4000000 in
theorem h_spots (l : List OpL) (A : Option Addr) (c : Nat) (w : World) (S : Nat → Prop) (hl : Rp.opl.slice.R w S [.slice A l.length c] l) (hll : l.length ≤ 1000000) :
    Calls Try.prog 19 #[.slice A l.length c] w fun e w' => ∃ A' c', e = .returned (.slice A' (spotsL l).length c') ∧ Rp.spot.slice.R w' (fun k => w.heap.size ≤ k) [.slice A' (spotsL l).length c'] (spotsL l) ∧ Kp No w w' := by
  have HL := Lib.hid hl
  have h3 : Hid (Own Rp.spot (w.alloc (.cells #[.int .i64 0, .int .i64 0, .int .i64 1, .int .i64 1, .int .i64 3, .int .i64 2] 54)) No w.heap.size 54 (.slice (some ⟨w.heap.size, 0, none⟩) 3 3) (spotsL (l.take 0))) := Lib.hid (spot_three w)
  have hk3 : Hid (Kp No w (w.alloc (.cells #[.int .i64 0, .int .i64 0, .int .i64 1, .int .i64 1, .int .i64 3, .int .i64 2] 54))) := Lib.hid ((Kp.refl _ _).alloc _)
  clear hl
  go_enter Try.func19, Try.ntmps19
  go_wp2_with fail
  go_loopw [3, 12] (fun ov iv wr => ∃ i : Nat, i ≤ l.length ∧ iv = .int .i64 (i : Int) ∧ Hid (Own Rp.spot wr No w.heap.size 54 ov (spotsL (l.take i))) ∧ Hid (Kp No w wr)) (fun _ iv _ => l.length - (intOf iv).toNat)
  case atStart => exact ⟨0, Nat.zero_le _, rfl, h3, hk3⟩
  case round =>
    obtain ⟨i, hi, rfl, HO, HK⟩ := hrel
    obtain ⟨Av, cv, rfl⟩ := HO.out.shape
    by_cases hlt : i < l.length
    · have hli : (i : Int) < (l.length : Int) := by omega
      obtain ⟨o, ho⟩ : ∃ o, l[i]? = some o := ⟨_, List.getElem?_eq_getElem hlt⟩
      have HST : Hid (spotsL (l.take (i + 1)) = spotsL (l.take i) ++ [(o.n, o.epoch)]) := Lib.hid (by
        rw [List.take_add_one, ho]
        simp [spotsL])
      have HEL : Hid ((spotsL (l.take i)).length ≤ 1000003) := Lib.hid (by simp [spotsL]; omega)
      obtain ⟨ad, A', c', rfl, _, hcell, hnum, _⟩ := Rp.at_opl (Rp.opl.slice.keptNo HL.out HK.out) ho
      obtain ⟨z0, z1, z2, z3, z4, z5, z6, z7, z8⟩ := opl_cells hcell
      obtain ⟨E, hE⟩ : ∃ E, spotsL (l.take i) = E := ⟨_, rfl⟩
      rw [hE] at HO HST HEL
      obtain ⟨w1, hw1⟩ : ∃ v, wr.alloc (.cells #[.int .i64 o.n, .int .i64 o.epoch, .int .i64 o.kind, .int .i64 o.site, .int .i64 o.client, .int .i64 o.seq, .string o.name, .int .i64 o.size, .slice A' o.hashes.length c'] 38) = v := ⟨_, rfl⟩
      have hk1 : Kp No wr w1 := by rw [← hw1]; exact (Kp.refl _ _).alloc _
      have hbx : Blk w1 wr.heap.size 38 [.int .i64 o.n, .int .i64 o.epoch, .int .i64 o.kind, .int .i64 o.site, .int .i64 o.client, .int .i64 o.seq, .string o.name, .int .i64 o.size, .slice A' o.hashes.length c'] := by rw [← hw1]; exact Blk.new wr _ _
      have x0 : w1.cell? ⟨wr.heap.size, 0, none⟩ = some _ := Blk.cell hbx rfl
      have x1 : w1.cell? ⟨wr.heap.size, 1, none⟩ = some _ := Blk.cell hbx rfl
      clear hbx
      obtain ⟨g1, hg1⟩ : ∃ v, w1.heap.size = v := ⟨_, rfl⟩
      have hsz : w1.heap.size = wr.heap.size + 1 := by rw [← hw1]; simp
      have hsrc := spot_lit w1 (o.n, o.epoch) (fun k => k = g1) hg1 hnum.1 hnum.2.1
      obtain ⟨w2, hw2⟩ : ∃ v, w1.alloc (.cells #[.int .i64 o.n, .int .i64 o.epoch] 54) = v := ⟨_, rfl⟩
      have hk2 : Kp No w1 w2 := by rw [← hw2]; exact (Kp.refl _ _).alloc _
      rw [hg1] at hsrc
      simp only at hsrc
      rw [hw2] at hsrc
      have HSRC := Lib.hid hsrc
      have HO2 := Lib.hid ((HO.out.keptNo (hk1.trans' hk2)).spot_any (fun k => k = g1))
      have HK2 := Lib.hid (HK.out.trans' (hk1.trans' hk2))
      have HLTO : Hid (∀ k, (Value.slice Av E.length cv).ownBlock = some k → k < g1) := Lib.hid (fun k hk => by have := (HO.out.lt k hk).2; omega)
      have HBW : Hid (w.heap.size ≤ w2.heap.size) := Lib.hid HK2.out.size
      rw [hE]
      clear hcell hnum ho hk1 hk2 hsrc hE hsz
      go_wp2_with (at_builtin; refine wpList_append_rp (E := Rp.spot) rfl _ (.tmp 16) (.tmp 22) 64 rfl w.heap.size 54 16 el_spot (fun k => k = g1) (.slice Av E.length cv) E rfl HO2.out (some ⟨g1, 0, none⟩) 1 (fun k => k = g1) [(o.n, o.epoch)] rfl HSRC.out Rp.spot_one ?hcap ?hby HBW.out (fun _ h => h) ?hsv ?_)
      case hcap => have := HEL.out; simp [maxLen]; omega
      case hby => have := HEL.out; simp; omega
      case hsv => exact fun k hk e => by have := HLTO.out k hk; omega
      intro v3 w3 hown3 hg3 _
      have HO3 := Lib.hid (hown3.spot_any No)
      have HK3 := Lib.hid (HK2.out.grown hg3 (fun k hk hlt => by have := (HO2.out.lt k hk).1; omega))
      rw [← HST.out] at HO3
      clear hown3 hg3
      go_wp2_with fail
      go_roundw
      case rel => exact ⟨i + 1, by omega, by go_num, HO3, HK3⟩
      case measure => simp [intOf]; omega
    · obtain rfl : i = l.length := by omega
      have hall : l.take l.length = l := List.take_length
      rw [hall] at HO ⊢
      go_wp2_with fail
      go_ret
      exact ⟨_, _, rfl, Rp.spot.slice.more HO.out.readFrom (fun k hk => by
        rcases hk with hk | hk
        · exact hk.elim
        · exact hk), HK.out⟩
end

section
open Go.RowKit Go.ChangeShapes Go.WideShapes Go.ChangeAt

theorem sumμ_memP {α : Type} {f : α → Nat} {a : α} : ∀ {l : List α}, a ∈ l → f a ≤ Rp.sumμ f l
  | b :: l, h => by
    unfold Rp.sumμ
    rw [List.map_cons, List.sum_cons]
    rcases List.mem_cons.1 h with rfl | h
    · omega
    · have := sumμ_memP (f := f) h
      unfold Rp.sumμ at this
      omega
theorem sumμ_lengthP {α : Type} {f : α → Nat} (hf : ∀ a, 1 ≤ f a) : ∀ l : List α, l.length ≤ Rp.sumμ f l
  | [] => Nat.zero_le _
  | b :: l => by
    have := sumμ_lengthP hf l
    have := hf b
    unfold Rp.sumμ at *
    rw [List.map_cons, List.sum_cons, List.length_cons]; omega
theorem strs_μP (l : List ByteArray) : l.length + 1 ≤ Rp.str.slice.μ l := by
  have := sumμ_lengthP (f := Rp.str.μ) (fun a => by show 1 ≤ a.size + 1; omega) l
  show _ ≤ 1 + Rp.sumμ Rp.str.μ l
  omega
theorem opl_μP (o : OpL) : o.hashes.length + 1 ≤ Rp.opl.μ o ∧ o.name.size ≤ Rp.opl.μ o := by
  have := strs_μP o.hashes
  have e : Rp.opl.μ o = o.name.size + Rp.str.slice.μ o.hashes := rfl
  omega
theorem ops_μP (l : List OpL) : l.length + 1 ≤ Rp.opl.slice.μ l ∧ ∀ o ∈ l, o.hashes.length ≤ Rp.opl.slice.μ l ∧ o.name.size ≤ Rp.opl.slice.μ l := by
  have h2 := sumμ_lengthP (f := Rp.opl.μ) (fun o => by have := (opl_μP o).1; omega) l
  have e : Rp.opl.slice.μ l = 1 + Rp.sumμ Rp.opl.μ l := rfl
  refine ⟨by omega, fun o ho => ?_⟩
  have h3 := sumμ_memP (f := Rp.opl.μ) ho
  have h4 := opl_μP o
  omega
theorem rows_μP {rows : List (List OpL)} (h : Rp.opl.slice.slice.μ rows ≤ 1048576) : rows.length ≤ 1048576 ∧ ∀ l ∈ rows, l.length ≤ 1048576 ∧ ∀ o ∈ l, o.hashes.length ≤ 1048576 ∧ o.name.size ≤ 1048576 := by
  have e : Rp.opl.slice.slice.μ rows = 1 + Rp.sumμ Rp.opl.slice.μ rows := rfl
  have h2 := sumμ_lengthP (f := Rp.opl.slice.μ) (fun o => by have := (ops_μP o).1; omega) rows
  refine ⟨by omega, fun l hl => ?_⟩
  have h3 := sumμ_memP (f := Rp.opl.slice.μ) hl
  obtain ⟨h4, h5⟩ := ops_μP l
  refine ⟨by omega, fun o ho => ?_⟩
  have := h5 o ho
  omega
structure TwoM (W w : World) (a : Nat) (A : MV) (FA : Nat → Prop) (b : Nat) (B : MV) (FB : Nat → Prop) : Prop where
  ma : MAt w a A FA
  mb : MAt w b B FB
  na : ∀ k, FA k → W.heap.size ≤ k
  nb : ∀ k, FB k → W.heap.size ≤ k
  dj : ∀ k, FA k → ¬ FB k
  kp : Kp No W w
  oa : OkM A
  ob : OkM B
namespace TwoM
variable {W w w' : World} {a b : Nat} {A A' B B' : MV} {FA FB F' : Nat → Prop}
theorem keptNo (h : TwoM W w a A FA b B FB) (hk : Kp No w w') : TwoM W w' a A FA b B FB :=
  ⟨h.ma.keptNo hk, h.mb.keptNo hk, h.na, h.nb, h.dj, h.kp.trans' hk, h.oa, h.ob⟩
theorem swap (h : TwoM W w a A FA b B FB) : TwoM W w b B FB a A FA :=
  ⟨h.mb, h.ma, h.nb, h.na, fun k h1 h2 => h.dj k h2 h1, h.kp, h.ob, h.oa⟩
theorem turnA (h : TwoM W w a A FA b B FB) (hm : MAt w' a A' F') (hu : Upd FA w w' F') (hok : OkM A') : TwoM W w' a A' F' b B FB :=
  ⟨hm, h.mb.kept hu.kp (fun k hb ha => h.dj k ha hb), fun k hk => (hu.foot k hk).elim (h.na k) (fun hle => Nat.le_trans h.kp.size hle), h.nb, fun k hk hb => (hu.foot k hk).elim (fun ha => h.dj k ha hb) (fun hle => by have := h.mb.lt hb; omega), h.kp.trans hu.kp (fun i hi ha => by have := h.na i ha; omega), hok, h.ob⟩
theorem turnB (h : TwoM W w a A FA b B FB) (hm : MAt w' b B' F') (hu : Upd FB w w' F') (hok : OkM B') : TwoM W w' a A FA b B' F' := (h.swap.turnA hm hu hok).swap
end TwoM
/-- what was seen so far -/
structure SeenM (rows : List (List OpL)) (M : MV) : Prop where
  frm : FromM M rows
  row : ∀ l ∈ rows, rowB 0 0 l = true
  has : ∀ l ∈ rows, HasM M l
theorem SeenM.nil : SeenM [] ⟨[], []⟩ := ⟨FromM.nil, fun l h => by simp at h, fun l h => by simp at h⟩
theorem SeenM.see {rows : List (List OpL)} {M : MV} {l : List OpL} (h : SeenM rows M) (hok : OkM M) (hs : (seeL l M).1 = 0) : SeenM (rows ++ [l]) (seeL l M).2 := by
  obtain ⟨h1, h2, h3, _⟩ := see_ok hok hs
  refine ⟨h.frm.see hok hs, fun k hk => ?_, fun k hk => ?_⟩
  · rcases List.mem_append.1 hk with hk | hk
    · exact h.row k hk
    · rw [List.mem_singleton.1 hk]; exact h1
  · rcases List.mem_append.1 hk with hk | hk
    · exact (h.has k hk).sub h2
    · rw [List.mem_singleton.1 hk]; exact h3
/-- a tree that has all rows, and nothing else -/
structure AsM (rows : List (List OpL)) (A0 A : MV) : Prop where
  sub : SubM A A0
  sup : SubM A0 A
  frm : FromM A rows
theorem AsM.see {rows : List (List OpL)} {A0 A : MV} {l : List OpL} (h : AsM rows A0 A) (h0 : SeenM rows A0) (hok : OkM A) (hl : l ∈ rows) : (seeL l A).1 = 0 ∧ AsM rows A0 (seeL l A).2 := by
  have hs := see_fits (h0.row l hl) h.sub (h0.has l hl)
  obtain ⟨_, h2, _, _⟩ := see_ok hok hs
  refine ⟨hs, see_in hok (h0.row l hl) h.sub (h0.has l hl), h.sup.trans h2, (h.frm.see hok hs).more (fun k hk => ?_)⟩
  rcases List.mem_append.1 hk with hk | hk
  · exact hk
  · rw [List.mem_singleton.1 hk]; exact hl
/-- a tree that has the last rows -/
structure EndM (rows : List (List OpL)) (k : Nat) (A0 B : MV) : Prop where
  sub : SubM B A0
  has : ∀ l ∈ rows.drop k, HasM B l
theorem EndM.see {rows : List (List OpL)} {A0 B : MV} {l : List OpL} {k : Nat} (h : EndM rows (k + 1) A0 B) (h0 : SeenM rows A0) (hok : OkM B) (hl : rows[k]? = some l) : (seeL l B).1 = 0 ∧ EndM rows k A0 (seeL l B).2 := by
  have hm := List.mem_of_getElem? hl
  have hs := see_fits (h0.row l hm) h.sub (h0.has l hm)
  obtain ⟨_, h2, h3, _⟩ := see_ok hok hs
  refine ⟨hs, see_in hok (h0.row l hm) h.sub (h0.has l hm), fun x hx => ?_⟩
  obtain ⟨e1, e2⟩ := List.getElem?_eq_some_iff.1 hl
  rw [List.drop_eq_getElem_cons e1, e2] at hx
  rcases List.mem_cons.1 hx with rfl | hx
  · exact h3
  · exact (h.has x hx).sub h2
theorem EndM.all {rows : List (List OpL)} {A0 B : MV} (h : EndM rows 0 A0 B) (h0 : SeenM rows A0) : SubM A0 B := fun p x hx => by
  obtain ⟨l, hl, _, _, rfl, hm⟩ := h0.frm p x hx
  exact h.has l (by simpa using hl) x hm
theorem EndM.start (rows : List (List OpL)) (A0 : MV) : EndM rows rows.length A0 ⟨[], []⟩ := ⟨fun p x h => (by cases h), fun l hl => (by simp at hl)⟩
end

section
open Go.RowKit Go.ChangeShapes Go.WideShapes Go.ChangeAt

/-- a call with short lists -/
def SmallPl (k : Nat) (o : PlayL) : Prop := o.ops.length ≤ k ∧ (∀ x ∈ o.ops, x.hashes.length ≤ k ∧ x.name.size ≤ k) ∧ o.rep.names.length ≤ k ∧ o.ask.data.size ≤ k ∧ o.rep.data.size ≤ k
def GreatP (l : List PlayL) (e : Ending) : Prop := ∃ B, e = .returned (.bool B) ∧ (B = false → l.length ≤ 60 ∧ ∀ o ∈ l, SmallPl 4096 o)
set_option maxRecDepth 100000 in
set_option maxHeartbeats 4000000 in
theorem h_great26S (l : List PlayL) (A : Option Addr) (c : Nat) (w : World) (S : Nat → Prop) (hl : Rp.play.slice.R w S [.slice A l.length c] l) (hsm : ∀ o ∈ l, SmallPl 1048576 o) :
    Calls Try.prog 15 #[.slice A l.length c] w fun e w' => GreatP l e ∧ Kp No w w' := by
  have HL := Lib.hid hl
  have HSM := Lib.hid hsm
  have hll : (l.length : Int) ≤ 9223372036854775807 := by obtain ⟨_, _, he, h1, h2, _⟩ := hl; unfold maxLen at h2; omega
  clear hl hsm
  go_enter Try.func15, Try.ntmps15
  go_wp2_with fail
  go_loopw [3, 10] (fun nv iv wr => ∃ (i : Nat) (x : Int), i ≤ l.length ∧ iv = .int .i64 (i : Int) ∧ nv = .int .i64 x ∧ 0 ≤ x ∧ x ≤ 4096 ∧ Hid (∀ (j : Nat) o, j < i → l[j]? = some o → SmallPl 4096 o) ∧ Hid (Kp No w wr)) (fun _ iv _ => l.length - (intOf iv).toNat)
  case atStart => exact ⟨0, 0, by omega, rfl, rfl, by omega, by omega, Lib.hid (fun j o hj => absurd hj (by omega)), Lib.hid (Kp.refl _ _)⟩
  case round =>
    obtain ⟨i, x, hi, rfl, rfl, hx0, hx1, HP, HK⟩ := hrel
    by_cases hlt : i < l.length
    · have hli : (i : Int) < (l.length : Int) := by omega
      obtain ⟨o, ho⟩ : ∃ o, l[i]? = some o := ⟨_, List.getElem?_eq_getElem hlt⟩
      obtain ⟨ad, O, co, N, cn, L, cl, rfl, _, hcell, _, hops, _, _⟩ := Rp.at_play (Rp.play.slice.keptNo HL.out HK.out) ho
      obtain ⟨z0, z1, z2, z3, z4, z5, z6, z7, z8, z9, z10, z11, z12, z13, z14, z15⟩ := play_cells hcell
      have HO := Lib.hid hops
      obtain ⟨hq1, hq2, hq3, hq4, hq5⟩ := HSM.out o (List.mem_of_getElem? ho)
      have HQ2 := Lib.hid hq2
      have HOI := Lib.hid ho
      clear hcell ho hops hq2
      obtain ⟨ok, ops, ⟨ak, ac, aq, an, ad2, am, al⟩, ⟨ra, re, rn, rp, rnm, rd, rl⟩⟩ := o
      simp only at *
      go_wp2_with fail
      clear z0 z1 z2 z3 z4 z5 z6 z7 z8 z9 z10 z11 z12 z13 z14 z15
      go_loopw [3, 36] (fun nv iv wr2 => ∃ (j : Nat) (y : Int), j ≤ ops.length ∧ iv = .int .i64 (j : Int) ∧ nv = .int .i64 y ∧ (rnm.length : Int) ≤ y ∧ (ad2.size : Int) ≤ y ∧ (rd.size : Int) ≤ y ∧ (j : Int) ≤ y ∧ y ≤ 4000000 ∧ (0 < j → y ≤ 4096) ∧ Hid (∀ (k : Nat) o, k < j → ops[k]? = some o → o.hashes.length ≤ 4096 ∧ o.name.size ≤ 4096) ∧ Hid (Kp No w wr2) ∧ Hid (Kp No wr wr2)) (fun _ iv _ => ops.length - (intOf iv).toNat)
      case atStart => exact ⟨0, _, Nat.zero_le _, rfl, rfl, by omega, by omega, by omega, by omega, by omega, by omega, Lib.hid (fun k o hk => absurd hk (by omega)), Lib.hid (HK.out.alloc _), Lib.hid ((Kp.refl _ _).alloc _)⟩
      case round =>
        obtain ⟨j, y, hj, rfl, rfl, hy0, hy1, hy2, hy3, hy4, hy5, HQ, HK2, HK3⟩ := hrel
        by_cases hjt : j < ops.length
        · have hji : (j : Int) < (ops.length : Int) := by omega
          obtain ⟨p, hp⟩ : ∃ p, ops[j]? = some p := ⟨_, List.getElem?_eq_getElem hjt⟩
          obtain ⟨hq6, hq7⟩ := HQ2.out p (List.mem_of_getElem? hp)
          have HPJ := Lib.hid hp
          obtain ⟨ad2, A2, c2, rfl, _, hcell, _, _⟩ := Rp.at_opl (Rp.opl.slice.keptNo HO.out HK3.out) hp
          obtain ⟨y0, y1, y2, y3, y4, y5, y6, y7, y8⟩ := opl_cells hcell
          clear hcell hp
          obtain ⟨pn, pe, pk, ps, pc, pq, pnm, psz, phs⟩ := p
          simp only at *
          go_wp2_with fail
          all_goals first
            | (go_ret
               exact ⟨⟨true, rfl, fun h => by cases h⟩, HK2.out.alloc _⟩)
            | (have e3 : phs.length ≤ 4096 := by omega
               have e4 : pnm.size ≤ 4096 := by omega
               go_roundw
               case rel =>
                 refine ⟨j + 1, _, by omega, by go_num, rfl, by omega, by omega, by omega, by omega, by omega, by omega, Lib.hid (fun k o hk ho => ?_), Lib.hid (HK2.out.alloc _), Lib.hid (HK3.out.alloc _)⟩
                 rcases Nat.lt_or_ge k j with hlt' | hge
                 · exact HQ.out k o hlt' ho
                 · obtain rfl : k = j := by omega
                   rw [HPJ.out] at ho
                   injection ho with ho
                   rw [← ho]; exact ⟨e3, e4⟩
               case measure => simp [intOf]; omega)
        · obtain rfl : j = ops.length := by omega
          go_wp2_with fail
          all_goals first
            | (go_ret
               exact ⟨⟨true, rfl, fun h => by cases h⟩, HK2.out⟩)
            | (have e1 : ops.length ≤ 4096 := by omega
               have e2 : rnm.length ≤ 4096 := by omega
               have e3 : ad2.size ≤ 4096 := by omega
               have e4 : rd.size ≤ 4096 := by omega
               go_roundw
               case rel =>
                 refine ⟨i + 1, _, by omega, by go_num, rfl, by omega, by omega, Lib.hid (fun k o hk ho => ?_), HK2⟩
                 rcases Nat.lt_or_ge k i with hlt' | hge
                 · exact HP.out k o hlt' ho
                 · obtain rfl : k = i := by omega
                   rw [HOI.out] at ho
                   injection ho with ho
                   rw [← ho]
                   refine ⟨e1, fun q hq => ?_, e2, e3, e4⟩
                   obtain ⟨k2, hk2⟩ := List.getElem?_of_mem hq
                   exact HQ.out k2 q (List.getElem?_eq_some_iff.1 hk2).1 hk2
               case measure => simp [intOf]; omega)
    · obtain rfl : i = l.length := by omega
      go_wp2_with fail
      go_ret
      refine ⟨⟨_, rfl, fun h => ⟨by have := of_decide_eq_false h; omega, fun o ho => ?_⟩⟩, HK.out⟩
      obtain ⟨k, hk⟩ := List.getElem?_of_mem ho
      exact HP.out k o (List.getElem?_eq_some_iff.1 hk).1 hk
end

section
open Go.RowKit Go.ChangeShapes Go.WideShapes Go.ChangeAt

/-- The walk that gives ModelOrderUpto. -/
def ModelOrderUptoWalk : Prop := ∀ (W : World) (v0 : Value) (a0 : (List (List OpL))), (Rp.slice (Rp.slice Rp.opl)).R W (fun k => k < W.heap.size) [v0] a0 → (Rp.slice (Rp.slice Rp.opl)).μ a0 ≤ 1048576 →
    Calls Try.prog 4 #[v0] W fun e w' => e = .returned (.bool true) ∧ Kp No W w'

set_option maxRecDepth 100000 in
theorem modelOrderUpto_contract (walk : ModelOrderUptoWalk) (H : Type) (enc : TypeId × Value → H) (W : World) (base : Nat) (args : Array Value) (ds gs : List (DataW H)) (before : List MemPlace)
    (hval : ∀ (j : Nat) t v, Try.f4.params[j]? = some t → args[j]? = some v → Value.okWide Try.prog W .any base t v)
    (hW : DataW.Whole enc Try.prog Try.f4.params.toList Rows.modelOrderSpec.vars false W args.toList ds gs before) (hk : Rows.uptoSmall H (ds ++ gs) = true) :
    Calls Try.prog 4 args W fun e W' => ∃ v, e = .returned v ∧ Rows.modelOrderSpec.post enc Try.prog Try.f4 false true false false W args v W' := by
  have hW' := hW
  obtain ⟨p, q, hA0, hV, rfl, hfz, hnd⟩ := hW
  have hA : DataW.TrodAll enc Try.prog W 0 (fun _ => true) true Try.f4.params.toList args.toList ds p := hA0
  rw [Try.params4] at hA hval
  obtain ⟨v0, vs0, d0, ds0, p0, q0, hargs, rfl, rfl, h0, r0⟩ := trodAll_cons hA
  obtain ⟨rfl, rfl, rfl⟩ := trodAll_nil r0
  obtain rfl : args = #[v0] := by cases args; simp_all
  obtain ⟨rfl, rfl⟩ := trodVars_none hV
  clear hA0
  have c0 : v0.cells.toList = [v0] := one_of_slice (okWide_slice Try.underlying49 (hval 0 49 v0 rfl rfl))
  obtain ⟨a0, e0, m0⟩ := Arg.one (Arg.slice Try.underlying49 (by kernel_rfl) (Arg.slice Try.underlying42 (by kernel_rfl) (Arg.opl Try.underlying38 (by kernel_rfl) (by kernel_rfl) (by kernel_rfl) Try.underlying3 Try.underlying3 Try.underlying3 Try.underlying3 Try.underlying3 Try.underlying3 Try.underlying9 (Arg.sht Try.underlying36 (by kernel_rfl) (by kernel_rfl) (by kernel_rfl) Try.underlying3 (Arg.slice Try.underlying34 (by kernel_rfl) (Arg.str Try.underlying9)))))) c0 h0
  have hbd := bound_of hk
  simp only [List.append_nil, Rows.uptoBulkAll] at hbd
  refine (walk W v0 a0 e0 (by omega)).mono fun e W' ⟨he, hb⟩ => ?_
  subst he
  refine ⟨_, rfl, post_of_law (tb := 4) (by kernel_rfl) ?_ (by kernel_rfl) Try.underlying4 rfl ?_ hW' hb⟩
  · rw [Try.params4]
    intro t ht
    simp only [List.mem_cons, List.not_mem_nil, or_false] at ht
    rcases ht with rfl <;> exact ⟨by kernel_rfl, by decide +kernel⟩
  · rw [Try.params4]
    intro l hl
    match l, hl with
    | [x0], _ => rfl

set_option maxRecDepth 100000 in
theorem modelOrderUpto_lifted (walk : ModelOrderUptoWalk) (os : Os) (started : os.Started) (H : Type) (enc : TypeId × Value → H) (F : Stop.Interp) :
    ReturnsInHanded {} Try.checked os 4 .any ((Rows.OpenSpec.upto Rows.modelOrderSpec).pre6 enc Try.prog Try.f4 Rows.modelOrderUptoRow.domain false) (((Rows.OpenSpec.upto Rows.modelOrderSpec).at F).post enc Try.prog Try.f4 false true false false) := by
  refine returnsInHanded_of_cond (C := Try.checked) (s := (Rows.OpenSpec.upto Rows.modelOrderSpec)) (k := Rows.uptoSmall) rfl (by kernel_rfl : ownKnob Try.prog.godebug = none) started (by kernel_rfl) Try.func4
    (OpenSpec.witness (enc := enc) (C := Try.checked) (s := (Rows.OpenSpec.upto Rows.modelOrderSpec)) (k := Rows.uptoSmall) rfl false ⟨#[], #[.slice none 0 0], []⟩ 8 (by kernel_rfl) (by kernel_rfl) (by kernel_rfl)
      (x := ([.nil], [], [])) (by kernel_rfl) rfl (by kernel_rfl)) ?_
  intro W base args ds gs before hval hW _ hk _
  exact modelOrderUpto_contract walk H enc W base args ds gs before hval hW hk
theorem modelOrderUpto_of (walk : ModelOrderUptoWalk) : Rows.ModelOrderUptoSaid :=
  OpenClaim.holds_of_cond 4 Try.f4 rfl rfl rfl rfl rfl rfl rfl ⟨rfl, rfl, rfl, rfl, rfl⟩ rfl rfl rfl rfl rfl (by kernel_rfl) Try.func4 (by kernel_rfl)
    (of_decide_eq_true (by kernel_rfl)) (by unfold Func.isWrapper; first | (rw [if_pos (by decide +kernel)]; kernel_rfl) | (rw [if_neg (by decide +kernel)]; exact ⟨rfl, rfl⟩))
    (fun os started H enc _ F => modelOrderUpto_lifted walk os started H enc F)
end

section
open Go.RowKit Go.ChangeShapes Go.WideShapes Go.ChangeAt

def zeroA : AskL := ⟨0, 0, 0, ByteArray.empty, ByteArray.empty, 0, 0⟩
def playOf (l : List OpL) : PlayL := ⟨0, l, zeroA, ⟨0, 0, 0, 0, [], ByteArray.empty, []⟩⟩
theorem playOf_nums (l : List OpL) : (playOf l).nums := ⟨rfl, ⟨rfl, rfl, rfl, by simp [zeroA, playOf, maxLen], by simp [zeroA, playOf, maxLen], rfl, rfl⟩, rfl, rfl, rfl, rfl, by simp [playOf, maxLen]⟩
theorem el_play : Elem Try.prog 50 58 16 200 := Elem.of Try.underlying50 (z := .agg #[.int .i64 0, .slice none 0 0, .int .i64 0, .int .i64 0, .int .i64 0, .string ByteArray.empty, .string ByteArray.empty, .int .i64 0, .int .i64 0, .int .i64 0, .int .i64 0, .int .i64 0, .int .i64 0, .slice none 0 0, .string ByteArray.empty, .slice none 0 0]) (by kernel_rfl) rfl (by decide)
theorem Rp.play_one {w : World} : ∀ cs a S', Rp.play.R w S' cs a → ∀ u ∈ cs, u.oneCell' = true := by
  rintro cs a S' ⟨ov, nv, lv, rfl, _, ⟨A1, c1, e1, _⟩, ⟨A2, c2, e2, _⟩, ⟨A3, c3, e3, _⟩⟩ u hu
  simp only [List.cons.injEq, and_true] at e1 e2 e3
  subst e1 e2 e3
  simp only [PlayL.cells, AskL.cells, RepL.cells, List.mem_cons, List.mem_append, List.not_mem_nil, or_false] at hu
  rcases hu with (((rfl | rfl) | (rfl | rfl | rfl | rfl | rfl | rfl | rfl)) | (rfl | rfl | rfl | rfl | rfl | rfl | rfl)) <;> rfl
/-- a new row of one call that has only operations -/
theorem playOf_lit (w : World) (l : List OpL) (ov : Value) (S : Nat → Prop) (hS : S w.heap.size) (h1 : Rp.opl.slice.R w S [ov] l) :
    Rp.play.slice.R (w.alloc (.cells #[.int .i64 0, ov, .int .i64 0, .int .i64 0, .int .i64 0, .string { data := #[] }, .string { data := #[] }, .int .i64 0, .int .i64 0, .int .i64 0, .int .i64 0, .int .i64 0, .int .i64 0, .slice none 0 0, .string { data := #[] }, .slice none 0 0] 58)) S [.slice (some ⟨w.heap.size, 0, none⟩) 1 1] [playOf l] := by
  refine ⟨_, _, rfl, Nat.le_refl _, by unfold maxLen; simp, fun _ => ⟨_, rfl, hS, fun i b hi => ?_⟩⟩
  obtain rfl : i = 0 := by have := (List.getElem?_eq_some_iff.1 hi).1; simp at this; exact this
  injection hi with hi
  subst hi
  have hk := (Kp.refl No w).alloc (.cells #[.int .i64 0, ov, .int .i64 0, .int .i64 0, .int .i64 0, .string { data := #[] }, .string { data := #[] }, .int .i64 0, .int .i64 0, .int .i64 0, .int .i64 0, .int .i64 0, .int .i64 0, .slice none 0 0, .string { data := #[] }, .slice none 0 0] 58)
  refine ⟨(playOf l).cells ov (.slice none 0 0) (.slice none 0 0), fun j u hu => ?_, _, _, _, rfl, playOf_nums l, Rp.opl.slice.keptNo h1 hk, Rp.none_ _ _ _, Rp.none_ _ _ _⟩
  rw [Addr.add_lit, Addr.add_lit]
  have hb : Blk (w.alloc (.cells #[.int .i64 0, ov, .int .i64 0, .int .i64 0, .int .i64 0, .string { data := #[] }, .string { data := #[] }, .int .i64 0, .int .i64 0, .int .i64 0, .int .i64 0, .int .i64 0, .int .i64 0, .slice none 0 0, .string { data := #[] }, .slice none 0 0] 58)) w.heap.size 58 ((playOf l).cells ov (.slice none 0 0) (.slice none 0 0)) := Blk.new w _ _
  have h2 := hb.cell hu
  simpa using h2
theorem wpl_build1 {P : Program} {ops : Array Oper} {rest : List Oper} {o : Oper} {a : Act} {w w' : World} {Q : Exit → Act → World → Prop} (hw : Region.wanted o (yielded ops a.tmps) = true) (t : TypeId) (i : Nat) (x : Operand) (ho : o.op = .build t #[(i, x)]) (v u : Value) (he : a.eval x = v) (hr : (Instr.build t #[(i, v)]).run P w = .ok u w')
    (h : wpList P ops Q rest (a.put o.dst u) w') : wpList P ops Q (o :: rest) a w := by
  refine wpList_step fun K hK => ?_
  rw [if_pos hw]
  have e : (#[(i, x)] : Array (Nat × Operand)).map (fun (i, x) => (i, a.eval x)) = #[(i, v)] := by simp [he]
  unfold Oper.wp execOp
  simp only [ho, Sem.run_bind, e, hr, Result.andThen_ok]
  exact hK _ _ h
theorem run_build_playOf (w : World) (A : Option Addr) (n c : Nat) : (Instr.build 58 #[(1, .slice A n c)]).run Try.prog w = .ok (.agg #[.int .i64 0, .slice A n c, .int .i64 0, .int .i64 0, .int .i64 0, .string { data := #[] }, .string { data := #[] }, .int .i64 0, .int .i64 0, .int .i64 0, .int .i64 0, .int .i64 0, .int .i64 0, .slice none 0 0, .string { data := #[] }, .slice none 0 0]) w := by
  go_simp
theorem run_lit_playOf (w : World) (A : Option Addr) (n c : Nat) : (Instr.buildSlice 50 1 #[(0, .agg #[.int .i64 0, .slice A n c, .int .i64 0, .int .i64 0, .int .i64 0, .string { data := #[] }, .string { data := #[] }, .int .i64 0, .int .i64 0, .int .i64 0, .int .i64 0, .int .i64 0, .int .i64 0, .slice none 0 0, .string { data := #[] }, .slice none 0 0])]).run Try.prog w = .ok (.slice (some ⟨w.heap.size, 0, none⟩) 1 1) (w.alloc (.cells #[.int .i64 0, .slice A n c, .int .i64 0, .int .i64 0, .int .i64 0, .string { data := #[] }, .string { data := #[] }, .int .i64 0, .int .i64 0, .int .i64 0, .int .i64 0, .int .i64 0, .int .i64 0, .slice none 0 0, .string { data := #[] }, .slice none 0 0] 58)) := by
  go_simp
theorem Rp.at_spot {w : World} {S : Nat → Prop} {A : Option Addr} {c : Nat} {l : List (Int × Int)} (h : Rp.spot.slice.R w S [.slice A l.length c] l) {i : Nat} {x : Int × Int} (hi : l[i]? = some x) :
    ∃ ad, A = some ad ∧ S ad.block ∧ w.cell? (ad.add (i * 2)) = some (.int .i64 x.1) ∧ w.cell? ⟨(ad.add (i * 2)).block, (ad.add (i * 2)).off + 1, none⟩ = some (.int .i64 x.2) := by
  obtain ⟨A2, c2, he, _, _, h3⟩ := h
  simp only [List.cons.injEq, Value.slice.injEq, and_true, true_and] at he
  obtain ⟨rfl, rfl⟩ := he
  have hl : 0 < l.length := by have := (List.getElem?_eq_some_iff.1 hi).1; omega
  obtain ⟨ad, rfl, hb, hc⟩ := h3 hl
  obtain ⟨es, he, rfl, _, _⟩ := hc i x hi
  exact ⟨ad, rfl, hb, he 0 _ rfl, he 1 _ rfl⟩
/-- all blocks but a slice's own row -/
def AllX (w : World) (v : Value) : Nat → Prop := fun k => k < w.heap.size ∧ v.ownBlock ≠ some k
set_option maxRecDepth 100000 in
set_option maxHeartbeats 40000000 in
theorem modelOrderUpto_walk : ModelOrderUptoWalk := by
  intro W v0 rows h0 hμ
  obtain ⟨A0, c0, hv0, hz0⟩ := id h0
  clear hz0
  simp only [List.cons.injEq, and_true] at hv0
  subst hv0
  obtain ⟨hr1, hr2⟩ := rows_μP hμ
  have HR := Lib.hid h0
  have HRS := Lib.hid hr2
  clear h0 hr2 hμ
  go_enter Try.func4, Try.ntmps4
  go_wp2_with fail
  go_loopw [3, 21] (fun av iv wr => ∃ i : Nat, i ≤ rows.length ∧ iv = .int .i64 (i : Int) ∧ Hid (Own Rp.play wr (AllX wr av) W.heap.size 58 av ((rows.take i).map playOf)) ∧ Hid (Kp No W wr)) (fun _ iv _ => rows.length - (intOf iv).toNat)
  case atStart => exact ⟨0, Nat.zero_le _, rfl, Lib.hid (Own.nil _ _ _ _ _), Lib.hid (Kp.refl _ _)⟩
  case round =>
    obtain ⟨i, hi, rfl, HO, HK⟩ := hrel
    obtain ⟨Av, cv, rfl⟩ := HO.out.shape
    by_cases hlt : i < rows.length
    · have hli : (i : Int) < (rows.length : Int) := by omega
      obtain ⟨l, hl⟩ : ∃ l, rows[i]? = some l := ⟨_, List.getElem?_eq_getElem hlt⟩
      obtain ⟨ad, A', c', rfl, _, hcell, hrd⟩ := Rp.at_slice (Rp.opl.slice.slice.keptNo HR.out HK.out) hl
      have HST : Hid ((rows.take (i + 1)).map playOf = (rows.take i).map playOf ++ [playOf l]) := Lib.hid (by
        rw [List.take_add_one, hl]
        simp)
      have HEL : Hid (((rows.take i).map playOf).length ≤ 1048576) := Lib.hid (by simp; omega)
      obtain ⟨E, hE⟩ : ∃ E, (rows.take i).map playOf = E := ⟨_, rfl⟩
      rw [hE] at HO HST HEL
      obtain ⟨g1, hg1⟩ : ∃ v, wr.heap.size = v := ⟨_, rfl⟩
      have hsrc := playOf_lit wr l (.slice A' l.length c') (fun k => k < g1 + 1 ∧ (Value.slice Av E.length cv).ownBlock ≠ some k) ⟨by omega, fun h => by have := (HO.out.lt _ h).2; omega⟩ (Rp.opl.slice.more (Rp.opl.slice.bnd hrd) (fun k hk => ⟨by have := hk.2; omega, fun h => by have := (HO.out.lt _ h).1; have := hk.1; omega⟩))
      obtain ⟨w2, hw2⟩ : ∃ v, wr.alloc (.cells #[.int .i64 0, .slice A' l.length c', .int .i64 0, .int .i64 0, .int .i64 0, .string { data := #[] }, .string { data := #[] }, .int .i64 0, .int .i64 0, .int .i64 0, .int .i64 0, .int .i64 0, .int .i64 0, .slice none 0 0, .string { data := #[] }, .slice none 0 0] 58) = v := ⟨_, rfl⟩
      have hk2 : Kp No wr w2 := by rw [← hw2]; exact (Kp.refl _ _).alloc _
      have hs2 : w2.heap.size = g1 + 1 := by rw [← hw2, ← hg1]; simp
      rw [hw2, hg1] at hsrc
      have hli := run_lit_playOf wr A' l.length c'
      rw [hw2, hg1] at hli
      have HLI := Lib.hid hli
      have HBU := Lib.hid (run_build_playOf wr A' l.length c')
      have HSRC := Lib.hid hsrc
      have HO2 : Hid (Own Rp.play w2 (fun k => k < g1 + 1 ∧ (Value.slice Av E.length cv).ownBlock ≠ some k) W.heap.size 58 (.slice Av E.length cv) E) := Lib.hid ((HO.out.keptNo hk2).mono (Nat.le_refl _) (fun k hk => ⟨by have := hk.1; omega, hk.2⟩))
      have HK2 := Lib.hid (HK.out.trans' hk2)
      have HBW : Hid (W.heap.size ≤ w2.heap.size) := Lib.hid HK2.out.size
      have HS2 := Lib.hid hs2
      rw [hE]
      clear hrd hl hk2 hsrc hE hs2 hli hg1 hw2
      go_wp2_with (first | (refine wpl_build1 (by first | rfl | go_simp) 58 _ _ rfl _ _ (by go_simp) HBU.out ?_; go_simp) | (refine wpList_litW (by first | rfl | go_simp) 50 _ rfl _ _ (by go_simp) HLI.out ?_; go_simp) | (at_builtin; refine wpList_append_rp (E := Rp.play) rfl _ (.tmp 25) (.tmp 28) 50 rfl W.heap.size 58 200 el_play (fun k => k < g1 + 1 ∧ (Value.slice Av E.length cv).ownBlock ≠ some k) (.slice Av E.length cv) E rfl HO2.out (some ⟨g1, 0, none⟩) 1 (fun k => k < g1 + 1 ∧ (Value.slice Av E.length cv).ownBlock ≠ some k) [playOf l] rfl HSRC.out Rp.play_one ?hcap ?hby HBW.out (fun _ h => h) ?hsv ?_))
      case hcap => have := HEL.out; simp [maxLen]; omega
      case hby => have := HEL.out; simp; omega
      case hsv => exact fun k hk e => e.2 hk
      intro v3 w3 hown3 hg3 hbl3
      have hk3 : Kp No W w3 := HK2.out.grown hg3 (fun k hk hlt => by have := (HO2.out.lt k hk).1; omega)
      have hs3 : w2.heap.size ≤ w3.heap.size := ((Kp.refl (fun _ => True) _).grown hg3 (fun _ _ _ => trivial)).size
      have HO3 : Hid (Own Rp.play w3 (AllX w3 v3) W.heap.size 58 v3 (E ++ [playOf l])) := Lib.hid (hown3.mono (Nat.le_refl _) (fun k hk => ⟨by have := hk.1; have := HS2.out; omega, fun h => by
        rcases hbl3 with h2 | h2
        · exact hk.2 (h2 ▸ h)
        · rw [h2] at h; injection h with h; have := hk.1; have := HS2.out; omega⟩))
      have HK3 := Lib.hid hk3
      rw [← HST.out] at HO3
      clear hown3 hg3 hbl3 hk3 hs3
      go_wp2_with fail
      go_roundw
      case rel => exact ⟨i + 1, by omega, by go_num, HO3, HK3⟩
      case measure => simp [intOf]; omega
    · obtain rfl : i = rows.length := by omega
      have hall : rows.take rows.length = rows := List.take_length
      rw [hall] at HO ⊢
      clear hi hlt hall
      have HGR : Hid (∀ w, Kp No wr w → Calls Try.prog 15 #[.slice Av (rows.map playOf).length cv] w fun e w' => GreatP (rows.map playOf) e ∧ Kp No w w') := Lib.hid (fun w hk => h_great26S (rows.map playOf) Av cv w _ (HO.out.keptNo hk).readFrom (fun o ho => by
        obtain ⟨l, hl, rfl⟩ := List.mem_map.1 ho
        obtain ⟨h1, h2⟩ := HRS.out l hl
        exact ⟨h1, h2, by simp [playOf], by simp [playOf, zeroA], by simp [playOf]⟩))
      obtain ⟨P, hP⟩ : ∃ P, rows.map playOf = P := ⟨_, rfl⟩
      rw [hP] at HGR ⊢
      have HPE := Lib.hid hP
      clear HO hP
      go_wp2_with fail
      refine (h_awake26 wr).mono ?_
      rintro e w1 ⟨rfl, hk1⟩
      have HK1 := Lib.hid (HK.out.trans' hk1)
      have HG := Lib.hid (HGR.out w1 hk1)
      clear hk1 HGR HK
      go_wp2_with fail
      refine HG.out.mono ?_
      rintro e w2 ⟨⟨b, rfl, hb⟩, hk2⟩
      have HK2 := Lib.hid (HK1.out.trans' hk2)
      clear hk2 HG HK1
      cases b
      case true =>
        clear hb
        go_wp2_with fail
        refine (h_awake26 w2).mono ?_
        rintro e w3 ⟨rfl, hk3⟩
        have HK3 := Lib.hid (HK2.out.trans' hk3)
        clear hk3
        go_wp2_with fail
        go_ret
        exact ⟨rfl, HK3.out⟩
      obtain ⟨hb1, hb2⟩ := hb rfl
      have HSM : Hid (∀ l ∈ rows, l.length ≤ 4096 ∧ ∀ o ∈ l, o.hashes.length ≤ 4096) := Lib.hid (fun l hl => by
        obtain ⟨h1, h2, _⟩ := hb2 (playOf l) (HPE.out ▸ List.mem_map_of_mem hl)
        exact ⟨h1, fun o ho => (h2 o ho).1⟩)
      clear hb1 hb2 hb
      go_wp2_with fail
      refine (m_new w2).mono ?_
      rintro e w3 ⟨ma, FA, rfl, hma, hfa, hk3⟩
      go_wp2_with fail
      refine (m_new w3).mono ?_
      rintro e w4 ⟨mb, FB, rfl, hmb, hfb, hk4⟩
      have H2 : Hid (TwoM W w4 ma ⟨[], []⟩ FA mb ⟨[], []⟩ FB) := Lib.hid ⟨hma.keptNo hk4, hmb, fun k hk => Nat.le_trans HK2.out.size (hfa k hk), fun k hk => Nat.le_trans (HK2.out.trans' hk3).size (hfb k hk), fun k h1 h2 => by have := hma.lt h1; have := hfb k h2; omega, (HK2.out.trans' hk3).trans' hk4, OkM.new, OkM.new⟩
      clear hma hfa hk3 hmb hfb hk4 HK2
      go_wp2_with fail
      go_loopw [42] (fun iv wr2 => ∃ (i : Nat) (M : MV) (FA : Nat → Prop), i ≤ rows.length ∧ iv = .int .i64 (i : Int) ∧ Hid (TwoM W wr2 ma M FA mb ⟨[], []⟩ FB) ∧ Hid (SeenM (rows.take i) M)) (fun iv _ => rows.length - (intOf iv).toNat)
      case atStart => exact ⟨0, ⟨[], []⟩, FA, Nat.zero_le _, rfl, H2, Lib.hid SeenM.nil⟩
      case round =>
        clear H2
        obtain ⟨i, M, FA, hi, rfl, H2, HSN⟩ := hrel
        by_cases hlt : i < rows.length
        · have hli : (i : Int) < (rows.length : Int) := by omega
          obtain ⟨l, hl⟩ : ∃ l, rows[i]? = some l := ⟨_, List.getElem?_eq_getElem hlt⟩
          obtain ⟨ad, A', c', rfl, _, hcell, hrd⟩ := Rp.at_slice (Rp.opl.slice.slice.keptNo HR.out H2.out.kp) hl
          have HRD := Lib.hid hrd
          have HST : Hid (rows.take (i + 1) = rows.take i ++ [l]) := Lib.hid (by rw [List.take_add_one, hl]; rfl)
          have HSL := Lib.hid (HSM.out l (List.mem_of_getElem? hl))
          clear hl hrd
          go_wp2_with fail
          refine (r_ownops l A' c' _ _ HRD.out (by have := HSL.out.1; omega) (fun o ho => by have := HSL.out.2 o ho; omega)).mono ?_
          rintro e w5 ⟨A5, c5, rfl, hown, hk5⟩
          have H5 := Lib.hid (H2.out.keptNo hk5)
          have HRD5 := Lib.hid hown.readFrom
          clear hcell hown hk5
          go_wp2_with fail
          refine (m_see l A5 c5 _ ma M FA w5 H5.out.ma H5.out.oa HRD5.out (by have := HSL.out.1; omega) (fun o ho => by have := HSL.out.2 o ho; omega)).mono ?_
          rintro e w6 ⟨rfl, F6, hm6, hu6⟩
          have H6 := Lib.hid (H5.out.turnA hm6 hu6 (H5.out.oa.see (by have := HSL.out.1; omega) (fun o ho => by have := HSL.out.2 o ho; omega)))
          obtain ⟨R, hR⟩ : ∃ R, (seeL l M).1 = R := ⟨_, rfl⟩
          have HRR := Lib.hid hR
          rw [hR]
          clear hm6 hu6 hR
          by_cases h0 : R = 0
          · subst h0
            have HSN2 := Lib.hid (HSN.out.see H5.out.oa HRR.out)
            rw [← HST.out] at HSN2
            go_wp2_with fail
            go_roundw
            case rel => exact ⟨i + 1, _, F6, by omega, by go_num, H6, HSN2⟩
            case measure => simp [intOf]; omega
          · have hb : (R == 0) = false := beq_eq_false_iff_ne.2 h0
            have hbn : (R != 0) = true := by rw [bne, hb]; rfl
            clear h0
            go_wp2_with fail
            go_ret
            exact ⟨rfl, H6.out.kp⟩
        · obtain rfl : i = rows.length := by omega
          have hall : rows.take rows.length = rows := List.take_length
          rw [hall] at HSN
          have H3 : Hid (EndM rows rows.length M ⟨[], []⟩ ∧ AsM rows M M) := Lib.hid ⟨EndM.start rows M, SubM.refl _, SubM.refl _, HSN.out.frm⟩
          clear hi hlt hall
          go_wp2_with fail
          go_loopw [10] (fun iv wr3 => ∃ (k : Nat) (A B : MV) (FA FB : Nat → Prop), k ≤ rows.length ∧ iv = .int .i64 ((k : Int) - 1) ∧ Hid (TwoM W wr3 ma A FA mb B FB) ∧ Hid (EndM rows k M B ∧ AsM rows M A)) (fun iv _ => (intOf iv + 1).toNat)
          case atStart => exact ⟨rows.length, M, ⟨[], []⟩, FA, FB, Nat.le_refl _, rfl, H2, H3⟩
          case round =>
            clear H2 H3
            obtain ⟨k, A, B, FA, FB, hk, rfl, H2, H3⟩ := hrel
            rcases Nat.eq_zero_or_pos k with hk0 | hk0
            case inr =>
              obtain ⟨j, rfl⟩ : ∃ j, k = j + 1 := ⟨k - 1, by omega⟩
              have hij : ((j + 1 : Nat) : Int) - 1 = (j : Int) := by omega
              rw [hij]
              have hji : (j : Int) < (rows.length : Int) := by omega
              have hj0 : (0 : Int) ≤ (j : Int) := by omega
              obtain ⟨l, hl⟩ : ∃ l, rows[j]? = some l := ⟨_, List.getElem?_eq_getElem (by omega)⟩
              obtain ⟨ad, A', c', rfl, hadl, hcW, hrW⟩ := Rp.at_slice HR.out hl
              have HCW : Hid (∀ w', Kp No W w' → w'.cell? (ad.add j) = some (.slice A' l.length c') ∧ Rp.opl.slice.R w' (fun k => k < W.heap.size) [.slice A' l.length c'] l) := Lib.hid (fun w' hk' => ⟨(hk'.cell (p := ad.add j) (by rw [block_add]; exact hadl) (fun z => z)).trans hcW, Rp.opl.slice.keptNo hrW hk'⟩)
              have hcell := (HCW.out wr H2.out.kp).1
              have HRD := Lib.hid (HCW.out wr H2.out.kp).2
              have HSL := Lib.hid (HSM.out l (List.mem_of_getElem? hl))
              have HEM := Lib.hid (H3.out.1.see HSN.out H2.out.ob hl)
              have HAM := Lib.hid (H3.out.2.see HSN.out H2.out.oa (List.mem_of_getElem? hl))
              clear hcW hrW
              clear hl hij
              go_wp2_with fail
              refine (r_ownops l A' c' _ _ HRD.out (by have := HSL.out.1; omega) (fun o ho => by have := HSL.out.2 o ho; omega)).mono ?_
              rintro e w5 ⟨A5, c5, rfl, hown, hk5⟩
              have H5 := Lib.hid (H2.out.keptNo hk5)
              have HRD5 := Lib.hid hown.readFrom
              clear hcell hown hk5
              go_wp2_with fail
              refine (m_see l A5 c5 _ mb B FB w5 H5.out.mb H5.out.ob HRD5.out (by have := HSL.out.1; omega) (fun o ho => by have := HSL.out.2 o ho; omega)).mono ?_
              rintro e w6 ⟨rfl, F6, hm6, hu6⟩
              have H6 := Lib.hid (H5.out.turnB hm6 hu6 (H5.out.ob.see (by have := HSL.out.1; omega) (fun o ho => by have := HSL.out.2 o ho; omega)))
              rw [HEM.out.1]
              have hcell := (HCW.out w6 H6.out.kp).1
              have HRD6 := Lib.hid (HCW.out w6 H6.out.kp).2
              clear hm6 hu6
              go_wp2_with fail
              refine (r_ownops l A' c' _ _ HRD6.out (by have := HSL.out.1; omega) (fun o ho => by have := HSL.out.2 o ho; omega)).mono ?_
              rintro e w7 ⟨A7, c7, rfl, hown, hk7⟩
              have H7 := Lib.hid (H6.out.keptNo hk7)
              have HRD7 := Lib.hid hown.readFrom
              clear hcell hown hk7
              go_wp2_with fail
              refine (m_see l A7 c7 _ ma A FA w7 H7.out.ma H7.out.oa HRD7.out (by have := HSL.out.1; omega) (fun o ho => by have := HSL.out.2 o ho; omega)).mono ?_
              rintro e w8 ⟨rfl, F8, hm8, hu8⟩
              have H8 := Lib.hid (H7.out.turnA hm8 hu8 (H7.out.oa.see (by have := HSL.out.1; omega) (fun o ho => by have := HSL.out.2 o ho; omega)))
              rw [HAM.out.1]
              have H9 := Lib.hid (And.intro HEM.out.2 HAM.out.2)
              clear hm8 hu8
              go_wp2_with fail
              go_roundw
              case rel => exact ⟨j, _, _, F8, F6, by omega, by go_num, H8, H9⟩
              case measure => simp [intOf]
            case inl =>
              subst hk0
              have e0 : ((0 : Nat) : Int) - 1 = -1 := rfl
              rw [e0]
              clear e0
              have HSA : Hid (SubM A B ∧ SubM B A ∧ FromM A rows) := Lib.hid ⟨H3.out.2.sub.trans (H3.out.1.all HSN.out), H3.out.1.sub.trans H3.out.2.sup, H3.out.2.frm⟩
              clear H3 hk
              go_wp2_with fail
              go_loopw [79] (fun iv wr4 => ∃ i : Nat, i ≤ rows.length ∧ iv = .int .i64 (i : Int) ∧ Hid (TwoM W wr4 ma A FA mb B FB)) (fun iv _ => rows.length - (intOf iv).toNat)
              case atStart => exact ⟨0, Nat.zero_le _, rfl, H2⟩
              case round =>
                clear H2
                obtain ⟨i, hi, rfl, H2⟩ := hrel
                by_cases hlt : i < rows.length
                case neg =>
                  obtain rfl : i = rows.length := by omega
                  clear hi hlt
                  go_wp2_with fail
                  go_ret
                  exact ⟨rfl, H2.out.kp⟩
                case pos =>
                  have hli : (i : Int) < (rows.length : Int) := by omega
                  obtain ⟨l, hl⟩ : ∃ l, rows[i]? = some l := ⟨_, List.getElem?_eq_getElem hlt⟩
                  obtain ⟨ad, A', c', rfl, _, hcell, hrd⟩ := Rp.at_slice (Rp.opl.slice.slice.keptNo HR.out H2.out.kp) hl
                  have HSL := Lib.hid (HSM.out l (List.mem_of_getElem? hl))
                  have HSP := Lib.hid (h_spots l A' c' wr _ hrd (by have := HSL.out.1; omega))
                  have HSLEN : Hid ((spotsL l).length ≤ 5000) := Lib.hid (by have := HSL.out.1; simp [spotsL]; omega)
                  obtain ⟨Z, hZ⟩ : ∃ Z, spotsL l = Z := ⟨_, rfl⟩
                  rw [hZ] at HSP HSLEN
                  clear hl hrd hZ HSL
                  go_wp2_with fail
                  refine HSP.out.mono ?_
                  rintro e w5 ⟨A5, c5, rfl, hsp, hk5⟩
                  have H5 := Lib.hid (H2.out.keptNo hk5)
                  have HSR := Lib.hid hsp
                  have hzl : (Z.length : Int) ≤ 5000 := by have := HSLEN.out; omega
                  clear hsp hk5 HSP hcell HSLEN
                  go_wp2_with fail
                  go_loopw [86] (fun iv wr5 => ∃ j : Nat, j ≤ Z.length ∧ iv = .int .i64 (j : Int) ∧ Hid (TwoM W wr5 ma A FA mb B FB) ∧ Hid (Kp No w5 wr5)) (fun iv _ => Z.length - (intOf iv).toNat)
                  case atStart => exact ⟨0, Nat.zero_le _, rfl, H5, Lib.hid (Kp.refl _ _)⟩
                  case round =>
                    clear H5
                    obtain ⟨j, hj, rfl, H5, HK5⟩ := hrel
                    by_cases hjt : j < Z.length
                    case neg =>
                      obtain rfl : j = Z.length := by omega
                      clear hj hjt
                      go_wp2_with fail
                      go_roundw
                      case rel => exact ⟨i + 1, by omega, by go_num, H5⟩
                      case measure => simp [intOf]; omega
                    case pos =>
                      have hji : (j : Int) < (Z.length : Int) := by omega
                      obtain ⟨q, hq⟩ : ∃ q, Z[j]? = some q := ⟨_, List.getElem?_eq_getElem hjt⟩
                      obtain ⟨ad5, rfl, _, hc0, hc1⟩ := Rp.at_spot (Rp.spot.slice.keptNo HSR.out HK5.out) hq
                      have hall := path_same HSA.out.1 HSA.out.2.1 q
                      have hpd : pathD B q = pathD A q := by unfold pathD; rw [hall]
                      obtain ⟨z, hz⟩ : ∃ v, wr.heap.size = v := ⟨_, rfl⟩
                      obtain ⟨w6, hw6⟩ : ∃ v, wr.alloc (.cells #[.int .i64 q.1, .int .i64 q.2] 54) = v := ⟨_, rfl⟩
                      have hk6 : Kp No wr w6 := by rw [← hw6]; exact (Kp.refl _ _).alloc _
                      have HB6 : Hid (Blk w6 z 54 [.int .i64 q.1, .int .i64 q.2]) := Lib.hid (by rw [← hw6, ← hz]; exact Blk.new wr _ _)
                      have HK6 := Lib.hid hk6
                      have hpa := fun w' (hk' : Kp No wr w') => (m_path q ma A FA w' (H5.out.ma.keptNo hk') H5.out.oa).mono (fun e w'' h => (⟨pathP_all h.1, h.2⟩ : (∃ A2 c2, e = .returned (.tuple #[.slice A2 (pathD A q).length c2, .bool (pathM A q).isSome]) ∧ Rp.opl.slice.R w'' (fun k => w'.heap.size ≤ k) [.slice A2 (pathD A q).length c2] (pathD A q)) ∧ Kp No w' w''))
                      have hpb := fun w' (hk' : Kp No wr w') => (m_path q mb B FB w' (H5.out.mb.keptNo hk') H5.out.ob).mono (fun e w'' h => (⟨pathP_all h.1, h.2⟩ : (∃ A2 c2, e = .returned (.tuple #[.slice A2 (pathD B q).length c2, .bool (pathM B q).isSome]) ∧ Rp.opl.slice.R w'' (fun k => w'.heap.size ≤ k) [.slice A2 (pathD B q).length c2] (pathD B q)) ∧ Kp No w' w''))
                      rw [hpd, ← hall] at hpb
                      have HSMALL : Hid ((pathD A q).length ≤ 4096 ∧ (∀ o ∈ pathD A q, o.hashes.length ≤ 4096) ∧ ((pathM A q).isSome = true → rowB 0 0 (pathD A q) = true)) := Lib.hid (by
                        unfold pathD
                        cases hp : pathM A q with
                        | none => exact ⟨by simp, by simp, by simp⟩
                        | some L =>
                          refine ⟨?_, ?_, fun _ => path_row H5.out.oa HSA.out.2.2 hp⟩
                          · rcases path_from H5.out.oa HSA.out.2.2 hp with rfl | ⟨l, hl, i, _, _, rfl⟩
                            · simp
                            · have := (HSM.out l hl).1
                              simp only [Option.getD_some, List.length_take]; omega
                          · rcases path_from H5.out.oa HSA.out.2.2 hp with rfl | ⟨l, hl, i, _, _, rfl⟩
                            · simp
                            · exact fun o ho => (HSM.out l hl).2 o (List.mem_of_mem_take ho))
                      obtain ⟨Q, hQ⟩ : ∃ Q, (pathM A q).isSome = Q := ⟨_, rfl⟩
                      obtain ⟨L, hL⟩ : ∃ L, pathD A q = L := ⟨_, rfl⟩
                      rw [hQ, hL] at hpa hpb HSMALL
                      have HPA := Lib.hid hpa
                      have HPB := Lib.hid hpb
                      have hq6 : w6.cell? ⟨z, 0, none⟩ = some _ := Blk.cell HB6.out rfl
                      have hq7 : w6.cell? ⟨z, 1, none⟩ = some _ := Blk.cell HB6.out rfl
                      unfold spotV at HPA HPB
                      clear hall hpd hk6 hpa hpb hQ hL hq
                      go_wp2_with fail
                      clear hw6 hz hc0 hc1
                      refine (HPA.out w6 HK6.out).mono ?_
                      rintro e w7 ⟨⟨A7, c7, rfl, hr7⟩, hk7⟩
                      have hb7 := HB6.out.kept hk7 (fun z => z)
                      have hq8 : w7.cell? ⟨z, 0, none⟩ = some _ := Blk.cell hb7 rfl
                      have hq9 : w7.cell? ⟨z, 1, none⟩ = some _ := Blk.cell hb7 rfl
                      have HK7 := Lib.hid (HK6.out.trans' hk7)
                      have HR7 := Lib.hid hr7
                      clear hb7 hk7 hr7 hq6 hq7
                      go_wp2_with fail
                      refine (HPB.out w7 HK7.out).mono ?_
                      rintro e w8 ⟨⟨A8, c8, rfl, hr8⟩, hk8⟩
                      have HR8 := Lib.hid hr8
                      have HR9 := Lib.hid (Rp.opl.slice.keptNo HR7.out hk8)
                      have HK8 := Lib.hid (HK7.out.trans' hk8)
                      have HSO := Lib.hid (r_sameops L L A7 A8 c7 c8 w8 _ _ HR9.out HR8.out)
                      have hso : sameOps L L = true := sameOps_iff.2 rfl
                      rw [hso] at HSO
                      clear hr8 hk8 hso hq8 hq9
                      cases Q
                      case false =>
                        go_wp2_with fail
                        refine HSO.out.mono ?_
                        rintro e w9 ⟨rfl, hk9⟩
                        have H9 := Lib.hid (H5.out.keptNo (HK8.out.trans' hk9))
                        have HK9 := Lib.hid (HK5.out.trans' (HK8.out.trans' hk9))
                        clear hk9
                        go_wp2_with fail
                        go_roundw
                        case rel => exact ⟨j + 1, by omega, by go_num, H9, HK9⟩
                        case measure => simp [intOf]; omega
                      case true =>
                        go_wp2_with fail
                        refine HSO.out.mono ?_
                        rintro e w9 ⟨rfl, hk9⟩
                        have HRW := Lib.hid (r_row 0 0 L A7 c7 w9 _ (Rp.opl.slice.keptNo HR9.out hk9) (by have := HSMALL.out.1; omega) (fun o ho => by have := HSMALL.out.2.1 o ho; omega))
                        rw [HSMALL.out.2.2 (by first | trivial | rfl)] at HRW
                        have HK9 := Lib.hid (HK8.out.trans' hk9)
                        clear hk9
                        go_wp2_with fail
                        refine HRW.out.mono ?_
                        rintro e w10 ⟨rfl, hk10⟩
                        have H10 := Lib.hid (H5.out.keptNo (HK9.out.trans' hk10))
                        have HK10 := Lib.hid (HK5.out.trans' (HK9.out.trans' hk10))
                        clear hk10
                        go_wp2_with fail
                        go_roundw
                        case rel => exact ⟨j + 1, by omega, by go_num, H10, HK10⟩
                        case measure => simp [intOf]; omega
theorem modelOrderUpto_holds : Rows.ModelOrderUptoSaid := modelOrderUpto_of modelOrderUpto_walk
end
end Go.Proofs.Ytbncblnchcmgbaa
