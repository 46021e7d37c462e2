/-
  Plain, and in memory: a model and the document's beside it.
-/
import Derived.Test.YtamfgmlhopjppaaGM
import Derived.Test.YtamfgmlhopjppaaRmC
import Derived.Test.YtamfgmlhopjppaaGI
namespace Go.Proofs.Ytamfgmlhopjppaa
open Go.RowKit Go.ChangeShapes Go.WideShapes Go.ChangeAt

theorem row_kind : ∀ {l : List OpL} {n e s : Int}, rowGo n e s l = true → ∀ o ∈ l, o.kind = 1 ∨ o.kind = 2 ∨ o.kind = 3
  | [], _, _, _, _, o, ho => by simp at ho
  | x :: l, n, e, s, h, o, ho => by
    unfold rowGo at h
    rw [Bool.and_eq_true, decide_eq_true_iff] at h
    rcases List.mem_cons.1 ho with rfl | ho
    · rcases h.1.1.2 with h | h | h
      · exact .inl h.1
      · exact .inr (.inl h.1)
      · exact .inr (.inr h.1)
    · exact row_kind h.2 o ho
/-- what stands in a model was seen, in rows of proper numbers -/
def SoundM (M : MV) : Prop := ∃ rows, FromM M rows ∧ ∀ l ∈ rows, ∀ o ∈ l, o.nums
theorem SoundM.new : SoundM ⟨[], []⟩ := ⟨[], FromM.nil, fun l h => by simp at h⟩
theorem SoundM.asked {M : MV} (h : SoundM M) (l : List AskL) : SoundM { M with asks := l } := h
theorem see_else {M : MV} {l : List OpL} (h : (seeL l M).1 ≠ 0) : (seeL l M).2 = M := by
  unfold seeL at h ⊢
  split
  · rfl
  · split
    · rfl
    · rename_i h1 h2
      rw [if_neg h1, if_neg h2] at h
      exact absurd rfl h
theorem SoundM.see {M : MV} (h : SoundM M) (hok : OkM M) {l : List OpL} (hl : ∀ o ∈ l, o.nums) : SoundM (seeL l M).2 := by
  by_cases h0 : (seeL l M).1 = 0
  · obtain ⟨rows, h1, h2⟩ := h
    refine ⟨rows ++ [l], h1.see hok h0, fun k hk o ho => ?_⟩
    rcases List.mem_append.1 hk with hk | hk
    · exact h2 k hk o ho
    · rw [List.mem_singleton.1 hk] at ho
      exact hl o ho
  · rw [see_else h0]
    exact h
theorem SoundM.closed {M : MV} (h : SoundM M) (hok : OkM M) : ClosedM M := fun p x hx => by
  obtain ⟨rows, h1, _⟩ := h
  obtain ⟨l, _, hr, hh, rfl, hm⟩ := h1 p x hx
  obtain ⟨i, hi⟩ := List.getElem?_of_mem hm
  have hil : i < l.length := by have := (List.getElem?_eq_some_iff.1 hi).1; rw [linedL_length] at this; exact this
  obtain ⟨o, ho⟩ : ∃ o, l[i]? = some o := ⟨_, List.getElem?_eq_getElem hil⟩
  rw [linedL_get ho] at hi
  injection hi with hi
  subst hi
  exact ⟨_, path_has hok hr hh i (by omega)⟩
theorem RefOk.of {M : MV} {R : RV} (hs : SameL M R) (hok : OkM M) (h : SoundM M) (hl : R.lines.length ≤ 1000000) : RefOk M R := by
  refine ⟨hs, hok, h.closed hok, fun p x hx => ?_, fun p x hx => ?_, hl⟩
  · obtain ⟨rows, h1, h2⟩ := h
    obtain ⟨l, hl, hr, _, rfl, hm⟩ := h1 p x hx
    exact h2 l hl _ (row_lined (row_go hr) x hm).2.2.2
  · obtain ⟨rows, h1, _⟩ := h
    obtain ⟨l, hl, hr, _, rfl, hm⟩ := h1 p x hx
    exact row_kind (row_go hr) _ (row_lined (row_go hr) x hm).2.2.2
theorem seeR_len (l : List OpL) (R : RV) : (seeR l R).2.lines.length ≤ R.lines.length + l.length := by
  unfold seeR
  split
  · simp
  · split
    · simp
    · have := addR_length (linedL (0, 0) l) R.lines
      rw [linedL_length] at this
      exact this
/-- a model, and the document's beside it -/
structure BM (W w : World) (m : Nat) (M : MV) (F : Nat → Prop) (r : Nat) (R : RV) (G : Nat → Prop) (n : Nat) : Prop where
  mm : MAt w m M F
  rr : RMAt w r R G
  nm : ∀ k, F k → W.heap.size ≤ k
  nr : ∀ k, G k → W.heap.size ≤ k
  dj : ∀ k, F k → ¬ G k
  kp : Kp No W w
  ok : OkM M
  snd : SoundM M
  same : SameL M R
  asks : M.asks = R.asks
  la : R.asks.length ≤ n
  ll : R.lines.length ≤ n * 4096
namespace BM
variable {W w w' : World} {m m' r n : Nat} {M M' : MV} {R R' : RV} {F G F' G' : Nat → Prop}
theorem keptNo (h : BM W w m M F r R G n) (hk : Kp No w w') : BM W w' m M F r R G n :=
  ⟨h.mm.keptNo hk, h.rr.keptNo hk, h.nm, h.nr, h.dj, h.kp.trans' hk, h.ok, h.snd, h.same, h.asks, h.la, h.ll⟩
theorem ref (h : BM W w m M F r R G n) (hn : n ≤ 100) : RefOk M R := RefOk.of h.same h.ok h.snd (by have := h.ll; omega)
end BM
/-- both in memory, whatever they hold -/
structure BP (W w : World) (m : Nat) (M : MV) (F : Nat → Prop) (r : Nat) (R : RV) (G : Nat → Prop) : Prop where
  mm : MAt w m M F
  rr : RMAt w r R G
  nm : ∀ k, F k → W.heap.size ≤ k
  nr : ∀ k, G k → W.heap.size ≤ k
  dj : ∀ k, F k → ¬ G k
  kp : Kp No W w
namespace BP
variable {W w w' : World} {m m' r n : Nat} {M M' : MV} {R R' : RV} {F G F' G' : Nat → Prop}
theorem of (h : BM W w m M F r R G n) : BP W w m M F r R G := ⟨h.mm, h.rr, h.nm, h.nr, h.dj, h.kp⟩
theorem keptNo (h : BP W w m M F r R G) (hk : Kp No w w') : BP W w' m M F r R G := ⟨h.mm.keptNo hk, h.rr.keptNo hk, h.nm, h.nr, h.dj, h.kp.trans' hk⟩
theorem turnM (h : BP W w m M F r R G) (hm : MAt w' m' M' F') (hu : Upd F w w' F') : BP W w' m' M' F' r R G :=
  ⟨hm, h.rr.kept hu.kp (fun k hg hf => h.dj k hf hg), fun k hk => (hu.foot k hk).elim (h.nm k) (fun hle => Nat.le_trans h.kp.size hle), h.nr, fun k hk hg => (hu.foot k hk).elim (fun hf => h.dj k hf hg) (fun hle => by have := h.rr.lt hg; omega), h.kp.trans hu.kp (fun i hi hf => by have := h.nm i hf; omega)⟩
theorem turnR (h : BP W w m M F r R G) (hr : RMAt w' r R' G') (hu : Upd G w w' G') : BP W w' m M F r R' G' :=
  ⟨h.mm.kept hu.kp (fun k hf hg => h.dj k hf hg), hr, h.nm, fun k hk => (hu.foot k hk).elim (h.nr k) (fun hle => Nat.le_trans h.kp.size hle), fun k hf hk => (hu.foot k hk).elim (fun hg => h.dj k hf hg) (fun hle => by have := h.mm.lt hf; omega), h.kp.trans hu.kp (fun i hi hg => by have := h.nr i hg; omega)⟩
theorem see {l : List OpL} (h : BP W w' m (seeL l M).2 F r (seeR l R).2 G) (hb : BM W w m M F' r R G' n) (hl : ∀ o ∈ l, o.nums) (hll : l.length ≤ 4096) (hsm : ∀ o ∈ l, o.hashes.length ≤ 4096) : BM W w' m (seeL l M).2 F r (seeR l R).2 G (n + 1) ∧ (seeL l M).1 = (seeR l R).1 := by
  obtain ⟨h1, h2, h3, h4⟩ := see_same hb.same hb.ok l
  refine ⟨⟨h.mm, h.rr, h.nm, h.nr, h.dj, h.kp, hb.ok.see (by omega) (fun o ho => by have := hsm o ho; omega), hb.snd.see hb.ok hl, h2, by rw [h3, h4]; exact hb.asks, by rw [h4]; have := hb.la; omega, by have := hb.ll; have := seeR_len l R; omega⟩, h1⟩
end BP
/-- a copy goes on in a model's place, whatever the old one then sees -/
theorem Upd.copied {w w1 w2 : World} {m b m2 b2 : Nat} {av av2 : Value} {S : Nat → Prop} {M : MV} {F : Nat → Prop} (h : MIn w m b av S M) (hf : ∀ k, F k ↔ MFoot m b av S k) (hk : Kp No w w1) (hc : MIn w1 m2 b2 av2 S M)
    (hn : w.heap.size ≤ m2 ∧ w.heap.size ≤ b2 ∧ ∀ k, av2.ownBlock = some k → w.heap.size ≤ k) (hk2 : Kp (· = b) w1 w2) : MAt w2 m2 M (MFoot m2 b2 av2 S) ∧ Upd F w w2 (MFoot m2 b2 av2 S) := by
  have hb : b < w.heap.size := h.lt (.inr (.inl rfl))
  refine ⟨⟨b2, av2, S, hc.kept hk2 (fun k hk e => ?_), fun _ => Iff.rfl⟩, ⟨hk.any.trans hk2 (fun k _ e => (hf k).2 (.inr (.inl e))), fun k hk => ?_⟩⟩
  · subst e
    rcases hk with h1 | h1 | h1 | h1
    · omega
    · omega
    · have := hn.2.2 _ h1; omega
    · exact h.sb h1
  · rcases hk with h1 | h1 | h1 | h1
    · exact .inr (by omega)
    · exact .inr (by omega)
    · exact .inr (hn.2.2 _ h1)
    · exact .inl ((hf k).2 (.inr (.inr (.inr h1))))
end Go.Proofs.Ytamfgmlhopjppaa
