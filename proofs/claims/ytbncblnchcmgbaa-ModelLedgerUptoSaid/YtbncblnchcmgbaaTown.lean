/-
  Two ledgers and their letters in memory (redoubtlaw12.town).
-/
import Derived.Test.YtbncblnchcmgbaaTownL
namespace Go.Proofs.Ytbncblnchcmgbaa
open Go.RowKit Go.ChangeShapes Go.WideShapes Go.ChangeAt

structure TIn (n0 : Nat) (w : World) (t : Nat) (x : Bool → Nat) (F : Bool → Nat → Prop) (sv tv : Value) (S : Nat → Prop) (T : TV) : Prop where
  blk : Blk w t 30 [.pointer (some ⟨x false, 0, none⟩), .pointer (some ⟨x true, 0, none⟩), .int .i64 T.epoch, sv, tv]
  led : ∀ b, LAt w (x b) (T.l b) (F b)
  sent : Own Rp.cmd w S n0 44 sv (T.sent.map (·.1))
  tos : Own (Rp.int .i64) w No n0 3 tv (T.sent.map fun p => sI p.2)
  ap : ∀ k, F false k → ¬ F true k
  ft : ∀ b, ¬ F b t
  fs : ∀ b k, F b k → ¬ S k ∧ sv.ownBlock ≠ some k ∧ tv.ownBlock ≠ some k
  st : ¬ S t ∧ sv.ownBlock ≠ some t ∧ tv.ownBlock ≠ some t
  so : ∀ k, S k → sv.ownBlock ≠ some k ∧ tv.ownBlock ≠ some k
  oo : ∀ k, sv.ownBlock = some k → tv.ownBlock ≠ some k
  sb : ∀ k, S k → n0 ≤ k ∧ k < w.heap.size
  fb : ∀ b k, F b k → n0 ≤ k
  tb : n0 ≤ t
namespace TIn
variable {n0 : Nat} {w w' : World} {t : Nat} {x : Bool → Nat} {F : Bool → Nat → Prop} {sv tv : Value} {S : Nat → Prop} {T : TV}
theorem apart (h : TIn n0 w t x F sv tv S T) {a b : Bool} (hne : a ≠ b) : ∀ k, F a k → ¬ F b k := by
  intro k h1 h2
  cases a <;> cases b
  · exact hne rfl
  · exact h.ap k h1 h2
  · exact h.ap k h2 h1
  · exact hne rfl
theorem keptNo (h : TIn n0 w t x F sv tv S T) (hk : Kp No w w') : TIn n0 w' t x F sv tv S T :=
  ⟨h.blk.kept hk (fun x => x), fun b => (h.led b).keptNo hk, h.sent.kept hk (fun _ _ _ x => x) (fun _ _ x => x), h.tos.kept hk (fun _ _ _ x => x) (fun _ _ x => x), h.ap, h.ft, h.fs, h.st, h.so, h.oo, fun k hs => ⟨(h.sb k hs).1, Nat.lt_of_lt_of_le (h.sb k hs).2 hk.size⟩, h.fb, h.tb⟩
theorem apply (h : TIn n0 w t x F sv tv S T) (hn : n0 ≤ w.heap.size) (s : Bool) {L : LV} {F' : Nat → Prop} (ha : LAt w' (x s) L F') (hu : Upd (F s) w w' F') : TIn n0 w' t x (fun b => if b = s then F' else F b) sv tv S (T.put s L) := by
  have hlt := Blk.lt h.blk
  have hf : ∀ k, F' k → F s k ∨ w.heap.size ≤ k := hu.foot
  have hF : ∀ b k, (if b = s then F' else F b) k → (b = s ∧ F' k) ∨ (b ≠ s ∧ F b k) := fun b k hk => by
    by_cases e : b = s
    · rw [if_pos e] at hk; exact .inl ⟨e, hk⟩
    · rw [if_neg e] at hk; exact .inr ⟨e, hk⟩
  refine ⟨h.blk.kept hu.kp (h.ft s), fun b => ?_, h.sent.kept hu.kp (fun k hs _ e => (h.fs s k e).1 hs) (fun k hv e => (h.fs s k e).2.1 hv), h.tos.kept hu.kp (fun _ hs _ _ => hs) (fun k hv e => (h.fs s k e).2.2 hv), fun k h1 h2 => ?_, fun b hk => ?_, fun b k hk => ?_, h.st, h.so, h.oo, fun k hs => ⟨(h.sb k hs).1, Nat.lt_of_lt_of_le (h.sb k hs).2 hu.kp.size⟩, fun b k hk => ?_, h.tb⟩
  · by_cases e : b = s
    · subst e; rw [TV.put_same, if_pos rfl]; exact ha
    · rw [TV.put_other T L e, if_neg e]
      exact (h.led b).kept hu.kp (fun k h1 h2 => h.apart e k h1 h2)
  · rcases hF false k h1 with ⟨e1, h1⟩ | ⟨e1, h1⟩ <;> rcases hF true k h2 with ⟨e2, h2⟩ | ⟨e2, h2⟩
    · rw [← e1] at e2; cases e2
    · rcases hf k h1 with h3 | h3
      · exact h.apart (Ne.symm e2) k h3 h2
      · have := (h.led true).lt k h2; omega
    · rcases hf k h2 with h3 | h3
      · exact h.apart e1 k h1 h3
      · have := (h.led false).lt k h1; omega
    · exact h.ap k h1 h2
  · rcases hF b t hk with ⟨_, hk⟩ | ⟨_, hk⟩
    · rcases hf t hk with h3 | h3
      · exact h.ft s h3
      · omega
    · exact h.ft b hk
  · rcases hF b k hk with ⟨_, hk⟩ | ⟨_, hk⟩
    · rcases hf k hk with h3 | h3
      · exact h.fs s k h3
      · exact ⟨fun e => by have := (h.sb k e).2; omega, fun e => by have := (h.sent.lt k e).2; omega, fun e => by have := (h.tos.lt k e).2; omega⟩
    · exact h.fs b k hk
  · rcases hF b k hk with ⟨_, hk⟩ | ⟨_, hk⟩
    · rcases hf k hk with h3 | h3
      · exact h.fb s k h3
      · omega
    · exact h.fb b k hk
/-- the next epoch -/
theorem next (h : TIn n0 w t x F sv tv S T) (e : Int) : TIn n0 (w.setCell ⟨t, 2, none⟩ (.int .i64 e)) t x F sv tv S { T with epoch := e } := by
  have hk : Kp (· = t) w (w.setCell ⟨t, 2, none⟩ (.int .i64 e)) := (Kp.refl (· = t) w).setCell (p := ⟨t, 2, none⟩) (fun _ => rfl) _
  exact ⟨Blk.set h.blk 2 _, fun b => (h.led b).kept hk (fun k hf e => h.ft b (e ▸ hf)), h.sent.kept hk (fun k hs _ e => h.st.1 (e ▸ hs)) (fun k hv e => h.st.2.1 (e ▸ hv)), h.tos.kept hk (fun _ hs _ _ => hs) (fun k hv e => h.st.2.2 (e ▸ hv)), h.ap, h.ft, h.fs, h.st, h.so, h.oo,
    fun k hs => ⟨(h.sb k hs).1, Nat.lt_of_lt_of_le (h.sb k hs).2 hk.size⟩, h.fb, h.tb⟩
/-- a letter is kept: t.sent = append(..), t.to = append(..) -/
theorem grown (h : TIn n0 w t x F sv tv S T) {w1 w2 : World} {sv' tv' : Value} {S' : Nat → Prop} (p : CmdL × Bool) (hk1 : Kp (fun k => sv.ownBlock = some k) w w1) (hk2 : Kp (fun k => tv.ownBlock = some k) w1 w2)
    (hs' : ∀ k, S' k → n0 ≤ k ∧ k < w1.heap.size ∧ (S k ∨ (w.heap.size ≤ k ∧ sv'.ownBlock ≠ some k))) (ho : Own Rp.cmd w1 S' n0 44 sv' (T.sent.map (·.1) ++ [p.1])) (hob : sv'.ownBlock = sv.ownBlock ∨ ∃ g, sv'.ownBlock = some g ∧ w.heap.size ≤ g)
    (ht : Own (Rp.int .i64) w2 No n0 3 tv' (T.sent.map (fun p => sI p.2) ++ [sI p.2])) (htb : tv'.ownBlock = tv.ownBlock ∨ ∃ g, tv'.ownBlock = some g ∧ w1.heap.size ≤ g) :
    TIn n0 ((w2.setCell ⟨t, 3, none⟩ sv').setCell ⟨t, 4, none⟩ tv') t x F sv' tv' S' { T with sent := T.sent ++ [p] } := by
  have hlt := Blk.lt h.blk
  have hk3 : Kp (· = t) w2 ((w2.setCell ⟨t, 3, none⟩ sv').setCell ⟨t, 4, none⟩ tv') := ((Kp.refl (· = t) w2).setCell (p := ⟨t, 3, none⟩) (fun _ => rfl) _).setCell (p := ⟨t, 4, none⟩) (fun _ => rfl) _
  have hb2 : Blk w2 t 30 [.pointer (some ⟨x false, 0, none⟩), .pointer (some ⟨x true, 0, none⟩), .int .i64 T.epoch, sv, tv] := (h.blk.kept hk1 h.st.2.1).kept hk2 h.st.2.2
  have hz1 := hk1.size
  have hz2 := hk2.size
  have hnS : ∀ k, S' k → tv.ownBlock ≠ some k := fun k hk e => by
    rcases (hs' k hk).2.2 with h1 | h1
    · exact (h.so k h1).2 e
    · have := (h.tos.lt k e).2; omega
  have hnO : ∀ k, sv'.ownBlock = some k → tv.ownBlock ≠ some k := fun k hk e => by
    rcases hob with h1 | ⟨g, h1, h2⟩
    · exact h.oo k (h1 ▸ hk) e
    · rw [h1] at hk; injection hk with hk; have := (h.tos.lt k e).2; omega
  have hS't : ¬ S' t := fun e => by
    rcases (hs' t e).2.2 with h1 | h1
    · exact h.st.1 h1
    · omega
  have hsvt : sv'.ownBlock ≠ some t := fun e => by
    rcases hob with h1 | ⟨g, h1, h2⟩
    · exact h.st.2.1 (h1 ▸ e)
    · rw [h1] at e; injection e with e; omega
  have htvt : tv'.ownBlock ≠ some t := fun e => by
    rcases htb with h1 | ⟨g, h1, h2⟩
    · exact h.st.2.2 (h1 ▸ e)
    · rw [h1] at e; injection e with e; omega
  refine ⟨Blk.set (Blk.set hb2 3 sv') 4 tv', fun b => ?_, ?_, ?_, h.ap, h.ft, fun b k hk => ?_, ⟨hS't, hsvt, htvt⟩, fun k hk => ?_, fun k hk e => ?_, fun k hk => ?_, h.fb, h.tb⟩
  · exact (((h.led b).kept hk1 (fun k hf e => (h.fs b k hf).2.1 e)).kept hk2 (fun k hf e => (h.fs b k hf).2.2 e)).kept hk3 (fun k hf e => h.ft b (e ▸ hf))
  · show Own _ _ _ _ _ _ ((T.sent ++ [p]).map _)
    rw [List.map_append]
    exact (ho.kept hk2 (fun k hk _ e => hnS k hk e) (fun k hv e => hnO k hv e)).kept hk3 (fun k hk _ e => hS't (e ▸ hk)) (fun k hv e => hsvt (e ▸ hv))
  · show Own _ _ _ _ _ _ ((T.sent ++ [p]).map _)
    rw [List.map_append]
    exact ht.kept hk3 (fun _ hs _ _ => hs) (fun k hv e => htvt (e ▸ hv))
  · have hlk := (h.led b).lt k hk
    refine ⟨fun e => ?_, fun e => ?_, fun e => ?_⟩
    · rcases (hs' k e).2.2 with h1 | h1
      · exact (h.fs b k hk).1 h1
      · omega
    · rcases hob with h1 | ⟨g, h1, h2⟩
      · exact (h.fs b k hk).2.1 (h1 ▸ e)
      · rw [h1] at e; injection e with e; omega
    · rcases htb with h1 | ⟨g, h1, h2⟩
      · exact (h.fs b k hk).2.2 (h1 ▸ e)
      · rw [h1] at e; injection e with e; omega
  · refine ⟨fun e => ?_, fun e => ?_⟩
    · rcases (hs' k hk).2.2 with h1 | h1
      · rcases hob with h2 | ⟨g, h2, h3⟩
        · exact (h.so k h1).1 (h2 ▸ e)
        · rw [h2] at e; injection e with e; have := (h.sb k h1).2; omega
      · exact h1.2 e
    · rcases htb with h2 | ⟨g, h2, h3⟩
      · exact hnS k hk (h2 ▸ e)
      · rw [h2] at e; injection e with e; have := (hs' k hk).2.1; omega
  · rcases htb with h2 | ⟨g, h2, h3⟩
    · exact hnO k hk (h2 ▸ e)
    · rw [h2] at e; injection e with e; have := (ho.lt k hk).2; omega
  · have := (hs' k hk).2.1
    have hz3 := hk3.size
    exact ⟨(hs' k hk).1, by omega⟩
end TIn
/-- a town that the call made -/
def TNew (w0 w : World) (t : Nat) (T : TV) : Prop := Kp No w0 w ∧ ∃ x F sv tv S, TIn w0.heap.size w t x F sv tv S T
theorem TNew.keptNo {w0 w w' : World} {t : Nat} {T : TV} (h : TNew w0 w t T) (hk : Kp No w w') : TNew w0 w' t T := by
  obtain ⟨h1, x, F, sv, tv, S, h2⟩ := h
  exact ⟨h1.trans' hk, x, F, sv, tv, S, h2.keptNo hk⟩
end Go.Proofs.Ytbncblnchcmgbaa
