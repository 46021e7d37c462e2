/-
  What two sites do, plainly, turn by turn.
-/
import Derived.Test.YtbncblnchcmgbaaMatL
import Derived.Test.YtbncblnchcmgbaaTurn
import Derived.Test.YtbncblnchcmgbaaSml
namespace Go.Proofs.Ytbncblnchcmgbaa
open Go.RowKit Go.ChangeShapes Go.WideShapes Go.ChangeAt

def modN (a : Int) (n : Nat) : Nat := ((IntKind.u64.wrap a).tmod n).toNat
theorem u64_nonneg (a : Int) : 0 ≤ IntKind.u64.wrap a := by simp [IntKind.wrap, IntKind.bits, IntKind.signed]; omega
theorem modN_eq (a : Int) {n : Nat} (_ : 0 < n) : (IntKind.u64.wrap a).tmod n = (modN a n : Int) := by
  have h0 := u64_nonneg a
  have h1 : (0 : Int) ≤ (IntKind.u64.wrap a).tmod n := Int.tmod_nonneg _ h0
  unfold modN
  omega
theorem modN_lt (a : Int) {n : Nat} (h : 0 < n) : modN a n < n := by
  have h0 := u64_nonneg a
  have h1 : (IntKind.u64.wrap a).tmod n < n := Int.tmod_lt_of_pos _ (by omega)
  have := modN_eq a h
  omega
def sOf (site : Int) : Bool := modN site 2 == 1
theorem sOf_eq (site : Int) : (modN site 2 : Int) = sI (sOf site) := by
  have := modN_lt site (show 0 < 2 by omega)
  unfold sOf sI
  rcases (show modN site 2 = 0 ∨ modN site 2 = 1 by omega) with h | h <;> rw [h] <;> rfl
/-- does a site ship? -/
def shipsP (L : LV) (s : Bool) : Prop := L.fold.hE ≠ 0 ∧ L.fold.hS = sI s ∧ L.fold.hE = L.fence
instance (L : LV) (s : Bool) : Decidable (shipsP L s) := by unfold shipsP; exact inferInstance
def sentC (L : LV) (s : Bool) (a k : Int) : CmdL := shipC L s (modN a (L.ops.length + 1)) (modN k 9)
def shipT (s : Bool) (a k : Int) (T : TV) : TV := if shipsP (T.l s) s then { T with sent := T.sent ++ [(sentC (T.l s) s a k, !s)] } else T
def cameT (p : CmdL × Bool) (T : TV) : TV := T.put p.2 (applyL p.1 (T.l p.2)).2
def clearO (o : OpL) : OpL := { o with n := 0, epoch := 0, site := 0 }
def reignT (s : Bool) (T : TV) : TV := if T.epoch < 16 then { T.put s (applyL (reignC (T.epoch + 1) s) (T.l s)).2 with epoch := T.epoch + 1 } else T
def doT (s : Bool) (o : OpL) (T : TV) : TV := T.put s (applyL (doC (T.l s).fence s o) (T.l s)).2
def sendT (s : Bool) (a k : Int) (T : TV) : TV := if shipsP (T.l s) s then cameT (sentC (T.l s) s a k, !s) (shipT s a k T) else T
def againT (a : Int) (T : TV) : TV := match T.sent[modN a T.sent.length]? with
  | some p => cameT p T
  | none => T
def turnT (x : TurnL) (T : TV) : TV :=
  if x.kind = 1 then reignT (sOf x.site) T
  else if x.kind = 2 then doT (sOf x.site) (clearO x.op) T
  else if x.kind = 3 then sendT (sOf x.site) x.at_ x.some_ T
  else againT x.at_ T
/-- both ledgers are such as may be; so are the letters -/
structure TOk (i : Nat) (T : TV) : Prop where
  led : ∀ b, OkL (80 * i) (T.l b)
  sent : ∀ p ∈ T.sent, p.1.kind = 3 ∧ SmallC 1000 1000 p.1
  many : T.sent.length ≤ i
  epoch : 0 ≤ T.epoch ∧ T.epoch ≤ 16
theorem TOk.begins (q r : Int) (h : newP q r) : TOk 0 ⟨fun _ => newL q r, 0, []⟩ := ⟨fun _ => newL_ok h, fun p hp => absurd hp List.not_mem_nil, Nat.le_refl _, by show (0 : Int) ≤ 0 ∧ (0 : Int) ≤ 16; omega⟩
theorem TOk.up {i : Nat} {T : TV} (h : TOk i T) : TOk (i + 1) T := ⟨fun b => (h.led b).mono (by omega), h.sent, by have := h.many; omega, h.epoch⟩
theorem TOk.put {i : Nat} {T : TV} (h : TOk i T) (s : Bool) {L : LV} (hL : OkL (80 * (i + 1)) L) : TOk (i + 1) (T.put s L) :=
  ⟨fun b => by
    by_cases e : b = s
    · subst e; rw [TV.put_same]; exact hL
    · rw [TV.put_other T L e]; exact (h.led b).mono (by omega), h.sent, by have := h.many; show T.sent.length ≤ _; omega, h.epoch⟩
theorem TOk.apply {i : Nat} {T : TV} (h : TOk i T) (s : Bool) (c : CmdL) : TOk (i + 1) (T.put s (applyL c (T.l s)).2) := h.put s ((apply_ok (h.led s) c).mono (by omega))
theorem shipC_small {B : Nat} {L : LV} (h : OkL B L) (s : Bool) (a k : Nat) : (shipC L s a k).kind = 3 ∧ SmallC 1000 1000 (shipC L s a k) := by
  refine ⟨rfl, Nat.zero_le _, ?_, fun o ho => ?_⟩
  · show ((L.ops.drop a).take k).length ≤ 1000
    have := h.len
    rw [List.length_take, List.length_drop]; omega
  · have hm : o ∈ L.ops := List.mem_of_mem_drop (List.mem_of_mem_take ho)
    have := (h.okOf hm).hashes
    omega
theorem TOk.send {i : Nat} {T : TV} (h : TOk i T) (s : Bool) (a k : Int) (hm : T.sent.length < i + 1) : (∀ p ∈ (T.sent ++ [(sentC (T.l s) s a k, !s)]), p.1.kind = 3 ∧ SmallC 1000 1000 p.1) ∧ (T.sent ++ [(sentC (T.l s) s a k, !s)]).length ≤ i + 1 := by
  refine ⟨fun p hp => ?_, by rw [List.length_append, List.length_singleton]; omega⟩
  rcases List.mem_append.1 hp with hp | hp
  · exact h.sent p hp
  · rw [List.mem_singleton] at hp
    subst hp
    exact shipC_small (h.led s) s _ _
theorem turn_ok {i : Nat} {T : TV} (h : TOk i T) (x : TurnL) : TOk (i + 1) (turnT x T) := by
  unfold turnT
  split
  · unfold reignT
    split
    · have h1 := h.apply (sOf x.site) (reignC (T.epoch + 1) (sOf x.site))
      have := h.epoch
      exact ⟨h1.led, h1.sent, h1.many, by show 0 ≤ T.epoch + 1 ∧ T.epoch + 1 ≤ 16; omega⟩
    · exact h.up
  · split
    · exact h.apply _ _
    · split
      · unfold sendT
        split
        · rename_i hs
          obtain ⟨h1, h2⟩ := h.send (sOf x.site) x.at_ x.some_ (by have := h.many; omega)
          have h3 := h.apply (!sOf x.site) (sentC (T.l (sOf x.site)) (sOf x.site) x.at_ x.some_)
          unfold shipT
          rw [if_pos hs]
          exact ⟨h3.led, h1, h2, h3.epoch⟩
        · exact h.up
      · unfold againT
        split
        · exact h.apply _ _
        · exact h.up
theorem turn_inv {i : Nat} {T : TV} (h : TOk i T) {C : Int → List OpL} {own : Int → Bool} (hi : TInv T C own) (x : TurnL) : ∃ C' own', TInv (turnT x T) C' own' := by
  unfold turnT
  split
  · unfold reignT
    split
    · exact hi.reign _ (apply_ok (h.led _) _).row
    · exact ⟨C, own, hi⟩
  · split
    · exact hi.do_ _ _ (apply_ok (h.led _) _).row
    · split
      · unfold sendT
        split
        · rename_i hs
          obtain ⟨h1, h2, h3⟩ := hs
          have hlt := modN_lt x.at_ (show 0 < (T.l (sOf x.site)).ops.length + 1 by omega)
          have hq := hi.sends (sOf x.site) (modN x.at_ ((T.l (sOf x.site)).ops.length + 1)) (modN x.some_ 9) (by omega) h1 h2 h3
          unfold shipT
          rw [if_pos ⟨h1, h2, h3⟩]
          exact ⟨C, own, hq.comes (p := (sentC (T.l (sOf x.site)) (sOf x.site) x.at_ x.some_, !sOf x.site)) (List.mem_append.2 (.inr (List.mem_singleton.2 rfl))) rfl⟩
        · exact ⟨C, own, hi⟩
      · unfold againT
        split
        · rename_i p hp
          have hm := List.mem_of_getElem? hp
          exact ⟨C, own, hi.comes hm (h.sent p hm).1⟩
        · exact ⟨C, own, hi⟩
end Go.Proofs.Ytbncblnchcmgbaa
