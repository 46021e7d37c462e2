/-
  Maps whose keys are places (api.Spot); lines of a model.
-/
import Derived.Test.YtbncblnchcmgbaaMapR
import Derived.Test.YtbncblnchcmgbaaOpL
import Derived.Test.YtbncblnchcmgbaaClon
import Derived.Test.YtbncblnchcmgbaaW32
import Derived.DeepKeys3
namespace Go.Proofs.Ytbncblnchcmgbaa
open Go.RowKit Go.ChangeShapes Go.WideShapes Go.ChangeAt

def spotV (p : Int × Int) : Value := .agg #[.int .i64 p.1, .int .i64 p.2]
theorem run_spot_eq (a b : Int × Int) (w : World) : (Op.equal 54 (spotV a) (spotV b)).run Try.prog w = .ok (decide (a = b)) w := by
  obtain ⟨a1, a2⟩ := a
  obtain ⟨b1, b2⟩ := b
  unfold spotV
  show (Op.equalIn 10000 _ _ _).run _ _ = _
  by_cases h1 : a1 = b1
  · by_cases h2 : a2 = b2
    · subst h1 h2
      simp only [decide_true]
      go_simp
    · have e : decide ((a1, a2) = (b1, b2)) = false := by simp [h1, h2]
      rw [e]
      have hb : (a2 == b2) = false := beq_eq_false_iff_ne.2 h2
      subst h1
      go_simp
  · have e : decide ((a1, a2) = (b1, b2)) = false := by simp [h1]
    rw [e]
    have hb : (a1 == b1) = false := beq_eq_false_iff_ne.2 h1
    go_simp
theorem int_check (b : Bool) (x : Int) (w : World) : (Instr.checkKey b 9999 3 (.int .i64 x)).run Try.prog w = .ok () w := by
  show (Instr.checkKey b (9998 + 1) _ _).run _ _ = _
  unfold Instr.checkKey
  simp [run_underlying Try.underlying3]
theorem spot_check (b : Bool) (k : Int × Int) (w : World) : (Instr.checkKey b 10000 54 (spotV k)).run Try.prog w = .ok () w := by
  obtain ⟨k1, k2⟩ := k
  show (Instr.checkKey b (9999 + 1) _ _).run _ _ = _
  unfold Instr.checkKey spotV
  have h1 := int_check b k1 w
  have h2 := int_check b k2 w
  simp only [Sem.run_bind, run_underlying Try.underlying54, Result.andThen_ok]
  go_simp
theorem findAsking_spot (k : Int × Int) : ∀ (l : List ((Int × Int) × Value)) (es : List MapEntry) (i : Nat) (w : World), es.map (fun e => (e.key, e.val)) = l.map (fun p => (spotV p.1, p.2)) →
    (Instr.findAsking 54 (spotV k) es i).run Try.prog w = .ok ((findIx k l).map fun x => (x.1 + i, x.2)) w
  | [], [], i, w, _ => rfl
  | [], _ :: _, _, _, h => by cases h
  | _ :: _, [], _, _, h => by cases h
  | (k', v) :: l, e :: es, i, w, h => by
    simp only [List.map_cons, List.cons.injEq, Prod.mk.injEq] at h
    obtain ⟨⟨h1, h2⟩, h3⟩ := h
    unfold Instr.findAsking
    simp only [Sem.run_bind, h1, run_spot_eq, Result.andThen_ok]
    by_cases hk : k = k'
    · simp [hk, findIx, h2]
    · simp only [hk, decide_false, Bool.false_eq_true, if_false]
      rw [findAsking_spot k l es (i + 1) w h3]
      simp only [findIx, if_neg hk, Option.map_map]
      congr 1
      congr 1
      funext x
      simp only [Function.comp, Prod.mk.injEq, and_true]
      omega
theorem spot_key : KeyOk Try.prog 54 spotV where
  inj a b h := by
    obtain ⟨a1, a2⟩ := a
    obtain ⟨b1, b2⟩ := b
    unfold spotV at h
    simp at h
    rw [h.1, h.2]
  check := spot_check
  find k l es w h := by
    rw [run_findKey_eq w (by rw [Try.underlying54])]
    have := findAsking_spot k l es 0 w h
    rw [this]
    simp
  stays k w := by
    unfold Instr.keyThatStays spotV
    have : Instr.sameBits 10000 (.agg #[.int .i64 k.1, .int .i64 k.2]) (.agg #[.int .i64 k.1, .int .i64 k.2]) = true := by
      show Instr.sameBits (9999 + 1) _ _ = true
      simp [Instr.sameBits]
    rw [this]
    simp
end Go.Proofs.Ytbncblnchcmgbaa
