/-
  Operations, plainly: which may be; which may stand in a row.
-/
import Derived.Test.YtbncblnchcmgbaaOpL
import Derived.Test.YtbncblnchcmgbaaH2L
namespace Go.Proofs.Ytbncblnchcmgbaa
open Go.RowKit Go.ChangeShapes Go.WideShapes Go.ChangeAt

/-- an epoch and a site that may be -/
def reignP (e s : Int) : Prop := 1 ≤ e ∧ e ≤ 16 ∧ 0 ≤ s ∧ s ≤ 1
instance (e s : Int) : Decidable (reignP e s) := by unfold reignP; exact inferInstance
/-- somebody's -/
def someP (o : OpL) : Prop := 0 ≤ o.client ∧ o.client < 8 ∧ 1 ≤ o.seq ∧ o.seq ≤ 1099511627776 ∧ 1 ≤ o.name.size ∧ o.name.size ≤ 16
instance (o : OpL) : Decidable (someP o) := by unfold someP; exact inferInstance
def bareP (o : OpL) : Prop := o.size = 0 ∧ o.hashes.length = 0
instance (o : OpL) : Decidable (bareP o) := by unfold bareP; exact inferInstance
/-- nobody's -/
def blankP (o : OpL) : Prop := o.client = 0 ∧ o.seq = 0 ∧ o.name.size = 0 ∧ bareP o
instance (o : OpL) : Decidable (blankP o) := by unfold blankP; exact inferInstance
def placeP (o : OpL) : Prop := 1 ≤ o.n ∧ o.n ≤ 80 ∧ reignP o.epoch o.site
instance (o : OpL) : Decidable (placeP o) := by unfold placeP; exact inferInstance
def okP (o : OpL) : Prop := placeP o ∧ ((o.kind = 1 ∧ someP o ∧ okSheet o.size o.hashes = true) ∨ (o.kind = 2 ∧ someP o ∧ bareP o) ∨ (o.kind = 3 ∧ blankP o))
instance (o : OpL) : Decidable (okP o) := by unfold okP; exact inferInstance
/-- an operation behind a place -/
def nextP (n e s : Int) (o : OpL) : Prop := okP o ∧ o.n = n + 1 ∧ ((o.kind = 3 ∧ e < o.epoch) ∨ (o.kind ≠ 3 ∧ o.epoch = e ∧ (s < 0 ∨ o.site = s)))
instance (n e s : Int) (o : OpL) : Decidable (nextP n e s o) := by unfold nextP; exact inferInstance
def rowGo : Int → Int → Int → List OpL → Bool
  | _, _, _, [] => true
  | n, e, s, o :: t => decide (nextP n e s o) && rowGo o.n o.epoch o.site t
def spotP (n e : Int) : Prop := 0 ≤ n ∧ n ≤ 80 ∧ 0 ≤ e ∧ e ≤ 16 ∧ (n = 0 ↔ e = 0)
instance (n e : Int) : Decidable (spotP n e) := by unfold spotP; exact inferInstance
def rowB (n e : Int) (l : List OpL) : Bool := decide (spotP n e) && rowGo n e (-1) l
end Go.Proofs.Ytbncblnchcmgbaa
