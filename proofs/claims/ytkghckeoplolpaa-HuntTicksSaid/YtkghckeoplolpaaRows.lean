/-
  No cell of these rows narrows 'for every input' (looked for: loops, veiled, ifaces, maps, wideKeys, modest, calm, conditions, laid).
  DERIVED. THE GIVEN ROWS OF THIS SEAT. 6 by the template 'for every input the law returns true; each argument reads behind the call as it read before'; 0 by the template 'total and deterministic' (their statements: YtkghckeoplolpaaTotals.lean).
  GIVEN WITH THE SEED: the statements are not yours to turn. If you find one false, say at which input.
  Laid BY PROGRAM, IN A SANDBOX (cutbox-rows.mjs): the forced cells as the released guide's own fill.sh prints them over the translation 13d4d999781c2c8c… (all of the seat's roots in one cut). By AI agents, Wed Nov 11 2026. No macro, syntax, notation, axiom, sorry.
-/
import Derived.Test.YtkghckeoplolpaaChecked
import GoSem.Claim
import GoSem.ClaimJoined
import GoSem.ClaimMapViews
import Derived.JoinedTies
import Derived.KernelRfl
namespace Go.Proofs.Ytkghckeoplolpaa
/- THE CELL 'sum', in the pinned program and in every row, IS THE sha256 OF THE DUMP (.gsa) THAT YtkghckeoplolpaaProg.lean LOADS. Nothing in Lean hashes anything: it is a label: what it is worth is what the hold of that sum in a sandbox is worth. -/
noncomputable def Try.pinned : Pinned := { name := "ytkghckeoplolpaa", sum := "13d4d999781c2c8c3034ec7d7e39b489ecc739e5245fd767af6a86ff705a852c", checked := Try.checked }
namespace Rows
def none {H : Type} : Left H := { results := [], args := [] }

/-- 'redoubtlaw19.HuntAll': WHATEVER THE INPUT: true; the input reads as it did. -/
def huntAllSpec : ChangeSpec := { name := "huntAll", fn := fun _ => fun
  | [d1, d2, d3] => { results := [.lit (.bool true)], args := [d1, d2, d3] }
  | _ => none }
def huntAllRow : OpenClaim := { program := "ytkghckeoplolpaa", sum := "13d4d999781c2c8c3034ec7d7e39b489ecc739e5245fd767af6a86ff705a852c", func := "redoubt/redoubtlaw19.HuntAll", spec := "huntAll", apart := false }
def HuntAllSaid : Prop := huntAllRow.holds Try.pinned (OpenSpec.ofChange huntAllSpec)

/-- ITS FALSE NEIGHBOUR: 'it returns false'. Refute it at one input. -/
def huntAllWrong : ChangeSpec := { name := "huntAll", fn := fun _ => fun
  | [d1, d2, d3] => { results := [.lit (.bool false)], args := [d1, d2, d3] }
  | _ => none }
def HuntAllWrongFalsely : Prop := huntAllRow.holds Try.pinned (OpenSpec.ofChange huntAllWrong)

/-- 'redoubtlaw16.BucketGoes': WHATEVER THE INPUT: true; the input reads as it did. -/
def bucketGoesSpec : ChangeSpec := { name := "bucketGoes", fn := fun _ => fun
  | [d1, d2, d3, d4] => { results := [.lit (.bool true)], args := [d1, d2, d3, d4] }
  | _ => none }
def bucketGoesRow : OpenClaim := { program := "ytkghckeoplolpaa", sum := "13d4d999781c2c8c3034ec7d7e39b489ecc739e5245fd767af6a86ff705a852c", func := "redoubt/redoubtlaw16.BucketGoes", spec := "bucketGoes", apart := false }
def BucketGoesSaid : Prop := bucketGoesRow.holds Try.pinned (OpenSpec.ofChange bucketGoesSpec)

/-- ITS FALSE NEIGHBOUR: 'it returns false'. Refute it at one input. -/
def bucketGoesWrong : ChangeSpec := { name := "bucketGoes", fn := fun _ => fun
  | [d1, d2, d3, d4] => { results := [.lit (.bool false)], args := [d1, d2, d3, d4] }
  | _ => none }
def BucketGoesWrongFalsely : Prop := bucketGoesRow.holds Try.pinned (OpenSpec.ofChange bucketGoesWrong)

/-- 'redoubtlaw19.HuntTicks': WHATEVER THE INPUT: true; the input reads as it did. -/
def huntTicksSpec : ChangeSpec := { name := "huntTicks", fn := fun _ => fun
  | [d1, d2] => { results := [.lit (.bool true)], args := [d1, d2] }
  | _ => none }
def huntTicksRow : OpenClaim := { program := "ytkghckeoplolpaa", sum := "13d4d999781c2c8c3034ec7d7e39b489ecc739e5245fd767af6a86ff705a852c", func := "redoubt/redoubtlaw19.HuntTicks", spec := "huntTicks", apart := false }
def HuntTicksSaid : Prop := huntTicksRow.holds Try.pinned (OpenSpec.ofChange huntTicksSpec)

/-- ITS FALSE NEIGHBOUR: 'it returns false'. Refute it at one input. -/
def huntTicksWrong : ChangeSpec := { name := "huntTicks", fn := fun _ => fun
  | [d1, d2] => { results := [.lit (.bool false)], args := [d1, d2] }
  | _ => none }
def HuntTicksWrongFalsely : Prop := huntTicksRow.holds Try.pinned (OpenSpec.ofChange huntTicksWrong)

/-- 'redoubtlaw16.BucketPlays': WHATEVER THE INPUT: true; the input reads as it did. -/
def bucketPlaysSpec : ChangeSpec := { name := "bucketPlays", fn := fun _ => fun
  | [d1, d2, d3] => { results := [.lit (.bool true)], args := [d1, d2, d3] }
  | _ => none }
def bucketPlaysRow : OpenClaim := { program := "ytkghckeoplolpaa", sum := "13d4d999781c2c8c3034ec7d7e39b489ecc739e5245fd767af6a86ff705a852c", func := "redoubt/redoubtlaw16.BucketPlays", spec := "bucketPlays", apart := false }
def BucketPlaysSaid : Prop := bucketPlaysRow.holds Try.pinned (OpenSpec.ofChange bucketPlaysSpec)

/-- ITS FALSE NEIGHBOUR: 'it returns false'. Refute it at one input. -/
def bucketPlaysWrong : ChangeSpec := { name := "bucketPlays", fn := fun _ => fun
  | [d1, d2, d3] => { results := [.lit (.bool false)], args := [d1, d2, d3] }
  | _ => none }
def BucketPlaysWrongFalsely : Prop := bucketPlaysRow.holds Try.pinned (OpenSpec.ofChange bucketPlaysWrong)

/-- 'redoubtlaw16.BucketBound': WHATEVER THE INPUT: true; the input reads as it did. -/
def bucketBoundSpec : ChangeSpec := { name := "bucketBound", fn := fun _ => fun
  | [d1, d2, d3] => { results := [.lit (.bool true)], args := [d1, d2, d3] }
  | _ => none }
def bucketBoundRow : OpenClaim := { program := "ytkghckeoplolpaa", sum := "13d4d999781c2c8c3034ec7d7e39b489ecc739e5245fd767af6a86ff705a852c", func := "redoubt/redoubtlaw16.BucketBound", spec := "bucketBound", apart := false }
def BucketBoundSaid : Prop := bucketBoundRow.holds Try.pinned (OpenSpec.ofChange bucketBoundSpec)

/-- ITS FALSE NEIGHBOUR: 'it returns false'. Refute it at one input. -/
def bucketBoundWrong : ChangeSpec := { name := "bucketBound", fn := fun _ => fun
  | [d1, d2, d3] => { results := [.lit (.bool false)], args := [d1, d2, d3] }
  | _ => none }
def BucketBoundWrongFalsely : Prop := bucketBoundRow.holds Try.pinned (OpenSpec.ofChange bucketBoundWrong)

/-- 'redoubtlaw16.BucketNil': WHATEVER THE INPUT: true; the input reads as it did. -/
def bucketNilSpec : ChangeSpec := { name := "bucketNil", fn := fun _ => fun
  | [d] => { results := [.lit (.bool true)], args := [d] }
  | _ => none }
def bucketNilRow : OpenClaim := { program := "ytkghckeoplolpaa", sum := "13d4d999781c2c8c3034ec7d7e39b489ecc739e5245fd767af6a86ff705a852c", func := "redoubt/redoubtlaw16.BucketNil", spec := "bucketNil", apart := false }
def BucketNilSaid : Prop := bucketNilRow.holds Try.pinned (OpenSpec.ofChange bucketNilSpec)

/-- ITS FALSE NEIGHBOUR: 'it returns false'. Refute it at one input. -/
def bucketNilWrong : ChangeSpec := { name := "bucketNil", fn := fun _ => fun
  | [d] => { results := [.lit (.bool false)], args := [d] }
  | _ => none }
def BucketNilWrongFalsely : Prop := bucketNilRow.holds Try.pinned (OpenSpec.ofChange bucketNilWrong)

/- THE SECOND FORM. 'bulk': how many values and letters a reading holds, each counted each time it is reached (what is shared counts as often as it is met; a slice's spare places count too). A statement '..UptoSaid' is the law's where the arguments, and the package variables that the reading takes, are together of bulk at most 1048576: NARROWER than '..Said'. Prove '..Said' where nothing that the law and all that it calls make is longer than what came in: it says more and counts as full. Else prove '..UptoSaid'. A law counts once. -/
mutual
def uptoBulk {H : Type} : DataW H → Nat
  | .lit (.string bytes) => bytes.length + 1
  | .lit _ => 1
  | .nil => 1
  | .ptr d => uptoBulk d + 1
  | .slice elems spare => uptoBulkAll elems + uptoBulkAll spare + 1
  | .agg parts => uptoBulkAll parts + 1
  | .iface _ d => uptoBulk d + 1
  | .map entries => uptoBulkEntries entries + 1
  | .held _ => 1
def uptoBulkAll {H : Type} : List (DataW H) → Nat
  | [] => 0
  | d :: r => uptoBulk d + uptoBulkAll r
def uptoBulkEntries {H : Type} : List (Lit × DataW H) → Nat
  | [] => 0
  | x :: r => uptoBulkEntry x + uptoBulkEntries r
def uptoBulkEntry {H : Type} : Lit × DataW H → Nat
  | (.string bytes, d) => bytes.length + uptoBulk d + 1
  | (_, d) => uptoBulk d + 1
 end
def uptoSmall : (H : Type) → List (DataW H) → Bool := fun _ ds => decide (uptoBulkAll ds ≤ 1048576)
def OpenSpec.upto (s : _root_.Go.ChangeSpec) : _root_.Go.OpenSpec := { _root_.Go.OpenSpec.ofChange s with cond := some uptoSmall }

/-- 'redoubtlaw19.HuntAll', WHERE WHAT IT READS IS OF BULK AT MOST 1048576: true; the input reads as it did. -/
def huntAllUptoRow : OpenClaim := { program := "ytkghckeoplolpaa", sum := "13d4d999781c2c8c3034ec7d7e39b489ecc739e5245fd767af6a86ff705a852c", func := "redoubt/redoubtlaw19.HuntAll", spec := "huntAll", apart := false, narrowed := true }
def HuntAllUptoSaid : Prop := huntAllUptoRow.holds Try.pinned (OpenSpec.upto huntAllSpec)

/-- 'redoubtlaw16.BucketGoes', WHERE WHAT IT READS IS OF BULK AT MOST 1048576: true; the input reads as it did. -/
def bucketGoesUptoRow : OpenClaim := { program := "ytkghckeoplolpaa", sum := "13d4d999781c2c8c3034ec7d7e39b489ecc739e5245fd767af6a86ff705a852c", func := "redoubt/redoubtlaw16.BucketGoes", spec := "bucketGoes", apart := false, narrowed := true }
def BucketGoesUptoSaid : Prop := bucketGoesUptoRow.holds Try.pinned (OpenSpec.upto bucketGoesSpec)

/-- 'redoubtlaw19.HuntTicks', WHERE WHAT IT READS IS OF BULK AT MOST 1048576: true; the input reads as it did. -/
def huntTicksUptoRow : OpenClaim := { program := "ytkghckeoplolpaa", sum := "13d4d999781c2c8c3034ec7d7e39b489ecc739e5245fd767af6a86ff705a852c", func := "redoubt/redoubtlaw19.HuntTicks", spec := "huntTicks", apart := false, narrowed := true }
def HuntTicksUptoSaid : Prop := huntTicksUptoRow.holds Try.pinned (OpenSpec.upto huntTicksSpec)

/-- 'redoubtlaw16.BucketPlays', WHERE WHAT IT READS IS OF BULK AT MOST 1048576: true; the input reads as it did. -/
def bucketPlaysUptoRow : OpenClaim := { program := "ytkghckeoplolpaa", sum := "13d4d999781c2c8c3034ec7d7e39b489ecc739e5245fd767af6a86ff705a852c", func := "redoubt/redoubtlaw16.BucketPlays", spec := "bucketPlays", apart := false, narrowed := true }
def BucketPlaysUptoSaid : Prop := bucketPlaysUptoRow.holds Try.pinned (OpenSpec.upto bucketPlaysSpec)

/-- 'redoubtlaw16.BucketBound', WHERE WHAT IT READS IS OF BULK AT MOST 1048576: true; the input reads as it did. -/
def bucketBoundUptoRow : OpenClaim := { program := "ytkghckeoplolpaa", sum := "13d4d999781c2c8c3034ec7d7e39b489ecc739e5245fd767af6a86ff705a852c", func := "redoubt/redoubtlaw16.BucketBound", spec := "bucketBound", apart := false, narrowed := true }
def BucketBoundUptoSaid : Prop := bucketBoundUptoRow.holds Try.pinned (OpenSpec.upto bucketBoundSpec)

/-- 'redoubtlaw16.BucketNil', WHERE WHAT IT READS IS OF BULK AT MOST 1048576: true; the input reads as it did. -/
def bucketNilUptoRow : OpenClaim := { program := "ytkghckeoplolpaa", sum := "13d4d999781c2c8c3034ec7d7e39b489ecc739e5245fd767af6a86ff705a852c", func := "redoubt/redoubtlaw16.BucketNil", spec := "bucketNil", apart := false, narrowed := true }
def BucketNilUptoSaid : Prop := bucketNilUptoRow.holds Try.pinned (OpenSpec.upto bucketNilSpec)

end Rows
end Go.Proofs.Ytkghckeoplolpaa
