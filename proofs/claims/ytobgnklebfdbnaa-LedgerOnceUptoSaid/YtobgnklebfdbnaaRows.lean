/-
  No cell of these rows narrows 'for every input' (looked for: loops, veiled, ifaces, maps, wideKeys, modest, calm, conditions, laid).
  DERIVED. THE GIVEN ROWS OF THIS SEAT. 8 by the template 'for every input the law returns true; each argument reads behind the call as it read before'; 0 by the template 'total and deterministic' (their statements: YtobgnklebfdbnaaTotals.lean).
  GIVEN WITH THE SEED: the statements are not yours to turn. If you find one false, say at which input.
  Laid BY PROGRAM, IN A SANDBOX (cutbox-rows.mjs): the forced cells as the released guide's own fill.sh prints them over the translation 0f27cc0742770a71… (all of the seat's roots in one cut). By AI agents, Wed Nov 11 2026. No macro, syntax, notation, axiom, sorry.
-/
import Derived.Test.YtobgnklebfdbnaaChecked
import GoSem.Claim
import GoSem.ClaimJoined
import GoSem.ClaimMapViews
import Derived.JoinedTies
import Derived.KernelRfl
namespace Go.Proofs.Ytobgnklebfdbnaa
/- THE CELL 'sum', in the pinned program and in every row, IS THE sha256 OF THE DUMP (.gsa) THAT YtobgnklebfdbnaaProg.lean LOADS. Nothing in Lean hashes anything: it is a label: what it is worth is what the hold of that sum in a sandbox is worth. -/
noncomputable def Try.pinned : Pinned := { name := "ytobgnklebfdbnaa", sum := "0f27cc0742770a7186100700805edd86f8690f4dd3c1ac0f541a49e76eafd1b3", checked := Try.checked }
namespace Rows
def none {H : Type} : Left H := { results := [], args := [] }

/-- 'redoubtlaw12.LedgerRow': WHATEVER THE INPUT: true; the input reads as it did. -/
def ledgerRowSpec : ChangeSpec := { name := "ledgerRow", fn := fun _ => fun
  | [d1, d2, d3] => { results := [.lit (.bool true)], args := [d1, d2, d3] }
  | _ => none }
def ledgerRowRow : OpenClaim := { program := "ytobgnklebfdbnaa", sum := "0f27cc0742770a7186100700805edd86f8690f4dd3c1ac0f541a49e76eafd1b3", func := "redoubt/redoubtlaw12.LedgerRow", spec := "ledgerRow", unfollowed := true, recurses := true, plainKeys := false, apart := false }
def LedgerRowSaid : Prop := ledgerRowRow.holds Try.pinned (OpenSpec.ofChange ledgerRowSpec)

/-- ITS FALSE NEIGHBOUR: 'it returns false'. Refute it at one input. -/
def ledgerRowWrong : ChangeSpec := { name := "ledgerRow", fn := fun _ => fun
  | [d1, d2, d3] => { results := [.lit (.bool false)], args := [d1, d2, d3] }
  | _ => none }
def LedgerRowWrongFalsely : Prop := ledgerRowRow.holds Try.pinned (OpenSpec.ofChange ledgerRowWrong)

/-- 'redoubtlaw12.LedgerMatch': WHATEVER THE INPUT: true; the input reads as it did. -/
def ledgerMatchSpec : ChangeSpec := { name := "ledgerMatch", fn := fun _ => fun
  | [d] => { results := [.lit (.bool true)], args := [d] }
  | _ => none }
def ledgerMatchRow : OpenClaim := { program := "ytobgnklebfdbnaa", sum := "0f27cc0742770a7186100700805edd86f8690f4dd3c1ac0f541a49e76eafd1b3", func := "redoubt/redoubtlaw12.LedgerMatch", spec := "ledgerMatch", unfollowed := true, recurses := true, plainKeys := false, apart := false }
def LedgerMatchSaid : Prop := ledgerMatchRow.holds Try.pinned (OpenSpec.ofChange ledgerMatchSpec)

/-- ITS FALSE NEIGHBOUR: 'it returns false'. Refute it at one input. -/
def ledgerMatchWrong : ChangeSpec := { name := "ledgerMatch", fn := fun _ => fun
  | [d] => { results := [.lit (.bool false)], args := [d] }
  | _ => none }
def LedgerMatchWrongFalsely : Prop := ledgerMatchRow.holds Try.pinned (OpenSpec.ofChange ledgerMatchWrong)

/-- 'redoubtlaw26.ModelOrder': WHATEVER THE INPUT: true; the input reads as it did. -/
def modelOrderSpec : ChangeSpec := { name := "modelOrder", fn := fun _ => fun
  | [d] => { results := [.lit (.bool true)], args := [d] }
  | _ => none }
def modelOrderRow : OpenClaim := { program := "ytobgnklebfdbnaa", sum := "0f27cc0742770a7186100700805edd86f8690f4dd3c1ac0f541a49e76eafd1b3", func := "redoubt/redoubtlaw26.ModelOrder", spec := "modelOrder", unfollowed := true, recurses := true, plainKeys := false, apart := false }
def ModelOrderSaid : Prop := modelOrderRow.holds Try.pinned (OpenSpec.ofChange modelOrderSpec)

/-- ITS FALSE NEIGHBOUR: 'it returns false'. Refute it at one input. -/
def modelOrderWrong : ChangeSpec := { name := "modelOrder", fn := fun _ => fun
  | [d] => { results := [.lit (.bool false)], args := [d] }
  | _ => none }
def ModelOrderWrongFalsely : Prop := modelOrderRow.holds Try.pinned (OpenSpec.ofChange modelOrderWrong)

/-- 'redoubtlaw26.ModelPlays': WHATEVER THE INPUT: true; the input reads as it did. -/
def modelPlaysSpec : ChangeSpec := { name := "modelPlays", fn := fun _ => fun
  | [d] => { results := [.lit (.bool true)], args := [d] }
  | _ => none }
def modelPlaysRow : OpenClaim := { program := "ytobgnklebfdbnaa", sum := "0f27cc0742770a7186100700805edd86f8690f4dd3c1ac0f541a49e76eafd1b3", func := "redoubt/redoubtlaw26.ModelPlays", spec := "modelPlays", inPlace := ["maps.clone"], unfollowed := true, recurses := true, plainKeys := false, apart := false }
def ModelPlaysSaid : Prop := modelPlaysRow.holds Try.pinned (OpenSpec.ofChange modelPlaysSpec)

/-- ITS FALSE NEIGHBOUR: 'it returns false'. Refute it at one input. -/
def modelPlaysWrong : ChangeSpec := { name := "modelPlays", fn := fun _ => fun
  | [d] => { results := [.lit (.bool false)], args := [d] }
  | _ => none }
def ModelPlaysWrongFalsely : Prop := modelPlaysRow.holds Try.pinned (OpenSpec.ofChange modelPlaysWrong)

/-- 'redoubtlaw26.ModelNil': WHATEVER THE INPUT: true; the input reads as it did. -/
def modelNilSpec : ChangeSpec := { name := "modelNil", fn := fun _ => fun
  | [d] => { results := [.lit (.bool true)], args := [d] }
  | _ => none }
def modelNilRow : OpenClaim := { program := "ytobgnklebfdbnaa", sum := "0f27cc0742770a7186100700805edd86f8690f4dd3c1ac0f541a49e76eafd1b3", func := "redoubt/redoubtlaw26.ModelNil", spec := "modelNil", inPlace := ["maps.clone"], unfollowed := true, recurses := true, plainKeys := false, apart := false }
def ModelNilSaid : Prop := modelNilRow.holds Try.pinned (OpenSpec.ofChange modelNilSpec)

/-- ITS FALSE NEIGHBOUR: 'it returns false'. Refute it at one input. -/
def modelNilWrong : ChangeSpec := { name := "modelNil", fn := fun _ => fun
  | [d] => { results := [.lit (.bool false)], args := [d] }
  | _ => none }
def ModelNilWrongFalsely : Prop := modelNilRow.holds Try.pinned (OpenSpec.ofChange modelNilWrong)

/-- 'redoubtlaw12.LedgerOnce': WHATEVER THE INPUT: true; the input reads as it did. -/
def ledgerOnceSpec : ChangeSpec := { name := "ledgerOnce", fn := fun _ => fun
  | [d1, d2, d3, d4] => { results := [.lit (.bool true)], args := [d1, d2, d3, d4] }
  | _ => none }
def ledgerOnceRow : OpenClaim := { program := "ytobgnklebfdbnaa", sum := "0f27cc0742770a7186100700805edd86f8690f4dd3c1ac0f541a49e76eafd1b3", func := "redoubt/redoubtlaw12.LedgerOnce", spec := "ledgerOnce", inPlace := ["internal/abi.NoEscape"], unfollowed := true, recurses := true, plainKeys := false, apart := false }
def LedgerOnceSaid : Prop := ledgerOnceRow.holds Try.pinned (OpenSpec.ofChange ledgerOnceSpec)

/-- ITS FALSE NEIGHBOUR: 'it returns false'. Refute it at one input. -/
def ledgerOnceWrong : ChangeSpec := { name := "ledgerOnce", fn := fun _ => fun
  | [d1, d2, d3, d4] => { results := [.lit (.bool false)], args := [d1, d2, d3, d4] }
  | _ => none }
def LedgerOnceWrongFalsely : Prop := ledgerOnceRow.holds Try.pinned (OpenSpec.ofChange ledgerOnceWrong)

/-- 'redoubtlaw26.ModelLedger': WHATEVER THE INPUT: true; the input reads as it did. -/
def modelLedgerSpec : ChangeSpec := { name := "modelLedger", fn := fun _ => fun
  | [d] => { results := [.lit (.bool true)], args := [d] }
  | _ => none }
def modelLedgerRow : OpenClaim := { program := "ytobgnklebfdbnaa", sum := "0f27cc0742770a7186100700805edd86f8690f4dd3c1ac0f541a49e76eafd1b3", func := "redoubt/redoubtlaw26.ModelLedger", spec := "modelLedger", unfollowed := true, recurses := true, plainKeys := false, apart := false }
def ModelLedgerSaid : Prop := modelLedgerRow.holds Try.pinned (OpenSpec.ofChange modelLedgerSpec)

/-- ITS FALSE NEIGHBOUR: 'it returns false'. Refute it at one input. -/
def modelLedgerWrong : ChangeSpec := { name := "modelLedger", fn := fun _ => fun
  | [d] => { results := [.lit (.bool false)], args := [d] }
  | _ => none }
def ModelLedgerWrongFalsely : Prop := modelLedgerRow.holds Try.pinned (OpenSpec.ofChange modelLedgerWrong)

/-- 'redoubtlaw12.LedgerNil': WHATEVER THE INPUT: true; the input reads as it did. -/
def ledgerNilSpec : ChangeSpec := { name := "ledgerNil", fn := fun _ => fun
  | [d1, d2] => { results := [.lit (.bool true)], args := [d1, d2] }
  | _ => none }
def ledgerNilRow : OpenClaim := { program := "ytobgnklebfdbnaa", sum := "0f27cc0742770a7186100700805edd86f8690f4dd3c1ac0f541a49e76eafd1b3", func := "redoubt/redoubtlaw12.LedgerNil", spec := "ledgerNil", inPlace := ["internal/abi.NoEscape"], unfollowed := true, recurses := true, plainKeys := false, apart := false }
def LedgerNilSaid : Prop := ledgerNilRow.holds Try.pinned (OpenSpec.ofChange ledgerNilSpec)

/-- ITS FALSE NEIGHBOUR: 'it returns false'. Refute it at one input. -/
def ledgerNilWrong : ChangeSpec := { name := "ledgerNil", fn := fun _ => fun
  | [d1, d2] => { results := [.lit (.bool false)], args := [d1, d2] }
  | _ => none }
def LedgerNilWrongFalsely : Prop := ledgerNilRow.holds Try.pinned (OpenSpec.ofChange ledgerNilWrong)

/- THE SECOND FORM. 'bulk': how many values and letters a reading holds, each counted each time it is reached (what is shared counts as often as it is met; a slice's spare places count too). A statement '..UptoSaid' is the law's where the arguments, and the package variables that the reading takes, are together of bulk at most 1048576: NARROWER than '..Said'. Prove '..Said' where nothing that the law and all that it calls make is longer than what came in: it says more and counts as full. Else prove '..UptoSaid'. A law counts once. -/
mutual
def uptoBulk {H : Type} : DataW H → Nat
  | .lit (.string bytes) => bytes.length + 1
  | .lit _ => 1
  | .nil => 1
  | .ptr d => uptoBulk d + 1
  | .slice elems spare => uptoBulkAll elems + uptoBulkAll spare + 1
  | .agg parts => uptoBulkAll parts + 1
  | .iface _ d => uptoBulk d + 1
  | .map entries => uptoBulkEntries entries + 1
  | .held _ => 1
def uptoBulkAll {H : Type} : List (DataW H) → Nat
  | [] => 0
  | d :: r => uptoBulk d + uptoBulkAll r
def uptoBulkEntries {H : Type} : List (Lit × DataW H) → Nat
  | [] => 0
  | x :: r => uptoBulkEntry x + uptoBulkEntries r
def uptoBulkEntry {H : Type} : Lit × DataW H → Nat
  | (.string bytes, d) => bytes.length + uptoBulk d + 1
  | (_, d) => uptoBulk d + 1
 end
def uptoSmall : (H : Type) → List (DataW H) → Bool := fun _ ds => decide (uptoBulkAll ds ≤ 1048576)
def OpenSpec.upto (s : _root_.Go.ChangeSpec) : _root_.Go.OpenSpec := { _root_.Go.OpenSpec.ofChange s with cond := some uptoSmall }

/-- 'redoubtlaw12.LedgerRow', WHERE WHAT IT READS IS OF BULK AT MOST 1048576: true; the input reads as it did. -/
def ledgerRowUptoRow : OpenClaim := { program := "ytobgnklebfdbnaa", sum := "0f27cc0742770a7186100700805edd86f8690f4dd3c1ac0f541a49e76eafd1b3", func := "redoubt/redoubtlaw12.LedgerRow", spec := "ledgerRow", unfollowed := true, recurses := true, plainKeys := false, apart := false, narrowed := true }
def LedgerRowUptoSaid : Prop := ledgerRowUptoRow.holds Try.pinned (OpenSpec.upto ledgerRowSpec)

/-- 'redoubtlaw12.LedgerMatch', WHERE WHAT IT READS IS OF BULK AT MOST 1048576: true; the input reads as it did. -/
def ledgerMatchUptoRow : OpenClaim := { program := "ytobgnklebfdbnaa", sum := "0f27cc0742770a7186100700805edd86f8690f4dd3c1ac0f541a49e76eafd1b3", func := "redoubt/redoubtlaw12.LedgerMatch", spec := "ledgerMatch", unfollowed := true, recurses := true, plainKeys := false, apart := false, narrowed := true }
def LedgerMatchUptoSaid : Prop := ledgerMatchUptoRow.holds Try.pinned (OpenSpec.upto ledgerMatchSpec)

/-- 'redoubtlaw26.ModelOrder', WHERE WHAT IT READS IS OF BULK AT MOST 1048576: true; the input reads as it did. -/
def modelOrderUptoRow : OpenClaim := { program := "ytobgnklebfdbnaa", sum := "0f27cc0742770a7186100700805edd86f8690f4dd3c1ac0f541a49e76eafd1b3", func := "redoubt/redoubtlaw26.ModelOrder", spec := "modelOrder", unfollowed := true, recurses := true, plainKeys := false, apart := false, narrowed := true }
def ModelOrderUptoSaid : Prop := modelOrderUptoRow.holds Try.pinned (OpenSpec.upto modelOrderSpec)

/-- 'redoubtlaw26.ModelPlays', WHERE WHAT IT READS IS OF BULK AT MOST 1048576: true; the input reads as it did. -/
def modelPlaysUptoRow : OpenClaim := { program := "ytobgnklebfdbnaa", sum := "0f27cc0742770a7186100700805edd86f8690f4dd3c1ac0f541a49e76eafd1b3", func := "redoubt/redoubtlaw26.ModelPlays", spec := "modelPlays", inPlace := ["maps.clone"], unfollowed := true, recurses := true, plainKeys := false, apart := false, narrowed := true }
def ModelPlaysUptoSaid : Prop := modelPlaysUptoRow.holds Try.pinned (OpenSpec.upto modelPlaysSpec)

/-- 'redoubtlaw26.ModelNil', WHERE WHAT IT READS IS OF BULK AT MOST 1048576: true; the input reads as it did. -/
def modelNilUptoRow : OpenClaim := { program := "ytobgnklebfdbnaa", sum := "0f27cc0742770a7186100700805edd86f8690f4dd3c1ac0f541a49e76eafd1b3", func := "redoubt/redoubtlaw26.ModelNil", spec := "modelNil", inPlace := ["maps.clone"], unfollowed := true, recurses := true, plainKeys := false, apart := false, narrowed := true }
def ModelNilUptoSaid : Prop := modelNilUptoRow.holds Try.pinned (OpenSpec.upto modelNilSpec)

/-- 'redoubtlaw12.LedgerOnce', WHERE WHAT IT READS IS OF BULK AT MOST 1048576: true; the input reads as it did. -/
def ledgerOnceUptoRow : OpenClaim := { program := "ytobgnklebfdbnaa", sum := "0f27cc0742770a7186100700805edd86f8690f4dd3c1ac0f541a49e76eafd1b3", func := "redoubt/redoubtlaw12.LedgerOnce", spec := "ledgerOnce", inPlace := ["internal/abi.NoEscape"], unfollowed := true, recurses := true, plainKeys := false, apart := false, narrowed := true }
def LedgerOnceUptoSaid : Prop := ledgerOnceUptoRow.holds Try.pinned (OpenSpec.upto ledgerOnceSpec)

/-- 'redoubtlaw26.ModelLedger', WHERE WHAT IT READS IS OF BULK AT MOST 1048576: true; the input reads as it did. -/
def modelLedgerUptoRow : OpenClaim := { program := "ytobgnklebfdbnaa", sum := "0f27cc0742770a7186100700805edd86f8690f4dd3c1ac0f541a49e76eafd1b3", func := "redoubt/redoubtlaw26.ModelLedger", spec := "modelLedger", unfollowed := true, recurses := true, plainKeys := false, apart := false, narrowed := true }
def ModelLedgerUptoSaid : Prop := modelLedgerUptoRow.holds Try.pinned (OpenSpec.upto modelLedgerSpec)

/-- 'redoubtlaw12.LedgerNil', WHERE WHAT IT READS IS OF BULK AT MOST 1048576: true; the input reads as it did. -/
def ledgerNilUptoRow : OpenClaim := { program := "ytobgnklebfdbnaa", sum := "0f27cc0742770a7186100700805edd86f8690f4dd3c1ac0f541a49e76eafd1b3", func := "redoubt/redoubtlaw12.LedgerNil", spec := "ledgerNil", inPlace := ["internal/abi.NoEscape"], unfollowed := true, recurses := true, plainKeys := false, apart := false, narrowed := true }
def LedgerNilUptoSaid : Prop := ledgerNilUptoRow.holds Try.pinned (OpenSpec.upto ledgerNilSpec)

end Rows
end Go.Proofs.Ytobgnklebfdbnaa
