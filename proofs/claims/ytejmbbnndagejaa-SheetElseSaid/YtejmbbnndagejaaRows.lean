/-
  No cell of these rows narrows 'for every input' (looked for: loops, veiled, ifaces, maps, wideKeys, modest, calm, conditions, laid).
  DERIVED. THE GIVEN ROWS OF THIS SEAT. 10 by the template 'for every input the law returns true; each argument reads behind the call as it read before'; 0 by the template 'total and deterministic' (their statements: YtejmbbnndagejaaTotals.lean).
  GIVEN WITH THE SEED: the statements are not yours to turn. If you find one false, say at which input.
  Laid BY PROGRAM, IN A SANDBOX (cutbox-rows.mjs): the forced cells as the released guide's own fill.sh prints them over the translation 39a13b2caeb513b7… (all of the seat's roots in one cut). By AI agents, Wed Nov 11 2026. No macro, syntax, notation, axiom, sorry.
-/
import Derived.Test.YtejmbbnndagejaaChecked
import GoSem.Claim
import GoSem.ClaimJoined
import GoSem.ClaimMapViews
import Derived.JoinedTies
import Derived.KernelRfl
namespace Go.Proofs.Ytejmbbnndagejaa
/- THE CELL 'sum', in the pinned program and in every row, IS THE sha256 OF THE DUMP (.gsa) THAT YtejmbbnndagejaaProg.lean LOADS. Nothing in Lean hashes anything: it is a label: what it is worth is what the hold of that sum in a sandbox is worth. -/
noncomputable def Try.pinned : Pinned := { name := "ytejmbbnndagejaa", sum := "39a13b2caeb513b7f2acadd154bd6501ac05a815ac3a9f5b1cc2e808236cffb9", checked := Try.checked }
namespace Rows
def none {H : Type} : Left H := { results := [], args := [] }

/-- 'redoubtlaw03.ShaSums': WHATEVER THE INPUT: true; the input reads as it did. -/
def shaSumsSpec : ChangeSpec := { name := "shaSums", fn := fun _ => fun
  | [d] => { results := [.lit (.bool true)], args := [d] }
  | _ => none }
def shaSumsRow : OpenClaim := { program := "ytejmbbnndagejaa", sum := "39a13b2caeb513b7f2acadd154bd6501ac05a815ac3a9f5b1cc2e808236cffb9", func := "redoubt/redoubtlaw03.ShaSums", spec := "shaSums", apart := false }
def ShaSumsSaid : Prop := shaSumsRow.holds Try.pinned (OpenSpec.ofChange shaSumsSpec)

/-- ITS FALSE NEIGHBOUR: 'it returns false'. Refute it at one input. -/
def shaSumsWrong : ChangeSpec := { name := "shaSums", fn := fun _ => fun
  | [d] => { results := [.lit (.bool false)], args := [d] }
  | _ => none }
def ShaSumsWrongFalsely : Prop := shaSumsRow.holds Try.pinned (OpenSpec.ofChange shaSumsWrong)

/-- 'redoubtlaw03.ShaParts': WHATEVER THE INPUT: true; the input reads as it did. -/
def shaPartsSpec : ChangeSpec := { name := "shaParts", fn := fun _ => fun
  | [d1, d2, d3] => { results := [.lit (.bool true)], args := [d1, d2, d3] }
  | _ => none }
def shaPartsRow : OpenClaim := { program := "ytejmbbnndagejaa", sum := "39a13b2caeb513b7f2acadd154bd6501ac05a815ac3a9f5b1cc2e808236cffb9", func := "redoubt/redoubtlaw03.ShaParts", spec := "shaParts", apart := false }
def ShaPartsSaid : Prop := shaPartsRow.holds Try.pinned (OpenSpec.ofChange shaPartsSpec)

/-- ITS FALSE NEIGHBOUR: 'it returns false'. Refute it at one input. -/
def shaPartsWrong : ChangeSpec := { name := "shaParts", fn := fun _ => fun
  | [d1, d2, d3] => { results := [.lit (.bool false)], args := [d1, d2, d3] }
  | _ => none }
def ShaPartsWrongFalsely : Prop := shaPartsRow.holds Try.pinned (OpenSpec.ofChange shaPartsWrong)

/-- 'redoubtlaw03.ShaNames': WHATEVER THE INPUT: true; the input reads as it did. -/
def shaNamesSpec : ChangeSpec := { name := "shaNames", fn := fun _ => fun
  | [d1, d2] => { results := [.lit (.bool true)], args := [d1, d2] }
  | _ => none }
def shaNamesRow : OpenClaim := { program := "ytejmbbnndagejaa", sum := "39a13b2caeb513b7f2acadd154bd6501ac05a815ac3a9f5b1cc2e808236cffb9", func := "redoubt/redoubtlaw03.ShaNames", spec := "shaNames", apart := false }
def ShaNamesSaid : Prop := shaNamesRow.holds Try.pinned (OpenSpec.ofChange shaNamesSpec)

/-- ITS FALSE NEIGHBOUR: 'it returns false'. Refute it at one input. -/
def shaNamesWrong : ChangeSpec := { name := "shaNames", fn := fun _ => fun
  | [d1, d2] => { results := [.lit (.bool false)], args := [d1, d2] }
  | _ => none }
def ShaNamesWrongFalsely : Prop := shaNamesRow.holds Try.pinned (OpenSpec.ofChange shaNamesWrong)

/-- 'redoubtlaw03.ShaBack': WHATEVER THE INPUT: true; the input reads as it did. -/
def shaBackSpec : ChangeSpec := { name := "shaBack", fn := fun _ => fun
  | [d1, d2] => { results := [.lit (.bool true)], args := [d1, d2] }
  | _ => none }
def shaBackRow : OpenClaim := { program := "ytejmbbnndagejaa", sum := "39a13b2caeb513b7f2acadd154bd6501ac05a815ac3a9f5b1cc2e808236cffb9", func := "redoubt/redoubtlaw03.ShaBack", spec := "shaBack", apart := false }
def ShaBackSaid : Prop := shaBackRow.holds Try.pinned (OpenSpec.ofChange shaBackSpec)

/-- ITS FALSE NEIGHBOUR: 'it returns false'. Refute it at one input. -/
def shaBackWrong : ChangeSpec := { name := "shaBack", fn := fun _ => fun
  | [d1, d2] => { results := [.lit (.bool false)], args := [d1, d2] }
  | _ => none }
def ShaBackWrongFalsely : Prop := shaBackRow.holds Try.pinned (OpenSpec.ofChange shaBackWrong)

/-- 'redoubtlaw08.SheetMakes': WHATEVER THE INPUT: true; the input reads as it did. -/
def sheetMakesSpec : ChangeSpec := { name := "sheetMakes", fn := fun _ => fun
  | [d] => { results := [.lit (.bool true)], args := [d] }
  | _ => none }
def sheetMakesRow : OpenClaim := { program := "ytejmbbnndagejaa", sum := "39a13b2caeb513b7f2acadd154bd6501ac05a815ac3a9f5b1cc2e808236cffb9", func := "redoubt/redoubtlaw08.SheetMakes", spec := "sheetMakes", inPlace := ["internal/abi.NoEscape", "internal/bytealg.MakeNoZero"], apart := false }
def SheetMakesSaid : Prop := sheetMakesRow.holds Try.pinned (OpenSpec.ofChange sheetMakesSpec)

/-- ITS FALSE NEIGHBOUR: 'it returns false'. Refute it at one input. -/
def sheetMakesWrong : ChangeSpec := { name := "sheetMakes", fn := fun _ => fun
  | [d] => { results := [.lit (.bool false)], args := [d] }
  | _ => none }
def SheetMakesWrongFalsely : Prop := sheetMakesRow.holds Try.pinned (OpenSpec.ofChange sheetMakesWrong)

/-- 'redoubtlaw08.SheetBuilds': WHATEVER THE INPUT: true; the input reads as it did. -/
def sheetBuildsSpec : ChangeSpec := { name := "sheetBuilds", fn := fun _ => fun
  | [d1, d2] => { results := [.lit (.bool true)], args := [d1, d2] }
  | _ => none }
def sheetBuildsRow : OpenClaim := { program := "ytejmbbnndagejaa", sum := "39a13b2caeb513b7f2acadd154bd6501ac05a815ac3a9f5b1cc2e808236cffb9", func := "redoubt/redoubtlaw08.SheetBuilds", spec := "sheetBuilds", inPlace := ["internal/abi.NoEscape", "internal/bytealg.MakeNoZero"], apart := false }
def SheetBuildsSaid : Prop := sheetBuildsRow.holds Try.pinned (OpenSpec.ofChange sheetBuildsSpec)

/-- ITS FALSE NEIGHBOUR: 'it returns false'. Refute it at one input. -/
def sheetBuildsWrong : ChangeSpec := { name := "sheetBuilds", fn := fun _ => fun
  | [d1, d2] => { results := [.lit (.bool false)], args := [d1, d2] }
  | _ => none }
def SheetBuildsWrongFalsely : Prop := sheetBuildsRow.holds Try.pinned (OpenSpec.ofChange sheetBuildsWrong)

/-- 'redoubtlaw08.SheetElse': WHATEVER THE INPUT: true; the input reads as it did. -/
def sheetElseSpec : ChangeSpec := { name := "sheetElse", fn := fun _ => fun
  | [d1, d2, d3] => { results := [.lit (.bool true)], args := [d1, d2, d3] }
  | _ => none }
def sheetElseRow : OpenClaim := { program := "ytejmbbnndagejaa", sum := "39a13b2caeb513b7f2acadd154bd6501ac05a815ac3a9f5b1cc2e808236cffb9", func := "redoubt/redoubtlaw08.SheetElse", spec := "sheetElse", inPlace := ["internal/abi.NoEscape", "internal/bytealg.MakeNoZero"], apart := false }
def SheetElseSaid : Prop := sheetElseRow.holds Try.pinned (OpenSpec.ofChange sheetElseSpec)

/-- ITS FALSE NEIGHBOUR: 'it returns false'. Refute it at one input. -/
def sheetElseWrong : ChangeSpec := { name := "sheetElse", fn := fun _ => fun
  | [d1, d2, d3] => { results := [.lit (.bool false)], args := [d1, d2, d3] }
  | _ => none }
def SheetElseWrongFalsely : Prop := sheetElseRow.holds Try.pinned (OpenSpec.ofChange sheetElseWrong)

/-- 'redoubtlaw08.SheetOne': WHATEVER THE INPUT: true; the input reads as it did. -/
def sheetOneSpec : ChangeSpec := { name := "sheetOne", fn := fun _ => fun
  | [d1, d2] => { results := [.lit (.bool true)], args := [d1, d2] }
  | _ => none }
def sheetOneRow : OpenClaim := { program := "ytejmbbnndagejaa", sum := "39a13b2caeb513b7f2acadd154bd6501ac05a815ac3a9f5b1cc2e808236cffb9", func := "redoubt/redoubtlaw08.SheetOne", spec := "sheetOne", inPlace := ["internal/abi.NoEscape", "internal/bytealg.MakeNoZero"], apart := false }
def SheetOneSaid : Prop := sheetOneRow.holds Try.pinned (OpenSpec.ofChange sheetOneSpec)

/-- ITS FALSE NEIGHBOUR: 'it returns false'. Refute it at one input. -/
def sheetOneWrong : ChangeSpec := { name := "sheetOne", fn := fun _ => fun
  | [d1, d2] => { results := [.lit (.bool false)], args := [d1, d2] }
  | _ => none }
def SheetOneWrongFalsely : Prop := sheetOneRow.holds Try.pinned (OpenSpec.ofChange sheetOneWrong)

/-- 'redoubtlaw08.SheetParses': WHATEVER THE INPUT: true; the input reads as it did. -/
def sheetParsesSpec : ChangeSpec := { name := "sheetParses", fn := fun _ => fun
  | [d1, d2] => { results := [.lit (.bool true)], args := [d1, d2] }
  | _ => none }
def sheetParsesRow : OpenClaim := { program := "ytejmbbnndagejaa", sum := "39a13b2caeb513b7f2acadd154bd6501ac05a815ac3a9f5b1cc2e808236cffb9", func := "redoubt/redoubtlaw08.SheetParses", spec := "sheetParses", inPlace := ["internal/abi.NoEscape", "internal/bytealg.MakeNoZero"], unfollowed := true, recurses := true, apart := false }
def SheetParsesSaid : Prop := sheetParsesRow.holds Try.pinned (OpenSpec.ofChange sheetParsesSpec)

/-- ITS FALSE NEIGHBOUR: 'it returns false'. Refute it at one input. -/
def sheetParsesWrong : ChangeSpec := { name := "sheetParses", fn := fun _ => fun
  | [d1, d2] => { results := [.lit (.bool false)], args := [d1, d2] }
  | _ => none }
def SheetParsesWrongFalsely : Prop := sheetParsesRow.holds Try.pinned (OpenSpec.ofChange sheetParsesWrong)

/-- 'redoubtlaw08.SheetBack': WHATEVER THE INPUT: true; the input reads as it did. -/
def sheetBackSpec : ChangeSpec := { name := "sheetBack", fn := fun _ => fun
  | [d] => { results := [.lit (.bool true)], args := [d] }
  | _ => none }
def sheetBackRow : OpenClaim := { program := "ytejmbbnndagejaa", sum := "39a13b2caeb513b7f2acadd154bd6501ac05a815ac3a9f5b1cc2e808236cffb9", func := "redoubt/redoubtlaw08.SheetBack", spec := "sheetBack", inPlace := ["internal/abi.NoEscape", "internal/bytealg.MakeNoZero"], unfollowed := true, recurses := true, apart := false }
def SheetBackSaid : Prop := sheetBackRow.holds Try.pinned (OpenSpec.ofChange sheetBackSpec)

/-- ITS FALSE NEIGHBOUR: 'it returns false'. Refute it at one input. -/
def sheetBackWrong : ChangeSpec := { name := "sheetBack", fn := fun _ => fun
  | [d] => { results := [.lit (.bool false)], args := [d] }
  | _ => none }
def SheetBackWrongFalsely : Prop := sheetBackRow.holds Try.pinned (OpenSpec.ofChange sheetBackWrong)

/- THE SECOND FORM. 'bulk': how many values and letters a reading holds, each counted each time it is reached (what is shared counts as often as it is met; a slice's spare places count too). A statement '..UptoSaid' is the law's where the arguments, and the package variables that the reading takes, are together of bulk at most 1048576: NARROWER than '..Said'. Prove '..Said' where nothing that the law and all that it calls make is longer than what came in: it says more and counts as full. Else prove '..UptoSaid'. A law counts once. -/
mutual
def uptoBulk {H : Type} : DataW H → Nat
  | .lit (.string bytes) => bytes.length + 1
  | .lit _ => 1
  | .nil => 1
  | .ptr d => uptoBulk d + 1
  | .slice elems spare => uptoBulkAll elems + uptoBulkAll spare + 1
  | .agg parts => uptoBulkAll parts + 1
  | .iface _ d => uptoBulk d + 1
  | .map entries => uptoBulkEntries entries + 1
  | .held _ => 1
def uptoBulkAll {H : Type} : List (DataW H) → Nat
  | [] => 0
  | d :: r => uptoBulk d + uptoBulkAll r
def uptoBulkEntries {H : Type} : List (Lit × DataW H) → Nat
  | [] => 0
  | x :: r => uptoBulkEntry x + uptoBulkEntries r
def uptoBulkEntry {H : Type} : Lit × DataW H → Nat
  | (.string bytes, d) => bytes.length + uptoBulk d + 1
  | (_, d) => uptoBulk d + 1
 end
def uptoSmall : (H : Type) → List (DataW H) → Bool := fun _ ds => decide (uptoBulkAll ds ≤ 1048576)
def OpenSpec.upto (s : _root_.Go.ChangeSpec) : _root_.Go.OpenSpec := { _root_.Go.OpenSpec.ofChange s with cond := some uptoSmall }

/-- 'redoubtlaw03.ShaSums', WHERE WHAT IT READS IS OF BULK AT MOST 1048576: true; the input reads as it did. -/
def shaSumsUptoRow : OpenClaim := { program := "ytejmbbnndagejaa", sum := "39a13b2caeb513b7f2acadd154bd6501ac05a815ac3a9f5b1cc2e808236cffb9", func := "redoubt/redoubtlaw03.ShaSums", spec := "shaSums", apart := false, narrowed := true }
def ShaSumsUptoSaid : Prop := shaSumsUptoRow.holds Try.pinned (OpenSpec.upto shaSumsSpec)

/-- 'redoubtlaw03.ShaParts', WHERE WHAT IT READS IS OF BULK AT MOST 1048576: true; the input reads as it did. -/
def shaPartsUptoRow : OpenClaim := { program := "ytejmbbnndagejaa", sum := "39a13b2caeb513b7f2acadd154bd6501ac05a815ac3a9f5b1cc2e808236cffb9", func := "redoubt/redoubtlaw03.ShaParts", spec := "shaParts", apart := false, narrowed := true }
def ShaPartsUptoSaid : Prop := shaPartsUptoRow.holds Try.pinned (OpenSpec.upto shaPartsSpec)

/-- 'redoubtlaw03.ShaNames', WHERE WHAT IT READS IS OF BULK AT MOST 1048576: true; the input reads as it did. -/
def shaNamesUptoRow : OpenClaim := { program := "ytejmbbnndagejaa", sum := "39a13b2caeb513b7f2acadd154bd6501ac05a815ac3a9f5b1cc2e808236cffb9", func := "redoubt/redoubtlaw03.ShaNames", spec := "shaNames", apart := false, narrowed := true }
def ShaNamesUptoSaid : Prop := shaNamesUptoRow.holds Try.pinned (OpenSpec.upto shaNamesSpec)

/-- 'redoubtlaw03.ShaBack', WHERE WHAT IT READS IS OF BULK AT MOST 1048576: true; the input reads as it did. -/
def shaBackUptoRow : OpenClaim := { program := "ytejmbbnndagejaa", sum := "39a13b2caeb513b7f2acadd154bd6501ac05a815ac3a9f5b1cc2e808236cffb9", func := "redoubt/redoubtlaw03.ShaBack", spec := "shaBack", apart := false, narrowed := true }
def ShaBackUptoSaid : Prop := shaBackUptoRow.holds Try.pinned (OpenSpec.upto shaBackSpec)

/-- 'redoubtlaw08.SheetMakes', WHERE WHAT IT READS IS OF BULK AT MOST 1048576: true; the input reads as it did. -/
def sheetMakesUptoRow : OpenClaim := { program := "ytejmbbnndagejaa", sum := "39a13b2caeb513b7f2acadd154bd6501ac05a815ac3a9f5b1cc2e808236cffb9", func := "redoubt/redoubtlaw08.SheetMakes", spec := "sheetMakes", inPlace := ["internal/abi.NoEscape", "internal/bytealg.MakeNoZero"], apart := false, narrowed := true }
def SheetMakesUptoSaid : Prop := sheetMakesUptoRow.holds Try.pinned (OpenSpec.upto sheetMakesSpec)

/-- 'redoubtlaw08.SheetBuilds', WHERE WHAT IT READS IS OF BULK AT MOST 1048576: true; the input reads as it did. -/
def sheetBuildsUptoRow : OpenClaim := { program := "ytejmbbnndagejaa", sum := "39a13b2caeb513b7f2acadd154bd6501ac05a815ac3a9f5b1cc2e808236cffb9", func := "redoubt/redoubtlaw08.SheetBuilds", spec := "sheetBuilds", inPlace := ["internal/abi.NoEscape", "internal/bytealg.MakeNoZero"], apart := false, narrowed := true }
def SheetBuildsUptoSaid : Prop := sheetBuildsUptoRow.holds Try.pinned (OpenSpec.upto sheetBuildsSpec)

/-- 'redoubtlaw08.SheetElse', WHERE WHAT IT READS IS OF BULK AT MOST 1048576: true; the input reads as it did. -/
def sheetElseUptoRow : OpenClaim := { program := "ytejmbbnndagejaa", sum := "39a13b2caeb513b7f2acadd154bd6501ac05a815ac3a9f5b1cc2e808236cffb9", func := "redoubt/redoubtlaw08.SheetElse", spec := "sheetElse", inPlace := ["internal/abi.NoEscape", "internal/bytealg.MakeNoZero"], apart := false, narrowed := true }
def SheetElseUptoSaid : Prop := sheetElseUptoRow.holds Try.pinned (OpenSpec.upto sheetElseSpec)

/-- 'redoubtlaw08.SheetOne', WHERE WHAT IT READS IS OF BULK AT MOST 1048576: true; the input reads as it did. -/
def sheetOneUptoRow : OpenClaim := { program := "ytejmbbnndagejaa", sum := "39a13b2caeb513b7f2acadd154bd6501ac05a815ac3a9f5b1cc2e808236cffb9", func := "redoubt/redoubtlaw08.SheetOne", spec := "sheetOne", inPlace := ["internal/abi.NoEscape", "internal/bytealg.MakeNoZero"], apart := false, narrowed := true }
def SheetOneUptoSaid : Prop := sheetOneUptoRow.holds Try.pinned (OpenSpec.upto sheetOneSpec)

/-- 'redoubtlaw08.SheetParses', WHERE WHAT IT READS IS OF BULK AT MOST 1048576: true; the input reads as it did. -/
def sheetParsesUptoRow : OpenClaim := { program := "ytejmbbnndagejaa", sum := "39a13b2caeb513b7f2acadd154bd6501ac05a815ac3a9f5b1cc2e808236cffb9", func := "redoubt/redoubtlaw08.SheetParses", spec := "sheetParses", inPlace := ["internal/abi.NoEscape", "internal/bytealg.MakeNoZero"], unfollowed := true, recurses := true, apart := false, narrowed := true }
def SheetParsesUptoSaid : Prop := sheetParsesUptoRow.holds Try.pinned (OpenSpec.upto sheetParsesSpec)

/-- 'redoubtlaw08.SheetBack', WHERE WHAT IT READS IS OF BULK AT MOST 1048576: true; the input reads as it did. -/
def sheetBackUptoRow : OpenClaim := { program := "ytejmbbnndagejaa", sum := "39a13b2caeb513b7f2acadd154bd6501ac05a815ac3a9f5b1cc2e808236cffb9", func := "redoubt/redoubtlaw08.SheetBack", spec := "sheetBack", inPlace := ["internal/abi.NoEscape", "internal/bytealg.MakeNoZero"], unfollowed := true, recurses := true, apart := false, narrowed := true }
def SheetBackUptoSaid : Prop := sheetBackUptoRow.holds Try.pinned (OpenSpec.upto sheetBackSpec)

end Rows
end Go.Proofs.Ytejmbbnndagejaa
