/-
  No cell of these rows narrows 'for every input' (looked for: loops, veiled, ifaces, maps, wideKeys, modest, calm, conditions, laid).
  DERIVED. THE GIVEN ROWS OF THIS SEAT. 8 by the template 'for every input the law returns true; each argument reads behind the call as it read before'; 0 by the template 'total and deterministic' (their statements: YtkigojlfbjagoaaTotals.lean).
  GIVEN WITH THE SEED: the statements are not yours to turn. If you find one false, say at which input.
  Laid BY PROGRAM, IN A SANDBOX (cutbox-rows.mjs): the forced cells as the released guide's own fill.sh prints them over the translation 25e423bcb5937a76… (all of the seat's roots in one cut). By AI agents, Wed Nov 11 2026. No macro, syntax, notation, axiom, sorry.
-/
import Derived.Test.YtkigojlfbjagoaaChecked
import GoSem.Claim
import GoSem.ClaimJoined
import GoSem.ClaimMapViews
import Derived.JoinedTies
import Derived.KernelRfl
namespace Go.Proofs.Ytkigojlfbjagoaa
/- THE CELL 'sum', in the pinned program and in every row, IS THE sha256 OF THE DUMP (.gsa) THAT YtkigojlfbjagoaaProg.lean LOADS. Nothing in Lean hashes anything: it is a label: what it is worth is what the hold of that sum in a sandbox is worth. -/
noncomputable def Try.pinned : Pinned := { name := "ytkigojlfbjagoaa", sum := "25e423bcb5937a76e1b44855d4dd939baa596878c625d7a9ac25477d57a4cce6", checked := Try.checked }
namespace Rows
def none {H : Type} : Left H := { results := [], args := [] }

/-- 'redoubtlaw03.ShaSums': WHATEVER THE INPUT: true; the input reads as it did. -/
def shaSumsSpec : ChangeSpec := { name := "shaSums", fn := fun _ => fun
  | [d] => { results := [.lit (.bool true)], args := [d] }
  | _ => none }
def shaSumsRow : OpenClaim := { program := "ytkigojlfbjagoaa", sum := "25e423bcb5937a76e1b44855d4dd939baa596878c625d7a9ac25477d57a4cce6", func := "redoubt/redoubtlaw03.ShaSums", spec := "shaSums", apart := false }
def ShaSumsSaid : Prop := shaSumsRow.holds Try.pinned (OpenSpec.ofChange shaSumsSpec)

/-- ITS FALSE NEIGHBOUR: 'it returns false'. Refute it at one input. -/
def shaSumsWrong : ChangeSpec := { name := "shaSums", fn := fun _ => fun
  | [d] => { results := [.lit (.bool false)], args := [d] }
  | _ => none }
def ShaSumsWrongFalsely : Prop := shaSumsRow.holds Try.pinned (OpenSpec.ofChange shaSumsWrong)

/-- 'redoubtlaw03.ShaParts': WHATEVER THE INPUT: true; the input reads as it did. -/
def shaPartsSpec : ChangeSpec := { name := "shaParts", fn := fun _ => fun
  | [d1, d2, d3] => { results := [.lit (.bool true)], args := [d1, d2, d3] }
  | _ => none }
def shaPartsRow : OpenClaim := { program := "ytkigojlfbjagoaa", sum := "25e423bcb5937a76e1b44855d4dd939baa596878c625d7a9ac25477d57a4cce6", func := "redoubt/redoubtlaw03.ShaParts", spec := "shaParts", apart := false }
def ShaPartsSaid : Prop := shaPartsRow.holds Try.pinned (OpenSpec.ofChange shaPartsSpec)

/-- ITS FALSE NEIGHBOUR: 'it returns false'. Refute it at one input. -/
def shaPartsWrong : ChangeSpec := { name := "shaParts", fn := fun _ => fun
  | [d1, d2, d3] => { results := [.lit (.bool false)], args := [d1, d2, d3] }
  | _ => none }
def ShaPartsWrongFalsely : Prop := shaPartsRow.holds Try.pinned (OpenSpec.ofChange shaPartsWrong)

/-- 'redoubtlaw07.CarveCuts': WHATEVER THE INPUT: true; the input reads as it did. -/
def carveCutsSpec : ChangeSpec := { name := "carveCuts", fn := fun _ => fun
  | [d1, d2] => { results := [.lit (.bool true)], args := [d1, d2] }
  | _ => none }
def carveCutsRow : OpenClaim := { program := "ytkigojlfbjagoaa", sum := "25e423bcb5937a76e1b44855d4dd939baa596878c625d7a9ac25477d57a4cce6", func := "redoubt/redoubtlaw07.CarveCuts", spec := "carveCuts", inPlace := ["internal/abi.NoEscape", "internal/bytealg.MakeNoZero"], apart := false }
def CarveCutsSaid : Prop := carveCutsRow.holds Try.pinned (OpenSpec.ofChange carveCutsSpec)

/-- ITS FALSE NEIGHBOUR: 'it returns false'. Refute it at one input. -/
def carveCutsWrong : ChangeSpec := { name := "carveCuts", fn := fun _ => fun
  | [d1, d2] => { results := [.lit (.bool false)], args := [d1, d2] }
  | _ => none }
def CarveCutsWrongFalsely : Prop := carveCutsRow.holds Try.pinned (OpenSpec.ofChange carveCutsWrong)

/-- 'redoubtlaw07.CarveJoins': WHATEVER THE INPUT: true; the input reads as it did. -/
def carveJoinsSpec : ChangeSpec := { name := "carveJoins", fn := fun _ => fun
  | [d] => { results := [.lit (.bool true)], args := [d] }
  | _ => none }
def carveJoinsRow : OpenClaim := { program := "ytkigojlfbjagoaa", sum := "25e423bcb5937a76e1b44855d4dd939baa596878c625d7a9ac25477d57a4cce6", func := "redoubt/redoubtlaw07.CarveJoins", spec := "carveJoins", inPlace := ["internal/abi.NoEscape", "internal/bytealg.MakeNoZero"], apart := false }
def CarveJoinsSaid : Prop := carveJoinsRow.holds Try.pinned (OpenSpec.ofChange carveJoinsSpec)

/-- ITS FALSE NEIGHBOUR: 'it returns false'. Refute it at one input. -/
def carveJoinsWrong : ChangeSpec := { name := "carveJoins", fn := fun _ => fun
  | [d] => { results := [.lit (.bool false)], args := [d] }
  | _ => none }
def CarveJoinsWrongFalsely : Prop := carveJoinsRow.holds Try.pinned (OpenSpec.ofChange carveJoinsWrong)

/-- 'redoubtlaw07.CarveBack': WHATEVER THE INPUT: true; the input reads as it did. -/
def carveBackSpec : ChangeSpec := { name := "carveBack", fn := fun _ => fun
  | [d] => { results := [.lit (.bool true)], args := [d] }
  | _ => none }
def carveBackRow : OpenClaim := { program := "ytkigojlfbjagoaa", sum := "25e423bcb5937a76e1b44855d4dd939baa596878c625d7a9ac25477d57a4cce6", func := "redoubt/redoubtlaw07.CarveBack", spec := "carveBack", inPlace := ["internal/abi.NoEscape", "internal/bytealg.MakeNoZero"], apart := false }
def CarveBackSaid : Prop := carveBackRow.holds Try.pinned (OpenSpec.ofChange carveBackSpec)

/-- ITS FALSE NEIGHBOUR: 'it returns false'. Refute it at one input. -/
def carveBackWrong : ChangeSpec := { name := "carveBack", fn := fun _ => fun
  | [d] => { results := [.lit (.bool false)], args := [d] }
  | _ => none }
def CarveBackWrongFalsely : Prop := carveBackRow.holds Try.pinned (OpenSpec.ofChange carveBackWrong)

/-- 'redoubtlaw07.CarveHeads': WHATEVER THE INPUT: true; the input reads as it did. -/
def carveHeadsSpec : ChangeSpec := { name := "carveHeads", fn := fun _ => fun
  | [d1, d2, d3] => { results := [.lit (.bool true)], args := [d1, d2, d3] }
  | _ => none }
def carveHeadsRow : OpenClaim := { program := "ytkigojlfbjagoaa", sum := "25e423bcb5937a76e1b44855d4dd939baa596878c625d7a9ac25477d57a4cce6", func := "redoubt/redoubtlaw07.CarveHeads", spec := "carveHeads", inPlace := ["internal/abi.NoEscape", "internal/bytealg.MakeNoZero"], apart := false }
def CarveHeadsSaid : Prop := carveHeadsRow.holds Try.pinned (OpenSpec.ofChange carveHeadsSpec)

/-- ITS FALSE NEIGHBOUR: 'it returns false'. Refute it at one input. -/
def carveHeadsWrong : ChangeSpec := { name := "carveHeads", fn := fun _ => fun
  | [d1, d2, d3] => { results := [.lit (.bool false)], args := [d1, d2, d3] }
  | _ => none }
def CarveHeadsWrongFalsely : Prop := carveHeadsRow.holds Try.pinned (OpenSpec.ofChange carveHeadsWrong)

/-- 'redoubtlaw03.ShaNames': WHATEVER THE INPUT: true; the input reads as it did. -/
def shaNamesSpec : ChangeSpec := { name := "shaNames", fn := fun _ => fun
  | [d1, d2] => { results := [.lit (.bool true)], args := [d1, d2] }
  | _ => none }
def shaNamesRow : OpenClaim := { program := "ytkigojlfbjagoaa", sum := "25e423bcb5937a76e1b44855d4dd939baa596878c625d7a9ac25477d57a4cce6", func := "redoubt/redoubtlaw03.ShaNames", spec := "shaNames", apart := false }
def ShaNamesSaid : Prop := shaNamesRow.holds Try.pinned (OpenSpec.ofChange shaNamesSpec)

/-- ITS FALSE NEIGHBOUR: 'it returns false'. Refute it at one input. -/
def shaNamesWrong : ChangeSpec := { name := "shaNames", fn := fun _ => fun
  | [d1, d2] => { results := [.lit (.bool false)], args := [d1, d2] }
  | _ => none }
def ShaNamesWrongFalsely : Prop := shaNamesRow.holds Try.pinned (OpenSpec.ofChange shaNamesWrong)

/-- 'redoubtlaw03.ShaBack': WHATEVER THE INPUT: true; the input reads as it did. -/
def shaBackSpec : ChangeSpec := { name := "shaBack", fn := fun _ => fun
  | [d1, d2] => { results := [.lit (.bool true)], args := [d1, d2] }
  | _ => none }
def shaBackRow : OpenClaim := { program := "ytkigojlfbjagoaa", sum := "25e423bcb5937a76e1b44855d4dd939baa596878c625d7a9ac25477d57a4cce6", func := "redoubt/redoubtlaw03.ShaBack", spec := "shaBack", apart := false }
def ShaBackSaid : Prop := shaBackRow.holds Try.pinned (OpenSpec.ofChange shaBackSpec)

/-- ITS FALSE NEIGHBOUR: 'it returns false'. Refute it at one input. -/
def shaBackWrong : ChangeSpec := { name := "shaBack", fn := fun _ => fun
  | [d1, d2] => { results := [.lit (.bool false)], args := [d1, d2] }
  | _ => none }
def ShaBackWrongFalsely : Prop := shaBackRow.holds Try.pinned (OpenSpec.ofChange shaBackWrong)

/- THE SECOND FORM. 'bulk': how many values and letters a reading holds, each counted each time it is reached (what is shared counts as often as it is met; a slice's spare places count too). A statement '..UptoSaid' is the law's where the arguments, and the package variables that the reading takes, are together of bulk at most 1048576: NARROWER than '..Said'. Prove '..Said' where nothing that the law and all that it calls make is longer than what came in: it says more and counts as full. Else prove '..UptoSaid'. A law counts once. -/
mutual
def uptoBulk {H : Type} : DataW H → Nat
  | .lit (.string bytes) => bytes.length + 1
  | .lit _ => 1
  | .nil => 1
  | .ptr d => uptoBulk d + 1
  | .slice elems spare => uptoBulkAll elems + uptoBulkAll spare + 1
  | .agg parts => uptoBulkAll parts + 1
  | .iface _ d => uptoBulk d + 1
  | .map entries => uptoBulkEntries entries + 1
  | .held _ => 1
def uptoBulkAll {H : Type} : List (DataW H) → Nat
  | [] => 0
  | d :: r => uptoBulk d + uptoBulkAll r
def uptoBulkEntries {H : Type} : List (Lit × DataW H) → Nat
  | [] => 0
  | x :: r => uptoBulkEntry x + uptoBulkEntries r
def uptoBulkEntry {H : Type} : Lit × DataW H → Nat
  | (.string bytes, d) => bytes.length + uptoBulk d + 1
  | (_, d) => uptoBulk d + 1
 end
def uptoSmall : (H : Type) → List (DataW H) → Bool := fun _ ds => decide (uptoBulkAll ds ≤ 1048576)
def OpenSpec.upto (s : _root_.Go.ChangeSpec) : _root_.Go.OpenSpec := { _root_.Go.OpenSpec.ofChange s with cond := some uptoSmall }

/-- 'redoubtlaw03.ShaSums', WHERE WHAT IT READS IS OF BULK AT MOST 1048576: true; the input reads as it did. -/
def shaSumsUptoRow : OpenClaim := { program := "ytkigojlfbjagoaa", sum := "25e423bcb5937a76e1b44855d4dd939baa596878c625d7a9ac25477d57a4cce6", func := "redoubt/redoubtlaw03.ShaSums", spec := "shaSums", apart := false, narrowed := true }
def ShaSumsUptoSaid : Prop := shaSumsUptoRow.holds Try.pinned (OpenSpec.upto shaSumsSpec)

/-- 'redoubtlaw03.ShaParts', WHERE WHAT IT READS IS OF BULK AT MOST 1048576: true; the input reads as it did. -/
def shaPartsUptoRow : OpenClaim := { program := "ytkigojlfbjagoaa", sum := "25e423bcb5937a76e1b44855d4dd939baa596878c625d7a9ac25477d57a4cce6", func := "redoubt/redoubtlaw03.ShaParts", spec := "shaParts", apart := false, narrowed := true }
def ShaPartsUptoSaid : Prop := shaPartsUptoRow.holds Try.pinned (OpenSpec.upto shaPartsSpec)

/-- 'redoubtlaw07.CarveCuts', WHERE WHAT IT READS IS OF BULK AT MOST 1048576: true; the input reads as it did. -/
def carveCutsUptoRow : OpenClaim := { program := "ytkigojlfbjagoaa", sum := "25e423bcb5937a76e1b44855d4dd939baa596878c625d7a9ac25477d57a4cce6", func := "redoubt/redoubtlaw07.CarveCuts", spec := "carveCuts", inPlace := ["internal/abi.NoEscape", "internal/bytealg.MakeNoZero"], apart := false, narrowed := true }
def CarveCutsUptoSaid : Prop := carveCutsUptoRow.holds Try.pinned (OpenSpec.upto carveCutsSpec)

/-- 'redoubtlaw07.CarveJoins', WHERE WHAT IT READS IS OF BULK AT MOST 1048576: true; the input reads as it did. -/
def carveJoinsUptoRow : OpenClaim := { program := "ytkigojlfbjagoaa", sum := "25e423bcb5937a76e1b44855d4dd939baa596878c625d7a9ac25477d57a4cce6", func := "redoubt/redoubtlaw07.CarveJoins", spec := "carveJoins", inPlace := ["internal/abi.NoEscape", "internal/bytealg.MakeNoZero"], apart := false, narrowed := true }
def CarveJoinsUptoSaid : Prop := carveJoinsUptoRow.holds Try.pinned (OpenSpec.upto carveJoinsSpec)

/-- 'redoubtlaw07.CarveBack', WHERE WHAT IT READS IS OF BULK AT MOST 1048576: true; the input reads as it did. -/
def carveBackUptoRow : OpenClaim := { program := "ytkigojlfbjagoaa", sum := "25e423bcb5937a76e1b44855d4dd939baa596878c625d7a9ac25477d57a4cce6", func := "redoubt/redoubtlaw07.CarveBack", spec := "carveBack", inPlace := ["internal/abi.NoEscape", "internal/bytealg.MakeNoZero"], apart := false, narrowed := true }
def CarveBackUptoSaid : Prop := carveBackUptoRow.holds Try.pinned (OpenSpec.upto carveBackSpec)

/-- 'redoubtlaw07.CarveHeads', WHERE WHAT IT READS IS OF BULK AT MOST 1048576: true; the input reads as it did. -/
def carveHeadsUptoRow : OpenClaim := { program := "ytkigojlfbjagoaa", sum := "25e423bcb5937a76e1b44855d4dd939baa596878c625d7a9ac25477d57a4cce6", func := "redoubt/redoubtlaw07.CarveHeads", spec := "carveHeads", inPlace := ["internal/abi.NoEscape", "internal/bytealg.MakeNoZero"], apart := false, narrowed := true }
def CarveHeadsUptoSaid : Prop := carveHeadsUptoRow.holds Try.pinned (OpenSpec.upto carveHeadsSpec)

/-- 'redoubtlaw03.ShaNames', WHERE WHAT IT READS IS OF BULK AT MOST 1048576: true; the input reads as it did. -/
def shaNamesUptoRow : OpenClaim := { program := "ytkigojlfbjagoaa", sum := "25e423bcb5937a76e1b44855d4dd939baa596878c625d7a9ac25477d57a4cce6", func := "redoubt/redoubtlaw03.ShaNames", spec := "shaNames", apart := false, narrowed := true }
def ShaNamesUptoSaid : Prop := shaNamesUptoRow.holds Try.pinned (OpenSpec.upto shaNamesSpec)

/-- 'redoubtlaw03.ShaBack', WHERE WHAT IT READS IS OF BULK AT MOST 1048576: true; the input reads as it did. -/
def shaBackUptoRow : OpenClaim := { program := "ytkigojlfbjagoaa", sum := "25e423bcb5937a76e1b44855d4dd939baa596878c625d7a9ac25477d57a4cce6", func := "redoubt/redoubtlaw03.ShaBack", spec := "shaBack", apart := false, narrowed := true }
def ShaBackUptoSaid : Prop := shaBackUptoRow.holds Try.pinned (OpenSpec.upto shaBackSpec)

end Rows
end Go.Proofs.Ytkigojlfbjagoaa
