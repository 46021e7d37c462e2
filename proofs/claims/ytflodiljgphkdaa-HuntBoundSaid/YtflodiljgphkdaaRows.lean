/-
  No cell of these rows narrows 'for every input' (looked for: loops, veiled, ifaces, maps, wideKeys, modest, calm, conditions, laid).
  DERIVED. THE GIVEN ROWS OF THIS SEAT. 11 by the template 'for every input the law returns true; each argument reads behind the call as it read before'; 0 by the template 'total and deterministic' (their statements: YtflodiljgphkdaaTotals.lean).
  GIVEN WITH THE SEED: the statements are not yours to turn. If you find one false, say at which input.
  Laid BY PROGRAM, IN A SANDBOX (cutbox-rows.mjs): the forced cells as the released guide's own fill.sh prints them over the translation 10d69db34cb1f92b… (all of the seat's roots in one cut). By AI agents, Wed Nov 11 2026. No macro, syntax, notation, axiom, sorry.
-/
import Derived.Test.YtflodiljgphkdaaChecked
import GoSem.Claim
import GoSem.ClaimJoined
import GoSem.ClaimMapViews
import Derived.JoinedTies
import Derived.KernelRfl
namespace Go.Proofs.Ytflodiljgphkdaa
/- THE CELL 'sum', in the pinned program and in every row, IS THE sha256 OF THE DUMP (.gsa) THAT YtflodiljgphkdaaProg.lean LOADS. Nothing in Lean hashes anything: it is a label: what it is worth is what the hold of that sum in a sandbox is worth. -/
noncomputable def Try.pinned : Pinned := { name := "ytflodiljgphkdaa", sum := "10d69db34cb1f92bb2cad57e8266e85a03795fda91c1507932241695a6308b4a", checked := Try.checked }
namespace Rows
def none {H : Type} : Left H := { results := [], args := [] }

/-- 'redoubtlaw05.DiskFull': WHATEVER THE INPUT: true; the input reads as it did. -/
def diskFullSpec : ChangeSpec := { name := "diskFull", fn := fun _ => fun
  | [d] => { results := [.lit (.bool true)], args := [d] }
  | _ => none }
def diskFullRow : OpenClaim := { program := "ytflodiljgphkdaa", sum := "10d69db34cb1f92bb2cad57e8266e85a03795fda91c1507932241695a6308b4a", func := "redoubt/redoubtlaw05.DiskFull", spec := "diskFull", unfollowed := true, recurses := true, apart := false }
def DiskFullSaid : Prop := diskFullRow.holds Try.pinned (OpenSpec.ofChange diskFullSpec)

/-- ITS FALSE NEIGHBOUR: 'it returns false'. Refute it at one input. -/
def diskFullWrong : ChangeSpec := { name := "diskFull", fn := fun _ => fun
  | [d] => { results := [.lit (.bool false)], args := [d] }
  | _ => none }
def DiskFullWrongFalsely : Prop := diskFullRow.holds Try.pinned (OpenSpec.ofChange diskFullWrong)

/-- 'redoubtlaw05.DiskLasts': WHATEVER THE INPUT: true; the input reads as it did. -/
def diskLastsSpec : ChangeSpec := { name := "diskLasts", fn := fun _ => fun
  | [d1, d2, d3] => { results := [.lit (.bool true)], args := [d1, d2, d3] }
  | _ => none }
def diskLastsRow : OpenClaim := { program := "ytflodiljgphkdaa", sum := "10d69db34cb1f92bb2cad57e8266e85a03795fda91c1507932241695a6308b4a", func := "redoubt/redoubtlaw05.DiskLasts", spec := "diskLasts", unfollowed := true, recurses := true, apart := false }
def DiskLastsSaid : Prop := diskLastsRow.holds Try.pinned (OpenSpec.ofChange diskLastsSpec)

/-- ITS FALSE NEIGHBOUR: 'it returns false'. Refute it at one input. -/
def diskLastsWrong : ChangeSpec := { name := "diskLasts", fn := fun _ => fun
  | [d1, d2, d3] => { results := [.lit (.bool false)], args := [d1, d2, d3] }
  | _ => none }
def DiskLastsWrongFalsely : Prop := diskLastsRow.holds Try.pinned (OpenSpec.ofChange diskLastsWrong)

/-- 'redoubtlaw05.DiskPlays': WHATEVER THE INPUT: true; the input reads as it did. -/
def diskPlaysSpec : ChangeSpec := { name := "diskPlays", fn := fun _ => fun
  | [d1, d2] => { results := [.lit (.bool true)], args := [d1, d2] }
  | _ => none }
def diskPlaysRow : OpenClaim := { program := "ytflodiljgphkdaa", sum := "10d69db34cb1f92bb2cad57e8266e85a03795fda91c1507932241695a6308b4a", func := "redoubt/redoubtlaw05.DiskPlays", spec := "diskPlays", unfollowed := true, recurses := true, apart := false }
def DiskPlaysSaid : Prop := diskPlaysRow.holds Try.pinned (OpenSpec.ofChange diskPlaysSpec)

/-- ITS FALSE NEIGHBOUR: 'it returns false'. Refute it at one input. -/
def diskPlaysWrong : ChangeSpec := { name := "diskPlays", fn := fun _ => fun
  | [d1, d2] => { results := [.lit (.bool false)], args := [d1, d2] }
  | _ => none }
def DiskPlaysWrongFalsely : Prop := diskPlaysRow.holds Try.pinned (OpenSpec.ofChange diskPlaysWrong)

/-- 'redoubtlaw05.DiskAgain': WHATEVER THE INPUT: true; the input reads as it did. -/
def diskAgainSpec : ChangeSpec := { name := "diskAgain", fn := fun _ => fun
  | [d1, d2, d3] => { results := [.lit (.bool true)], args := [d1, d2, d3] }
  | _ => none }
def diskAgainRow : OpenClaim := { program := "ytflodiljgphkdaa", sum := "10d69db34cb1f92bb2cad57e8266e85a03795fda91c1507932241695a6308b4a", func := "redoubt/redoubtlaw05.DiskAgain", spec := "diskAgain", unfollowed := true, recurses := true, apart := false }
def DiskAgainSaid : Prop := diskAgainRow.holds Try.pinned (OpenSpec.ofChange diskAgainSpec)

/-- ITS FALSE NEIGHBOUR: 'it returns false'. Refute it at one input. -/
def diskAgainWrong : ChangeSpec := { name := "diskAgain", fn := fun _ => fun
  | [d1, d2, d3] => { results := [.lit (.bool false)], args := [d1, d2, d3] }
  | _ => none }
def DiskAgainWrongFalsely : Prop := diskAgainRow.holds Try.pinned (OpenSpec.ofChange diskAgainWrong)

/-- 'redoubtlaw05.DiskApart': WHATEVER THE INPUT: true; the input reads as it did. -/
def diskApartSpec : ChangeSpec := { name := "diskApart", fn := fun _ => fun
  | [d1, d2] => { results := [.lit (.bool true)], args := [d1, d2] }
  | _ => none }
def diskApartRow : OpenClaim := { program := "ytflodiljgphkdaa", sum := "10d69db34cb1f92bb2cad57e8266e85a03795fda91c1507932241695a6308b4a", func := "redoubt/redoubtlaw05.DiskApart", spec := "diskApart", unfollowed := true, recurses := true, apart := false }
def DiskApartSaid : Prop := diskApartRow.holds Try.pinned (OpenSpec.ofChange diskApartSpec)

/-- ITS FALSE NEIGHBOUR: 'it returns false'. Refute it at one input. -/
def diskApartWrong : ChangeSpec := { name := "diskApart", fn := fun _ => fun
  | [d1, d2] => { results := [.lit (.bool false)], args := [d1, d2] }
  | _ => none }
def DiskApartWrongFalsely : Prop := diskApartRow.holds Try.pinned (OpenSpec.ofChange diskApartWrong)

/-- 'redoubtlaw05.DiskNil': WHATEVER THE INPUT: true; the input reads as it did. -/
def diskNilSpec : ChangeSpec := { name := "diskNil", fn := fun _ => fun
  | [d1, d2] => { results := [.lit (.bool true)], args := [d1, d2] }
  | _ => none }
def diskNilRow : OpenClaim := { program := "ytflodiljgphkdaa", sum := "10d69db34cb1f92bb2cad57e8266e85a03795fda91c1507932241695a6308b4a", func := "redoubt/redoubtlaw05.DiskNil", spec := "diskNil", unfollowed := true, recurses := true, apart := false }
def DiskNilSaid : Prop := diskNilRow.holds Try.pinned (OpenSpec.ofChange diskNilSpec)

/-- ITS FALSE NEIGHBOUR: 'it returns false'. Refute it at one input. -/
def diskNilWrong : ChangeSpec := { name := "diskNil", fn := fun _ => fun
  | [d1, d2] => { results := [.lit (.bool false)], args := [d1, d2] }
  | _ => none }
def DiskNilWrongFalsely : Prop := diskNilRow.holds Try.pinned (OpenSpec.ofChange diskNilWrong)

/-- 'redoubtlaw10.VaultTrue': WHATEVER THE INPUT: true; the input reads as it did. -/
def vaultTrueSpec : ChangeSpec := { name := "vaultTrue", fn := fun _ => fun
  | [d1, d2, d3] => { results := [.lit (.bool true)], args := [d1, d2, d3] }
  | _ => none }
def vaultTrueRow : OpenClaim := { program := "ytflodiljgphkdaa", sum := "10d69db34cb1f92bb2cad57e8266e85a03795fda91c1507932241695a6308b4a", func := "redoubt/redoubtlaw10.VaultTrue", spec := "vaultTrue", unfollowed := true, recurses := true, apart := false }
def VaultTrueSaid : Prop := vaultTrueRow.holds Try.pinned (OpenSpec.ofChange vaultTrueSpec)

/-- ITS FALSE NEIGHBOUR: 'it returns false'. Refute it at one input. -/
def vaultTrueWrong : ChangeSpec := { name := "vaultTrue", fn := fun _ => fun
  | [d1, d2, d3] => { results := [.lit (.bool false)], args := [d1, d2, d3] }
  | _ => none }
def VaultTrueWrongFalsely : Prop := vaultTrueRow.holds Try.pinned (OpenSpec.ofChange vaultTrueWrong)

/-- 'redoubtlaw10.VaultQuota': WHATEVER THE INPUT: true; the input reads as it did. -/
def vaultQuotaSpec : ChangeSpec := { name := "vaultQuota", fn := fun _ => fun
  | [d1, d2] => { results := [.lit (.bool true)], args := [d1, d2] }
  | _ => none }
def vaultQuotaRow : OpenClaim := { program := "ytflodiljgphkdaa", sum := "10d69db34cb1f92bb2cad57e8266e85a03795fda91c1507932241695a6308b4a", func := "redoubt/redoubtlaw10.VaultQuota", spec := "vaultQuota", unfollowed := true, recurses := true, apart := false }
def VaultQuotaSaid : Prop := vaultQuotaRow.holds Try.pinned (OpenSpec.ofChange vaultQuotaSpec)

/-- ITS FALSE NEIGHBOUR: 'it returns false'. Refute it at one input. -/
def vaultQuotaWrong : ChangeSpec := { name := "vaultQuota", fn := fun _ => fun
  | [d1, d2] => { results := [.lit (.bool false)], args := [d1, d2] }
  | _ => none }
def VaultQuotaWrongFalsely : Prop := vaultQuotaRow.holds Try.pinned (OpenSpec.ofChange vaultQuotaWrong)

/-- 'redoubtlaw10.VaultSweeps': WHATEVER THE INPUT: true; the input reads as it did. -/
def vaultSweepsSpec : ChangeSpec := { name := "vaultSweeps", fn := fun _ => fun
  | [d1, d2] => { results := [.lit (.bool true)], args := [d1, d2] }
  | _ => none }
def vaultSweepsRow : OpenClaim := { program := "ytflodiljgphkdaa", sum := "10d69db34cb1f92bb2cad57e8266e85a03795fda91c1507932241695a6308b4a", func := "redoubt/redoubtlaw10.VaultSweeps", spec := "vaultSweeps", unfollowed := true, recurses := true, apart := false }
def VaultSweepsSaid : Prop := vaultSweepsRow.holds Try.pinned (OpenSpec.ofChange vaultSweepsSpec)

/-- ITS FALSE NEIGHBOUR: 'it returns false'. Refute it at one input. -/
def vaultSweepsWrong : ChangeSpec := { name := "vaultSweeps", fn := fun _ => fun
  | [d1, d2] => { results := [.lit (.bool false)], args := [d1, d2] }
  | _ => none }
def VaultSweepsWrongFalsely : Prop := vaultSweepsRow.holds Try.pinned (OpenSpec.ofChange vaultSweepsWrong)

/-- 'redoubtlaw10.VaultNil': WHATEVER THE INPUT: true; the input reads as it did. -/
def vaultNilSpec : ChangeSpec := { name := "vaultNil", fn := fun _ => fun
  | [d1, d2] => { results := [.lit (.bool true)], args := [d1, d2] }
  | _ => none }
def vaultNilRow : OpenClaim := { program := "ytflodiljgphkdaa", sum := "10d69db34cb1f92bb2cad57e8266e85a03795fda91c1507932241695a6308b4a", func := "redoubt/redoubtlaw10.VaultNil", spec := "vaultNil", unfollowed := true, recurses := true, apart := false }
def VaultNilSaid : Prop := vaultNilRow.holds Try.pinned (OpenSpec.ofChange vaultNilSpec)

/-- ITS FALSE NEIGHBOUR: 'it returns false'. Refute it at one input. -/
def vaultNilWrong : ChangeSpec := { name := "vaultNil", fn := fun _ => fun
  | [d1, d2] => { results := [.lit (.bool false)], args := [d1, d2] }
  | _ => none }
def VaultNilWrongFalsely : Prop := vaultNilRow.holds Try.pinned (OpenSpec.ofChange vaultNilWrong)

/-- 'redoubtlaw19.HuntBound': WHATEVER THE INPUT: true; the input reads as it did. -/
def huntBoundSpec : ChangeSpec := { name := "huntBound", fn := fun _ => fun
  | [d1, d2, d3, d4] => { results := [.lit (.bool true)], args := [d1, d2, d3, d4] }
  | _ => none }
def huntBoundRow : OpenClaim := { program := "ytflodiljgphkdaa", sum := "10d69db34cb1f92bb2cad57e8266e85a03795fda91c1507932241695a6308b4a", func := "redoubt/redoubtlaw19.HuntBound", spec := "huntBound", unfollowed := true, recurses := true, apart := false }
def HuntBoundSaid : Prop := huntBoundRow.holds Try.pinned (OpenSpec.ofChange huntBoundSpec)

/-- ITS FALSE NEIGHBOUR: 'it returns false'. Refute it at one input. -/
def huntBoundWrong : ChangeSpec := { name := "huntBound", fn := fun _ => fun
  | [d1, d2, d3, d4] => { results := [.lit (.bool false)], args := [d1, d2, d3, d4] }
  | _ => none }
def HuntBoundWrongFalsely : Prop := huntBoundRow.holds Try.pinned (OpenSpec.ofChange huntBoundWrong)

/- THE SECOND FORM. 'bulk': how many values and letters a reading holds, each counted each time it is reached (what is shared counts as often as it is met; a slice's spare places count too). A statement '..UptoSaid' is the law's where the arguments, and the package variables that the reading takes, are together of bulk at most 1048576: NARROWER than '..Said'. Prove '..Said' where nothing that the law and all that it calls make is longer than what came in: it says more and counts as full. Else prove '..UptoSaid'. A law counts once. -/
mutual
def uptoBulk {H : Type} : DataW H → Nat
  | .lit (.string bytes) => bytes.length + 1
  | .lit _ => 1
  | .nil => 1
  | .ptr d => uptoBulk d + 1
  | .slice elems spare => uptoBulkAll elems + uptoBulkAll spare + 1
  | .agg parts => uptoBulkAll parts + 1
  | .iface _ d => uptoBulk d + 1
  | .map entries => uptoBulkEntries entries + 1
  | .held _ => 1
def uptoBulkAll {H : Type} : List (DataW H) → Nat
  | [] => 0
  | d :: r => uptoBulk d + uptoBulkAll r
def uptoBulkEntries {H : Type} : List (Lit × DataW H) → Nat
  | [] => 0
  | x :: r => uptoBulkEntry x + uptoBulkEntries r
def uptoBulkEntry {H : Type} : Lit × DataW H → Nat
  | (.string bytes, d) => bytes.length + uptoBulk d + 1
  | (_, d) => uptoBulk d + 1
 end
def uptoSmall : (H : Type) → List (DataW H) → Bool := fun _ ds => decide (uptoBulkAll ds ≤ 1048576)
def OpenSpec.upto (s : _root_.Go.ChangeSpec) : _root_.Go.OpenSpec := { _root_.Go.OpenSpec.ofChange s with cond := some uptoSmall }

/-- 'redoubtlaw05.DiskFull', WHERE WHAT IT READS IS OF BULK AT MOST 1048576: true; the input reads as it did. -/
def diskFullUptoRow : OpenClaim := { program := "ytflodiljgphkdaa", sum := "10d69db34cb1f92bb2cad57e8266e85a03795fda91c1507932241695a6308b4a", func := "redoubt/redoubtlaw05.DiskFull", spec := "diskFull", unfollowed := true, recurses := true, apart := false, narrowed := true }
def DiskFullUptoSaid : Prop := diskFullUptoRow.holds Try.pinned (OpenSpec.upto diskFullSpec)

/-- 'redoubtlaw05.DiskLasts', WHERE WHAT IT READS IS OF BULK AT MOST 1048576: true; the input reads as it did. -/
def diskLastsUptoRow : OpenClaim := { program := "ytflodiljgphkdaa", sum := "10d69db34cb1f92bb2cad57e8266e85a03795fda91c1507932241695a6308b4a", func := "redoubt/redoubtlaw05.DiskLasts", spec := "diskLasts", unfollowed := true, recurses := true, apart := false, narrowed := true }
def DiskLastsUptoSaid : Prop := diskLastsUptoRow.holds Try.pinned (OpenSpec.upto diskLastsSpec)

/-- 'redoubtlaw05.DiskPlays', WHERE WHAT IT READS IS OF BULK AT MOST 1048576: true; the input reads as it did. -/
def diskPlaysUptoRow : OpenClaim := { program := "ytflodiljgphkdaa", sum := "10d69db34cb1f92bb2cad57e8266e85a03795fda91c1507932241695a6308b4a", func := "redoubt/redoubtlaw05.DiskPlays", spec := "diskPlays", unfollowed := true, recurses := true, apart := false, narrowed := true }
def DiskPlaysUptoSaid : Prop := diskPlaysUptoRow.holds Try.pinned (OpenSpec.upto diskPlaysSpec)

/-- 'redoubtlaw05.DiskAgain', WHERE WHAT IT READS IS OF BULK AT MOST 1048576: true; the input reads as it did. -/
def diskAgainUptoRow : OpenClaim := { program := "ytflodiljgphkdaa", sum := "10d69db34cb1f92bb2cad57e8266e85a03795fda91c1507932241695a6308b4a", func := "redoubt/redoubtlaw05.DiskAgain", spec := "diskAgain", unfollowed := true, recurses := true, apart := false, narrowed := true }
def DiskAgainUptoSaid : Prop := diskAgainUptoRow.holds Try.pinned (OpenSpec.upto diskAgainSpec)

/-- 'redoubtlaw05.DiskApart', WHERE WHAT IT READS IS OF BULK AT MOST 1048576: true; the input reads as it did. -/
def diskApartUptoRow : OpenClaim := { program := "ytflodiljgphkdaa", sum := "10d69db34cb1f92bb2cad57e8266e85a03795fda91c1507932241695a6308b4a", func := "redoubt/redoubtlaw05.DiskApart", spec := "diskApart", unfollowed := true, recurses := true, apart := false, narrowed := true }
def DiskApartUptoSaid : Prop := diskApartUptoRow.holds Try.pinned (OpenSpec.upto diskApartSpec)

/-- 'redoubtlaw05.DiskNil', WHERE WHAT IT READS IS OF BULK AT MOST 1048576: true; the input reads as it did. -/
def diskNilUptoRow : OpenClaim := { program := "ytflodiljgphkdaa", sum := "10d69db34cb1f92bb2cad57e8266e85a03795fda91c1507932241695a6308b4a", func := "redoubt/redoubtlaw05.DiskNil", spec := "diskNil", unfollowed := true, recurses := true, apart := false, narrowed := true }
def DiskNilUptoSaid : Prop := diskNilUptoRow.holds Try.pinned (OpenSpec.upto diskNilSpec)

/-- 'redoubtlaw10.VaultTrue', WHERE WHAT IT READS IS OF BULK AT MOST 1048576: true; the input reads as it did. -/
def vaultTrueUptoRow : OpenClaim := { program := "ytflodiljgphkdaa", sum := "10d69db34cb1f92bb2cad57e8266e85a03795fda91c1507932241695a6308b4a", func := "redoubt/redoubtlaw10.VaultTrue", spec := "vaultTrue", unfollowed := true, recurses := true, apart := false, narrowed := true }
def VaultTrueUptoSaid : Prop := vaultTrueUptoRow.holds Try.pinned (OpenSpec.upto vaultTrueSpec)

/-- 'redoubtlaw10.VaultQuota', WHERE WHAT IT READS IS OF BULK AT MOST 1048576: true; the input reads as it did. -/
def vaultQuotaUptoRow : OpenClaim := { program := "ytflodiljgphkdaa", sum := "10d69db34cb1f92bb2cad57e8266e85a03795fda91c1507932241695a6308b4a", func := "redoubt/redoubtlaw10.VaultQuota", spec := "vaultQuota", unfollowed := true, recurses := true, apart := false, narrowed := true }
def VaultQuotaUptoSaid : Prop := vaultQuotaUptoRow.holds Try.pinned (OpenSpec.upto vaultQuotaSpec)

/-- 'redoubtlaw10.VaultSweeps', WHERE WHAT IT READS IS OF BULK AT MOST 1048576: true; the input reads as it did. -/
def vaultSweepsUptoRow : OpenClaim := { program := "ytflodiljgphkdaa", sum := "10d69db34cb1f92bb2cad57e8266e85a03795fda91c1507932241695a6308b4a", func := "redoubt/redoubtlaw10.VaultSweeps", spec := "vaultSweeps", unfollowed := true, recurses := true, apart := false, narrowed := true }
def VaultSweepsUptoSaid : Prop := vaultSweepsUptoRow.holds Try.pinned (OpenSpec.upto vaultSweepsSpec)

/-- 'redoubtlaw10.VaultNil', WHERE WHAT IT READS IS OF BULK AT MOST 1048576: true; the input reads as it did. -/
def vaultNilUptoRow : OpenClaim := { program := "ytflodiljgphkdaa", sum := "10d69db34cb1f92bb2cad57e8266e85a03795fda91c1507932241695a6308b4a", func := "redoubt/redoubtlaw10.VaultNil", spec := "vaultNil", unfollowed := true, recurses := true, apart := false, narrowed := true }
def VaultNilUptoSaid : Prop := vaultNilUptoRow.holds Try.pinned (OpenSpec.upto vaultNilSpec)

/-- 'redoubtlaw19.HuntBound', WHERE WHAT IT READS IS OF BULK AT MOST 1048576: true; the input reads as it did. -/
def huntBoundUptoRow : OpenClaim := { program := "ytflodiljgphkdaa", sum := "10d69db34cb1f92bb2cad57e8266e85a03795fda91c1507932241695a6308b4a", func := "redoubt/redoubtlaw19.HuntBound", spec := "huntBound", unfollowed := true, recurses := true, apart := false, narrowed := true }
def HuntBoundUptoSaid : Prop := huntBoundUptoRow.holds Try.pinned (OpenSpec.upto huntBoundSpec)

end Rows
end Go.Proofs.Ytflodiljgphkdaa
