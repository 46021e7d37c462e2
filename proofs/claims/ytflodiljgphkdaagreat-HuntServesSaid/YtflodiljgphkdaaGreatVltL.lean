/-
  A vault, plainly: a drive, the quota, what is kept, what is held; what each call does.
-/
import Derived.Test.YtflodiljgphkdaaGreatM2
import Derived.Test.YtflodiljgphkdaaGreatNamL
import Derived.Test.YtflodiljgphkdaaGreatShaL
namespace Go.Proofs.YtflodiljgphkdaaGreat
open Go.RowKit Go.ChangeShapes Go.WideShapes Go.ChangeAt

structure VV where
  d : DV
  quota : Int
  kept : List (ByteArray × Int)
  held : List (ByteArray × Int)

/-- a text's digest -/
def digest (s : ByteArray) : ByteArray := bs (Go.Proofs.YtflodiljgphkdaaGreat.sha s.data.toList)
/-- a chunk's file -/
def fileN (h : ByteArray) : ByteArray := ⟨#[98, 46]⟩ ++ bs (nameL h.data.toList)
/-- is it the chunk? -/
def goodC (h s : ByteArray) : Bool := decide (s.size ≠ 0) && (decide (s.size ≤ 64) && decide (digest s = h))
def wholeB (h : ByteArray) (x : DV) : Bool := (readD (fileN h) x).isSome && goodC h (textOr (readD (fileN h) x))
def dropV (h : ByteArray) (X : VV) : Int × VV :=
  if (removeD (fileN h) X.d).1 = 0 then (0, { X with d := (removeD (fileN h) X.d).2, kept := mdel h X.kept }) else ((removeD (fileN h) X.d).1, { X with d := (removeD (fileN h) X.d).2 })
def keepsV (h : ByteArray) (X : VV) : Bool := (mget h X.kept).isSome
def hasV (h : ByteArray) (X : VV) : Bool := keepsV h X && wholeB h X.d
def sumV (l : List (ByteArray × Int)) : Int := (l.map (·.2)).sum
def bytesV (X : VV) : Int := if X.d.off then 0 else sumV X.kept
def listV (X : VV) : List ByteArray := if X.d.off then [] else X.kept.map (·.1)
def getV (h : ByteArray) (X : VV) : (ByteArray × Int) × VV :=
  if X.d.off then ((.empty, 50), X) else
  if keepsV h X = false then ((.empty, 100), X) else
  if wholeB h X.d then ((textOr (readD (fileN h) X.d), 0), X) else
  if (dropV h X).1 = 0 then ((.empty, 101), (dropV h X).2) else ((.empty, (dropV h X).1), (dropV h X).2)
/-- the chunk is written -/
def writeV (c h : ByteArray) (X : VV) : (ByteArray × Int) × VV :=
  if X.quota < bytesV X + c.size then ((.empty, 102), X) else
  if (appendD (fileN h) c X.d).1 ≠ 0 then ((.empty, (appendD (fileN h) c X.d).1), { X with d := (appendD (fileN h) c X.d).2 }) else
  if (syncD (fileN h) (appendD (fileN h) c X.d).2).1 ≠ 0 then ((.empty, (syncD (fileN h) (appendD (fileN h) c X.d).2).1), { X with d := (syncD (fileN h) (appendD (fileN h) c X.d).2).2 }) else
  ((h, 0), { X with d := (syncD (fileN h) (appendD (fileN h) c X.d).2).2, kept := ins h c.size X.kept })
def putV (c : ByteArray) (X : VV) : (ByteArray × Int) × VV :=
  if c.size = 0 ∨ 64 < c.size then ((.empty, 1), X) else
  if X.d.off then ((.empty, 50), X) else
  if hasV (digest c) X then ((digest c, 0), X) else
  if keepsV (digest c) X then
    (if (dropV (digest c) X).1 = 0 then writeV c (digest c) (dropV (digest c) X).2 else ((.empty, (dropV (digest c) X).1), (dropV (digest c) X).2))
  else writeV c (digest c) X
def heldV (h : ByteArray) (X : VV) : Int := (mget h X.held).getD 0

/-- what is kept and held is in order -/
structure OkV (X : VV) : Prop where
  dk : OkD X.d
  quota : 0 ≤ X.quota ∧ X.quota ≤ 1048576
  kept : Rising X.kept
  held : Rising X.held
  each : ∀ p ∈ X.kept, 1 ≤ p.2 ∧ p.2 ≤ 64
  many : X.kept.length ≤ 2000000

theorem digest_size (s : ByteArray) : (digest s).size = 32 := by unfold digest; rw [bs_size, sha_length]
theorem sumV_le : ∀ {l : List (ByteArray × Int)}, (∀ p ∈ l, 1 ≤ p.2 ∧ p.2 ≤ 64) → 0 ≤ sumV l ∧ sumV l ≤ 64 * l.length
  | [], _ => by simp [sumV]
  | p :: l, h => by
    have h1 := sumV_le (l := l) fun q hq => h q (List.mem_cons_of_mem _ hq)
    have h2 := h p (List.mem_cons_self ..)
    unfold sumV at *
    rw [List.map_cons, List.sum_cons, List.length_cons]
    omega
theorem removeD_ok0 {x : DV} (h : OkD x) (n : ByteArray) : OkD (removeD n x).2 := removeD_ok h n
end Go.Proofs.YtflodiljgphkdaaGreat
