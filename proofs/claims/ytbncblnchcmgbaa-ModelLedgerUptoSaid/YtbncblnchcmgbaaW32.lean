/-
  Words of 32 bits: their code, and what the operations do with it.
-/
import Derived.Test.YtbncblnchcmgbaaGen
import Derived.Laws.BitsAllLaws
namespace Go.Proofs.Ytbncblnchcmgbaa
open Go.RowKit Go.ChangeShapes Go.WideShapes Go.ChangeAt

abbrev W := BitVec 32
/-- A word's number. -/
def un (x : W) : Int := (x.toNat : Int)
/-- A word's value. -/
def uv (x : W) : Value := .int .u32 (un x)
theorem un_nat (x : W) : un x = (x.toNat : Int) := rfl
theorem un_lt (x : W) : x.toNat < 4294967296 := x.isLt
theorem un_lo (x : W) : 0 ≤ un x := by unfold un; omega
theorem un_hi (x : W) : un x < 4294967296 := by have := un_lt x; unfold un; omega
theorem un_wrap (x : W) : IntKind.u32.wrap (un x) = un x := by
  have := un_lo x; have := un_hi x
  simp [IntKind.wrap, IntKind.signed, IntKind.bits]; omega
theorem un_add (x y : W) : IntKind.u32.wrap (un x + un y) = un (x + y) := by
  have h1 := un_lt x; have h2 := un_lt y
  rw [un_nat (x + y), BitVec.toNat_add]
  simp [IntKind.wrap, IntKind.signed, IntKind.bits, un]
theorem un_xor (x y : W) : bits .xor .u32 (un x) (un y) = un (x ^^^ y) := by
  rw [un_nat, un_nat, un_nat, BitVec.toNat_xor]; exact u32_xor_nat _ _ (un_lt x) (un_lt y)
theorem un_and (x y : W) : bits .and .u32 (un x) (un y) = un (x &&& y) := by
  rw [un_nat, un_nat, un_nat, BitVec.toNat_and]; exact u32_and_nat _ _ (un_lt x) (un_lt y)
theorem un_or (x y : W) : bits .or .u32 (un x) (un y) = un (x ||| y) := by
  rw [un_nat, un_nat, un_nat, BitVec.toNat_or]; exact u32_or_nat _ _ (un_lt x) (un_lt y)
theorem un_shr (x : W) (k : Nat) : un x / (2 ^ k : Nat) = un (x >>> k) := by
  rw [un_nat, un_nat, BitVec.toNat_ushiftRight, Nat.shiftRight_eq_div_pow]; exact (Int.natCast_ediv _ _).symm
theorem un_shl (x : W) (k : Nat) : IntKind.u32.wrap (un x * (2 ^ k : Nat)) = un (x <<< k) := by
  rw [un_nat (x <<< k), BitVec.toNat_shiftLeft, Nat.shiftLeft_eq]
  simp [IntKind.wrap, IntKind.signed, IntKind.bits, un]
theorem un_lit (n : Nat) (h : n < 4294967296) : un (BitVec.ofNat 32 n) = (n : Int) := by
  rw [un_nat, BitVec.toNat_ofNat, Nat.mod_eq_of_lt h]
/-- A word turned to the right. -/
def rotr (x : W) (r : Nat) : W := (x >>> r) ||| (x <<< (32 - r))

/-- A block of values. -/
def Blk (w : World) (g : Nat) (e : TypeId) (vs : List Value) : Prop := w.heap[g]? = some (.cells vs.toArray e (0, 0))
namespace Blk
variable {w w' : World} {g : Nat} {e : TypeId} {vs : List Value}
theorem lt (h : Blk w g e vs) : g < w.heap.size := by
  rcases Nat.lt_or_ge g w.heap.size with hlt | hge
  · exact hlt
  · have := h; unfold Blk at this; rw [Array.getElem?_eq_none hge] at this; cases this
theorem cell (h : Blk w g e vs) {i : Nat} {u : Value} (hi : vs[i]? = some u) : w.cell? ⟨g, i, none⟩ = some u := by
  have h' : w.heap[g]? = some (.cells vs.toArray e (0, 0)) := h
  simp [World.cell?, h', hi]
theorem fr (h : Blk w g e vs) (i : Nat) : w.frozen? ⟨g, i, none⟩ = false := by
  have h' : w.heap[g]? = some (.cells vs.toArray e (0, 0)) := h
  simp [World.frozen?, h']
theorem kept {S : Nat → Prop} (h : Blk w g e vs) (hk : Kp S w w') (hs : ¬ S g) : Blk w' g e vs := (hk.block g h.lt hs).trans h
theorem drew (h : Blk w g e vs) : Blk w.drew g e vs := h
theorem set (h : Blk w g e vs) (i : Nat) (u : Value) : Blk (w.setCell ⟨g, i, none⟩ u) g e (vs.set i u) := by
  have h' : w.heap[g]? = some (.cells vs.toArray e (0, 0)) := h
  unfold Blk
  simp [World.setCell, Array.getElem?_modify, h']
theorem new (w : World) (vs : List Value) (e : TypeId) : Blk (w.alloc (.cells vs.toArray e)) w.heap.size e vs := heap_alloc_new w _
end Blk
end Go.Proofs.Ytbncblnchcmgbaa
