/-
  Rows of words amid their making.
-/
import Derived.Test.YtejmbbnndagejaaShaL
namespace Go.Proofs.Ytejmbbnndagejaa
open Go.RowKit Go.ChangeShapes Go.WideShapes Go.ChangeAt

def zerosR (n : Nat) : List Value := List.replicate n (.int .u32 0)
/-- the first t words stand, zeros behind them -/
def fillR (l : List W) (n t : Nat) : List Value := (l.take t).map uv ++ zerosR (n - t)
theorem fillR_zero (l : List W) (n : Nat) : fillR l n 0 = zerosR n := rfl
theorem fillR_full {l : List W} {n : Nat} (h : l.length = n) : fillR l n n = l.map uv := by
  unfold fillR; rw [List.take_of_length_le (by omega), Nat.sub_self]; exact List.append_nil _
theorem fillR_length {l : List W} {n t : Nat} (h : l.length = n) (ht : t ≤ n) : (fillR l n t).length = n := by
  unfold fillR zerosR; rw [List.length_append, List.length_map, List.length_take, List.length_replicate]; omega
theorem fillR_set {l : List W} {n t : Nat} (h : l.length = n) (ht : t < n) : (fillR l n t).set t (uv (l.getD t 0)) = fillR l n (t + 1) := by
  unfold fillR
  have hl : ((l.take t).map uv).length = t := by rw [List.length_map, List.length_take]; omega
  rw [List.set_append_right _ _ (by omega), hl, Nat.sub_self, List.take_succ_eq_append_getElem (by omega), List.map_append, List.append_assoc]
  congr 1
  unfold zerosR
  rw [show n - t = (n - (t + 1)) + 1 by omega, List.replicate_succ, List.getD_eq_getElem?_getD, List.getElem?_eq_getElem (by omega)]
  rfl
theorem fillR_at {l : List W} {n t i : Nat} (h : l.length = n) (ht : t ≤ n) (hi : i < t) : (fillR l n t)[i]? = some (uv (l.getD i 0)) := by
  unfold fillR
  rw [List.getElem?_append_left (by rw [List.length_map, List.length_take]; omega), List.getElem?_map, List.getElem?_take_of_lt hi, List.getD_eq_getElem?_getD, List.getElem?_eq_getElem (by omega)]
  rfl
/-- the t-th word amid its making -/
def fillP (l : List W) (n t a : Nat) : List Value := (fillR l n t).set t (.int .u32 (a : Int))
theorem fillP_zero {l : List W} {n t : Nat} (h : l.length = n) (ht : t < n) : fillP l n t 0 = fillR l n t := by
  unfold fillP
  have hz : (fillR l n t)[t]? = some (.int .u32 ((0 : Nat) : Int)) := by
    unfold fillR zerosR
    rw [List.getElem?_append_right (by rw [List.length_map, List.length_take]; omega), List.length_map, List.length_take, Nat.min_eq_left (by omega), Nat.sub_self, show n - t = (n - t - 1) + 1 by omega, List.replicate_succ]
    rfl
  obtain ⟨hlt, he⟩ := List.getElem?_eq_some_iff.1 hz
  rw [← he]
  exact List.set_getElem_self hlt
theorem fillP_at {l : List W} {n t a : Nat} (h : l.length = n) (ht : t < n) : (fillP l n t a)[t]? = some (.int .u32 (a : Int)) := by
  unfold fillP
  rw [List.getElem?_set_self (by rw [fillR_length h (by omega)]; exact ht)]
theorem fillP_set (l : List W) (n t a b : Nat) : (fillP l n t a).set t (.int .u32 (b : Int)) = fillP l n t b := by
  unfold fillP; rw [List.set_set]
theorem fillP_full {l : List W} {n t a : Nat} (h : l.length = n) (ht : t < n) (ha : (l.getD t 0).toNat = a) : fillP l n t a = fillR l n (t + 1) := by
  rw [← fillR_set h ht]
  unfold fillP uv un
  rw [ha]
/-- the first j bytes of a word -/
def pacc (b : List UInt8) (t : Nat) : Nat → Nat
  | 0 => 0
  | j + 1 => pacc b t j * 256 + byteN b (4 * t + j)
theorem byteN_ltR (b : List UInt8) (i : Nat) : byteN b i < 256 := UInt8.toNat_lt _
theorem pacc_lt (b : List UInt8) (t j : Nat) : pacc b t j < 256 ^ j := by
  induction j with
  | zero => simp [pacc]
  | succ j ih =>
    have := byteN_ltR b (4 * t + j)
    rw [pacc, Nat.pow_succ]; omega
theorem pacc_four (b : List UInt8) (t : Nat) : (word b t).toNat = pacc b t 4 := by
  have h := pacc_lt b t 4
  have e : pacc b t 4 = byteN b (4 * t) * 16777216 + byteN b (4 * t + 1) * 65536 + byteN b (4 * t + 2) * 256 + byteN b (4 * t + 3) := by
    simp only [pacc, Nat.add_zero]; omega
  unfold word
  rw [← e, BitVec.toNat_ofNat, Nat.mod_eq_of_lt (by omega)]
/-- all the words -/
def wall (b : List UInt8) : List W := wpre b 64
theorem wall_length (b : List UInt8) : (wall b).length = 64 := wpre_length b 64
theorem wall_get (b : List UInt8) (t : Nat) (h : t < 64) : (wall b).getD t 0 = wnext b (wpre b t) t := by
  unfold wall
  rw [List.getD_eq_getElem?_getD, wpre_get b t 64 h]; rfl
theorem wpre_getD (b : List UInt8) (t i : Nat) (ht : t ≤ 64) (h : i < t) : (wpre b t).getD i 0 = (wall b).getD i 0 := by
  unfold wall
  rw [List.getD_eq_getElem?_getD, List.getD_eq_getElem?_getD, wpre_get b i t h, wpre_get b i 64 (by omega)]
theorem wall_word (b : List UInt8) (t : Nat) (h : t < 16) : (wall b).getD t 0 = word b t := by rw [wall_get b t (by omega), wnext, if_pos h]
theorem wall_next (b : List UInt8) (t : Nat) (h : t < 64) (h16 : ¬ t < 16) : (wall b).getD t 0 = (wall b).getD (t - 16) 0 + sig0 ((wall b).getD (t - 15) 0) + (wall b).getD (t - 7) 0 + sig1 ((wall b).getD (t - 2) 0) := by
  rw [wall_get b t h, wnext, if_neg h16, wpre_getD _ _ _ (by omega) (by omega), wpre_getD _ _ _ (by omega) (by omega), wpre_getD _ _ _ (by omega) (by omega), wpre_getD _ _ _ (by omega) (by omega)]
  generalize (wall b).getD (t - 16) 0 = p
  generalize (wall b).getD (t - 7) 0 = q
  generalize sig0 ((wall b).getD (t - 15) 0) = r
  rw [BitVec.add_assoc p q r, BitVec.add_comm q r, ← BitVec.add_assoc]
def mixR (s r : S8) (k : Nat) : List W := (s.add r).l.take k ++ s.l.drop k
theorem un_notR (x : W) : bits .xor .u32 IntKind.u32.max (un x) = un (~~~x) := by
  have h := un_xor (BitVec.allOnes 32) x
  rw [BitVec.allOnes_xor] at h
  exact h
end Go.Proofs.Ytejmbbnndagejaa
