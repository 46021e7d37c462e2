/-
  Plain law: what the vault of 'awake' goes through.
-/
import Derived.Test.YtflodiljgphkdaaVltL
import Derived.Test.YtflodiljgphkdaaXyz
namespace Go.Proofs.Ytflodiljgphkdaa
open Go.RowKit Go.ChangeShapes Go.WideShapes Go.ChangeAt

theorem okC_hexd (n : Nat) (h : n < 16) : okC (hexd n) = true := by
  have : ∀ m : Fin 16, okC (hexd m.val) = true := by decide
  exact this ⟨n, h⟩
theorem nameL_okC (l : List UInt8) : (nameL l).all okC = true := by
  rw [List.all_eq_true]
  intro c hc
  unfold nameL at hc
  obtain ⟨b, _, hb⟩ := List.mem_flatMap.1 hc
  have h1 : b.toNat < 256 := UInt8.toNat_lt b
  simp only [List.mem_cons, List.not_mem_nil, or_false] at hb
  rcases hb with rfl | rfl
  · exact okC_hexd _ (by omega)
  · exact okC_hexd _ (by omega)
theorem fileN_fine {h : ByteArray} (hs : h.size ≤ 39) : fineN (fileN h) = true := by
  have e1 : (fileN h).data.toList = [98, 46] ++ nameL h.data.toList := by
    unfold fileN
    rw [ByteArray.data_append, Array.toList_append]; rfl
  have e2 : (fileN h).size = 2 + 2 * h.size := by
    unfold fileN
    rw [ByteArray.size_append, bs_size, nameL_length, data_length]; rfl
  unfold fineN
  rw [e1, e2, List.all_append, nameL_okC, decide_eq_true (by omega : 1 ≤ 2 + 2 * h.size), decide_eq_true (by omega : 2 + 2 * h.size ≤ 80)]
  decide

def tA : ByteArray := ⟨#[97, 98, 99]⟩
def tX : ByteArray := ⟨#[120, 121, 122]⟩
def tB : ByteArray := ⟨#[96, 98, 99]⟩
theorem dig_ax : digest tA ≠ digest tX := by
  unfold digest
  rw [show tA.data.toList = [97, 98, 99] from rfl, show tX.data.toList = [120, 121, 122] from rfl, abc_sha, xyz_sha]
  intro h
  exact absurd (bs_inj h) (by decide)
theorem dig_ba : digest tB ≠ digest tA := by
  unfold digest
  rw [show tA.data.toList = [97, 98, 99] from rfl, show tB.data.toList = [96, 98, 99] from rfl, abc_sha, bbc_sha]
  intro h
  exact absurd (bs_inj h) (by decide)

theorem inc01 : inc64 0 = 1 := by kernel_rfl
theorem inc12 : inc64 1 = 2 := by kernel_rfl
theorem inc23 : inc64 2 = 3 := by kernel_rfl
/-- the drive with the chunk -/
def d1A (h : ByteArray) (l : List UInt8) : DV := ⟨[(fileN h, ⟨l, 3, true⟩)], -1, false, 2⟩
def X1A (h : ByteArray) (l : List UInt8) : VV := ⟨d1A h l, 5, [(h, 3)], []⟩
theorem readyA {h : ByteArray} (hs : h.size = 32) (x : DV) (hx : x.off = false) : readyD (fileN h) x = 0 := by
  unfold readyD
  rw [fileN_fine (by omega), hx]; rfl
theorem readA {h : ByteArray} (l : List UInt8) : readD (fileN h) (d1A h l) = some (bs l) := by
  unfold readD fileD d1A mget
  simp
theorem keepsA {h : ByteArray} (l : List UInt8) : keepsV h (X1A h l) = true := by unfold keepsV X1A mget; simp
theorem putA0 {h : ByteArray} (hh : digest tA = h) (hs : h.size = 32) : putV tA ⟨newD, 5, [], []⟩ = ((h, 0), X1A h [97, 98, 99]) := by
  have k0 : keepsV (digest tA) ⟨newD, 5, [], []⟩ = false := rfl
  have h0 : hasV (digest tA) ⟨newD, 5, [], []⟩ = false := by unfold hasV; rw [k0]; rfl
  unfold putV
  rw [if_neg (by decide), if_neg (by decide), h0, k0, hh]
  simp only [Bool.false_eq_true, if_false]
  unfold writeV
  rw [if_neg (by decide)]
  have a1 : appendD (fileN h) tA newD = (0, ⟨[(fileN h, ⟨[97, 98, 99], 0, false⟩)], -1, false, 1⟩) := by
    unfold appendD
    rw [readyA hs newD rfl]
    simp only [ne_eq, not_true_eq_false, if_false]
    rw [show fileD (fileN h) newD = none from rfl]
    rw [if_neg (by decide)]
    unfold stepD
    rw [if_neg (by decide)]
    show (0, ({ files := ins (fileN h) ⟨[] ++ tA.data.toList, 0, false⟩ [], fuse := max ((-1 : Int) - 1) (-1), off := false, steps := inc64 0 } : DV)) = _
    rw [inc01]; rfl
  have a2 : syncD (fileN h) ⟨[(fileN h, ⟨[97, 98, 99], 0, false⟩)], -1, false, 1⟩ = (0, d1A h [97, 98, 99]) := by
    unfold syncD knownD
    rw [readyA hs _ rfl]
    simp only [ne_eq, not_true_eq_false, if_false]
    rw [show fileD (fileN h) ⟨[(fileN h, ⟨[97, 98, 99], 0, false⟩)], -1, false, 1⟩ = some ⟨[97, 98, 99], 0, false⟩ by unfold fileD mget; simp]
    simp only
    unfold stepD
    rw [if_neg (show ¬ ((-1 : Int) = 0) by decide)]
    show (0, ({ files := ins (fileN h) (syncF ⟨[97, 98, 99], 0, false⟩) [(fileN h, ⟨[97, 98, 99], 0, false⟩)], fuse := max ((-1 : Int) - 1) (-1), off := false, steps := inc64 1 } : DV)) = _
    rw [inc12]
    simp only [ins, if_true]
    rfl
  rw [a1]
  simp only [ne_eq, not_true_eq_false, if_false]
  rw [a2]
  simp only [not_true_eq_false, if_false]
  rfl
theorem wholeA {h : ByteArray} (hh : digest tA = h) (_hs : h.size = 32) : wholeB h (X1A h [97, 98, 99]).d = true := by
  unfold wholeB
  rw [show (X1A h [97, 98, 99]).d = d1A h [97, 98, 99] from rfl, readA]
  simp only [Option.isSome_some, textOr, Option.getD_some, Bool.true_and]
  unfold goodC
  rw [show bs [97, 98, 99] = tA from rfl, hh]
  simp; decide
theorem putA1 {h : ByteArray} (hh : digest tA = h) (hs : h.size = 32) : putV tA (X1A h [97, 98, 99]) = ((h, 0), X1A h [97, 98, 99]) := by
  unfold putV
  rw [if_neg (by decide), if_neg (by intro h; cases h), hh]
  have : hasV h (X1A h [97, 98, 99]) = true := by unfold hasV; rw [keepsA, wholeA hh hs]; rfl
  rw [this]; rfl
theorem putA2 {h : ByteArray} (hh : digest tA = h) (_hs : h.size = 32) : putV tX (X1A h [97, 98, 99]) = ((.empty, 102), X1A h [97, 98, 99]) := by
  have hk : keepsV (digest tX) (X1A h [97, 98, 99]) = false := by
    unfold keepsV X1A mget
    rw [if_neg (by rw [← hh]; exact fun e => dig_ax e.symm)]; rfl
  unfold putV
  rw [if_neg (by decide), if_neg (by intro h; cases h)]
  have : hasV (digest tX) (X1A h [97, 98, 99]) = false := by unfold hasV; rw [hk]; rfl
  rw [this, hk]
  simp only [Bool.false_eq_true, if_false]
  have hb : bytesV (X1A h [97, 98, 99]) = 3 := by unfold bytesV X1A d1A sumV; simp
  unfold writeV
  rw [hb, if_pos (show (X1A h [97, 98, 99]).quota < 3 + (tX.size : Int) from by show (5 : Int) < 3 + ((3 : Nat) : Int); decide)]
theorem getA1 {h : ByteArray} (hh : digest tA = h) (hs : h.size = 32) : getV h (X1A h [97, 98, 99]) = ((tA, 0), X1A h [97, 98, 99]) := by
  unfold getV
  rw [if_neg (by intro h; cases h), keepsA, if_neg (show ¬ (true = false) by decide), wholeA hh hs, if_pos rfl, show (X1A h [97, 98, 99]).d = d1A h [97, 98, 99] from rfl, readA]; rfl
theorem flipA {h : ByteArray} : flipD (fileN h) 0 (d1A h [97, 98, 99]) = (0, d1A h [96, 98, 99]) := by
  unfold flipD
  rw [show fileD (fileN h) (d1A h [97, 98, 99]) = some ⟨[97, 98, 99], 3, true⟩ by unfold fileD d1A mget; simp]
  simp only
  rw [if_neg (by simp)]
  unfold d1A
  simp only [ins, if_true]
  rfl
theorem wholeB2 {h : ByteArray} (hh : digest tA = h) (_hs : h.size = 32) : wholeB h (X1A h [96, 98, 99]).d = false := by
  unfold wholeB
  rw [show (X1A h [96, 98, 99]).d = d1A h [96, 98, 99] from rfl, readA]
  simp only [Option.isSome_some, textOr, Option.getD_some, Bool.true_and]
  unfold goodC
  rw [show bs [96, 98, 99] = tB from rfl, decide_eq_false (show ¬ (digest tB = h) by rw [← hh]; exact dig_ba)]
  simp
theorem hasA2 {h : ByteArray} (hh : digest tA = h) (hs : h.size = 32) : hasV h (X1A h [96, 98, 99]) = false := by unfold hasV; rw [wholeB2 hh hs, Bool.and_false]
theorem getA2 {h : ByteArray} (hh : digest tA = h) (hs : h.size = 32) : getV h (X1A h [96, 98, 99]) = ((.empty, 101), ⟨⟨[], -1, false, 3⟩, 5, [], []⟩) := by
  have hr : removeD (fileN h) (d1A h [96, 98, 99]) = (0, ⟨[], -1, false, 3⟩) := by
    unfold removeD knownD
    rw [readyA hs _ rfl]
    simp only [ne_eq, not_true_eq_false, if_false]
    rw [show fileD (fileN h) (d1A h [96, 98, 99]) = some ⟨[96, 98, 99], 3, true⟩ by unfold fileD d1A mget; simp]
    simp only
    unfold stepD
    rw [if_neg (show ¬ ((d1A h [96, 98, 99]).fuse = 0) by show ¬ ((-1 : Int) = 0); decide)]
    show (0, ({ files := mdel (fileN h) [(fileN h, ⟨[96, 98, 99], 3, true⟩)], fuse := max ((-1 : Int) - 1) (-1), off := false, steps := inc64 2 } : DV)) = _
    rw [inc23]
    simp only [mdel, if_true]
    rfl
  have hd : dropV h (X1A h [96, 98, 99]) = (0, ⟨⟨[], -1, false, 3⟩, 5, [], []⟩) := by
    unfold dropV
    rw [show (X1A h [96, 98, 99]).d = d1A h [96, 98, 99] from rfl, hr]
    simp only [if_true]
    unfold X1A
    simp only [mdel, if_true]
  unfold getV
  rw [if_neg (by intro h; cases h), keepsA, if_neg (show ¬ (true = false) by decide), wholeB2 hh hs, if_neg (show ¬ (false = true) by decide), hd]; rfl
theorem getA3 {h : ByteArray} : getV h ⟨⟨[], -1, false, 3⟩, 5, [], []⟩ = ((.empty, 100), ⟨⟨[], -1, false, 3⟩, 5, [], []⟩) := rfl
end Go.Proofs.Ytflodiljgphkdaa
