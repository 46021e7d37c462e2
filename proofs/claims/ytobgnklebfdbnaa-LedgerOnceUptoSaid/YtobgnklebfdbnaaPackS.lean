/-
  sheet.Pack.
-/
import Derived.Test.YtobgnklebfdbnaaP1
import Derived.Test.YtobgnklebfdbnaaReg
import Derived.Test.YtobgnklebfdbnaaC1
import Derived.Test.YtobgnklebfdbnaaW32
namespace Go.Proofs.Ytobgnklebfdbnaa
open Go.RowKit Go.ChangeShapes Go.WideShapes Go.ChangeAt

/-- a sheet's bytes -/
def packB (n : Int) (l : List ByteArray) : List UInt8 := numB n ++ numB l.length ++ textsB l
theorem nums2 (n m : Int) : numsB [n, m] = numB n ++ numB m := by simp [numsB]

set_option maxRecDepth 100000 in
set_option maxHeartbeats 1000000 in
theorem c_packS (n : Int) (l : List ByteArray) (A : Option Addr) (c : Nat) (w : World) (S : Nat → Prop) (hl : Rp.str.slice.R w S [.slice A l.length c] l) (h0 : -9223372036854775808 ≤ n) (h1 : n < 9223372036854775808) (hn : ∀ s ∈ l, s.size ≤ 1048576) (hln : (textsB l).length ≤ 1000000000) (hll : l.length ≤ 1000000) :
    Calls Try.prog 110 #[.agg #[.int .i64 n, .slice A l.length c]] w fun e w' => e = .returned (.string (bs (packB n l))) ∧ Kp No w w' := by
  have HL := Lib.hid hl
  have HN := Lib.hid hn
  have hlen1 := numB_length n h0 h1
  have hlen2 := numB_length (l.length : Int) (by omega) (by omega)
  have HL1 := Lib.hid hlen1
  have HL2 := Lib.hid hlen2
  clear hl hn hlen1 hlen2
  go_enter Try.func110, Try.ntmps110
  go_wp2_with fail
  obtain ⟨w1, hw1⟩ : ∃ w1, w.alloc (.cells #[.int .i64 n, .slice A l.length c] 31) = w1 := ⟨_, rfl⟩
  have HB : Hid (Blk w1 w.heap.size 31 [.int .i64 n, .slice A l.length c]) := Lib.hid (by rw [← hw1]; exact Blk.new w _ _)
  have HK1 : Hid (Kp No w w1) := Lib.hid (by rw [← hw1]; exact (Kp.refl _ _).alloc _)
  rw [hw1]
  clear hw1
  have c0 : w1.cell? ⟨w.heap.size, 0, none⟩ = some (.int .i64 n) := HB.out.cell rfl
  have c1 : w1.cell? ⟨w.heap.size, 1, none⟩ = some (.slice A l.length c) := HB.out.cell rfl
  have hlt : w.heap.size < w1.heap.size := HB.out.lt
  have hne : w.heap.size ≠ w1.heap.size := Nat.ne_of_lt hlt
  have hne2 : w1.heap.size ≠ w.heap.size := fun e => hne e.symm
  refine Reg.wp_region_plan [⟨0, false, []⟩, ⟨1, false, []⟩, ⟨2, false, []⟩, ⟨3, false, []⟩, ⟨4, false, []⟩, ⟨7, false, []⟩, ⟨8, false, []⟩, ⟨5, true, [7, 8]⟩, ⟨6, true, [7, 8]⟩, ⟨9, true, []⟩, ⟨10, false, []⟩, ⟨11, false, []⟩] rfl (by kernel_rfl) ?_
  repeat (first | (refine Reg.look rfl rfl rfl (by go_simp; rfl) rfl ?_; go_simp) | (refine Reg.skip rfl rfl rfl ?_; go_simp))
  refine Reg.act rfl ?_
  go_wp2
  (refine ⟨?anew, ?_⟩; case anew => ((repeat (refine Reg.anew_cons rfl rfl (fun _ => by go_simp) ?_)); exact Reg.anew_nil))
  refine Reg.act rfl ?_
  go_wp2_with fail
  refine (c_nums [n, (l.length : Int)] (some ⟨w1.heap.size, 0, none⟩) 2 ((w1.alloc (.cells #[.int .i64 n, .int .i64 (l.length : Int)] 3)).drew) (· = w1.heap.size) (Rp.of_block (heap_alloc_new w1 _) rfl rfl (Nat.le_refl _) (by simp [maxLen]) (by
    intro a ha
    simp only [List.mem_cons, List.not_mem_nil, or_false] at ha
    rcases ha with rfl | rfl
    · exact WalkArith.wf_i64 ⟨h0, by omega⟩
    · exact WalkArith.wf_i64 ⟨by omega, by omega⟩)) (by simp)).mono ?_
  rintro e w2 ⟨rfl, hk2⟩
  have HK2 : Hid (Kp No w1 w2) := Lib.hid (((Kp.refl _ _).alloc _).drew.trans' hk2)
  clear hk2
  have d0 : w2.cell? ⟨w.heap.size, 0, none⟩ = some (.int .i64 n) := by rw [HK2.out.cell HB.out.lt (fun x => x)]; exact c0
  have d1 : w2.cell? ⟨w.heap.size, 1, none⟩ = some (.slice A l.length c) := by rw [HK2.out.cell HB.out.lt (fun x => x)]; exact c1
  go_wp2_with fail
  (refine ⟨?anew, ?_⟩; case anew => ((repeat (refine Reg.anew_cons rfl rfl (fun _ => by go_simp) ?_)); exact Reg.anew_nil))
  repeat (first | (refine Reg.look rfl rfl rfl (by go_simp; rfl) rfl ?_; go_simp) | (refine Reg.skip rfl rfl rfl ?_; go_simp))
  refine Reg.act rfl ?_
  go_wp2_with fail
  refine (c_text l A c w2 S (Rp.str.slice.keptNo HL.out (HK1.out.trans' HK2.out)) HN.out (by omega)).mono ?_
  rintro e w3 ⟨rfl, hk3⟩
  have HK3 := Lib.hid ((HK1.out.trans' HK2.out).trans' hk3)
  have hcat : bs (numsB [n, (l.length : Int)]) ++ bs (textsB l) = bs (packB n l) := by rw [bs_append, nums2]; rfl
  have hs1 : (bs (numsB [n, (l.length : Int)])).size ≤ 20 := by rw [bs_size, nums2, List.length_append]; have := HL1.out; have := HL2.out; omega
  have hs2 : (bs (textsB l)).size ≤ 1000000000 := by rw [bs_size]; exact hln
  have HCAT := Lib.hid hcat
  generalize bs (numsB [n, (l.length : Int)]) = X at *
  generalize bs (textsB l) = Y at *
  have hg : ¬ 9223372036854775807 < X.size + Y.size := by omega
  clear hk3 hcat
  go_wp2_with fail
  (refine ⟨?anew, ?_⟩; case anew => ((repeat (refine Reg.anew_cons rfl rfl (fun _ => by go_simp) ?_)); exact Reg.anew_nil))
  repeat (first | (refine Reg.look rfl rfl rfl (by go_simp; rfl) rfl ?_; go_simp) | (refine Reg.skip rfl rfl rfl ?_; go_simp))
  (refine Reg.done ?_; simp only [Exit.then])
  go_wp2
  go_ret
  exact ⟨congrArg (fun b => Ending.returned (.string b)) HCAT.out, HK3.out⟩
end Go.Proofs.Ytobgnklebfdbnaa
