/-
  redoubtlaw26.awake (layer 26): it answers true.
-/
import Derived.Test.YtamfgmlhopjppaaGK
import Derived.Test.YtamfgmlhopjppaaMod3
import Derived.Test.YtamfgmlhopjppaaRegT
namespace Go.Proofs.Ytamfgmlhopjppaa
open Go.RowKit Go.ChangeShapes Go.WideShapes Go.ChangeAt

/-- two operations without hashes, as a slice literal -/
theorem run_lit2 (w : World) (a b : OpL) : (Instr.buildSlice 32 2 #[(0, opV a (.slice none 0 0)), (1, opV b (.slice none 0 0))]).run Try.prog w = .ok (.slice (some ⟨w.heap.size, 0, none⟩) 2 2) (w.alloc (.cells (a.cells (.slice none 0 0) ++ b.cells (.slice none 0 0)).toArray 58)) := by
  unfold opV OpL.cells
  go_simp
theorem lit2_read (w : World) (a b : OpL) (ha : a.nums) (hb : b.nums) (ha2 : a.hashes = []) (hb2 : b.hashes = []) : Rp.opl.slice.R (w.alloc (.cells (a.cells (.slice none 0 0) ++ b.cells (.slice none 0 0)).toArray 58)) (fun k => k = w.heap.size) [.slice (some ⟨w.heap.size, 0, none⟩) 2 2] [a, b] := by
  have hbk := Blk.new w (a.cells (.slice none 0 0) ++ b.cells (.slice none 0 0)) 58
  refine ⟨_, _, rfl, Nat.le_refl _, by unfold maxLen; simp, fun _ => ⟨_, rfl, rfl, fun i x hi => ?_⟩⟩
  match i, hi with
  | 0, hi =>
    injection hi with hi
    subst hi
    refine ⟨a.cells (.slice none 0 0), fun j u hu => ?_, _, rfl, ha, by rw [ha2]; exact Rp.none_ _ _ _⟩
    rw [Addr.add_lit, Addr.add_lit]
    have hj := (List.getElem?_eq_some_iff.1 hu).1
    have := hbk.cell (i := j) (u := u) (by rw [List.getElem?_append_left hj]; exact hu)
    simpa using this
  | 1, hi =>
    injection hi with hi
    subst hi
    refine ⟨b.cells (.slice none 0 0), fun j u hu => ?_, _, rfl, hb, by rw [hb2]; exact Rp.none_ _ _ _⟩
    rw [Addr.add_lit, Addr.add_lit]
    have hl : (a.cells (.slice none 0 0)).length = 9 := rfl
    have := hbk.cell (i := 9 + j) (u := u) (by rw [List.getElem?_append_right (by omega), hl, Nat.add_sub_cancel_left]; exact hu)
    have h9 : Rp.opl.size = 9 := rfl
    simpa [h9] using this
  | i + 2, hi => simp at hi
theorem opA_nums : opA.nums := ⟨rfl, rfl, rfl, rfl, rfl, rfl, by decide +kernel, rfl⟩
theorem opB_nums : opB.nums := ⟨rfl, rfl, rfl, rfl, rfl, rfl, by decide +kernel, rfl⟩
theorem opC_nums : opC.nums := ⟨rfl, rfl, rfl, rfl, rfl, rfl, by decide +kernel, rfl⟩
theorem opD_nums : opD.nums := ⟨rfl, rfl, rfl, rfl, rfl, rfl, by decide +kernel, rfl⟩
/-- See of two operations that lie in a block -/
theorem see_two (a b : OpL) (ha2 : a.hashes = []) (hb2 : b.hashes = []) (g : Nat) (m : Nat) (M : MV) (F : Nat → Prop) (w : World) (hM : MAt w m M F) (hok : OkM M) (hr : Rp.opl.slice.R w (fun k => k = g) [.slice (some ⟨g, 0, none⟩) 2 2] [a, b]) :
    Calls Try.prog 7 #[.pointer (some ⟨m, 0, none⟩), .slice (some ⟨g, 0, none⟩) 2 2] w fun e w' => e = .returned (.int .i64 (seeL [a, b] M).1) ∧ ∃ F', MAt w' m (seeL [a, b] M).2 F' ∧ Upd F w w' F' :=
  m_see [a, b] (some ⟨g, 0, none⟩) 2 _ m M F w hM hok hr (by simp) (fun o ho => by
    simp only [List.mem_cons, List.not_mem_nil, or_false] at ho
    rcases ho with rfl | rfl
    · rw [ha2]; simp
    · rw [hb2]; simp)
theorem see2z : (seeL [opA, opC] (seeL [opA, opB] ⟨[], []⟩).2).1 = 0 := see2
def askR : AskL := ⟨4, 0, 0, ⟨#[97]⟩, ByteArray.empty, 0, 0⟩
theorem seeL_asks (l : List OpL) (M : MV) : (seeL l M).2.asks = M.asks := by
  unfold seeL
  split
  · rfl
  · split <;> rfl
theorem asked3 : (if askA.kind = 1 then { M2 with asks := M2.asks ++ [askA] } else M2) = M3 := by
  rw [if_pos (show askA.kind = 1 from rfl)]
  have h : M2.asks = [] := by unfold M2 M1; rw [seeL_asks, seeL_asks]
  unfold M3
  rw [h]
  rfl
set_option maxRecDepth 100000 in
set_option maxHeartbeats 40000000 in
theorem h_awake26 (w : World) : Calls Try.prog 4 #[] w fun e w' => e = .returned (.bool true) ∧ Kp No w w' := by
  have HN := Lib.hid (m_new w)
  go_enter Try.func4, Try.ntmps4
  go_wp2_with fail
  refine HN.out.mono ?_
  rintro e w1 ⟨m, F, rfl, hm, hf, hk1⟩
  have HM1 := Lib.hid hm
  have HF1 := Lib.hid hf
  have HK1 := Lib.hid hk1
  clear hm hf hk1 HN
  go_upto_region 6 with fail
  obtain ⟨y2, hy2⟩ : ∃ v, w1.heap.size = v := ⟨_, rfl⟩
  obtain ⟨y3, hy3⟩ : ∃ v, w1.heap.size + 1 = v := ⟨_, rfl⟩
  obtain ⟨wA, hwA⟩ : ∃ v, (w1.alloc (.cells #[.int .i64 1, .int .i64 1, .int .i64 3, .int .i64 0, .int .i64 0, .int .i64 0, .string { data := #[] }, .int .i64 0, .slice none 0 0] 58)).alloc (.cells #[.int .i64 2, .int .i64 1, .int .i64 1, .int .i64 0, .int .i64 0, .int .i64 1, .string { data := #[97] }, .int .i64 0, .slice none 0 0] 58) = v := ⟨_, rfl⟩
  have hkA : Kp No w1 wA := by rw [← hwA]; exact ((Kp.refl _ _).alloc _).alloc _
  have HBA : Hid (Blk wA y2 58 [.int .i64 1, .int .i64 1, .int .i64 3, .int .i64 0, .int .i64 0, .int .i64 0, .string { data := #[] }, .int .i64 0, .slice none 0 0]) := Lib.hid (by rw [← hwA, ← hy2]; exact (Blk.new w1 _ _).kept (S := No) ((Kp.refl _ _).alloc _) (fun x => x))
  have HBB : Hid (Blk wA y3 58 [.int .i64 2, .int .i64 1, .int .i64 1, .int .i64 0, .int .i64 0, .int .i64 1, .string { data := #[97] }, .int .i64 0, .slice none 0 0]) := Lib.hid (by
    have h := Blk.new (w1.alloc (.cells #[.int .i64 1, .int .i64 1, .int .i64 3, .int .i64 0, .int .i64 0, .int .i64 0, .string { data := #[] }, .int .i64 0, .slice none 0 0] 58)) [.int .i64 2, .int .i64 1, .int .i64 1, .int .i64 0, .int .i64 0, .int .i64 1, .string { data := #[97] }, .int .i64 0, .slice none 0 0] 58
    rw [← hwA, ← hy3]
    simpa using h)
  rw [hwA, hy3, hy2]
  have HMA := Lib.hid (HM1.out.keptNo hkA)
  have HFA : Hid (∀ k, F k → w.heap.size ≤ k ∧ k ≠ y2 ∧ k ≠ y3) := Lib.hid (fun k hk => ⟨HF1.out k hk, by have := HM1.out.lt hk; omega, by have := HM1.out.lt hk; omega⟩)
  have HKA := Lib.hid (HK1.out.trans' hkA)
  have HYL : Hid (w.heap.size ≤ y2 ∧ w.heap.size ≤ y3) := Lib.hid (by have := HK1.out.size; omega)
  have HYN : Hid (y2 ≠ y3) := Lib.hid (by omega)
  clear hkA hwA hy2 hy3 HM1 HF1 HK1
  go_cut [4, 5] (fun av bv wx => av = .int .i64 0 ∧ bv = .int .i64 0 ∧ ∃ F', Hid (MAt wx m M2 F') ∧ Hid (∀ k, F' k → w.heap.size ≤ k ∧ k ≠ y2 ∧ k ≠ y3) ∧ Hid (Kp No w wx) ∧ Hid (Blk wx y2 58 [.int .i64 1, .int .i64 1, .int .i64 3, .int .i64 0, .int .i64 0, .int .i64 0, .string { data := #[] }, .int .i64 0, .slice none 0 0]) ∧ Hid (Blk wx y3 58 [.int .i64 2, .int .i64 1, .int .i64 1, .int .i64 0, .int .i64 0, .int .i64 1, .string { data := #[97] }, .int .i64 0, .slice none 0 0]))
  case first =>
    obtain ⟨wd, hwd⟩ : ∃ v, wA.drew = v := ⟨_, rfl⟩
    have hkd : Kp No wA wd := by rw [← hwd]; exact (Kp.refl _ _).drew
    have HBA := Lib.hid (HBA.out.kept hkd (fun z => z))
    have HBB := Lib.hid (HBB.out.kept hkd (fun z => z))
    have HMA := Lib.hid (HMA.out.keptNo hkd)
    have HKA := Lib.hid (HKA.out.trans' hkd)
    have a0 : wd.cell? ⟨y2, 0, none⟩ = some _ := Blk.cell HBA.out rfl
    have a1 : wd.cell? ⟨y2, 1, none⟩ = some _ := Blk.cell HBA.out rfl
    have a2 : wd.cell? ⟨y2, 2, none⟩ = some _ := Blk.cell HBA.out rfl
    have a3 : wd.cell? ⟨y2, 3, none⟩ = some _ := Blk.cell HBA.out rfl
    have a4 : wd.cell? ⟨y2, 4, none⟩ = some _ := Blk.cell HBA.out rfl
    have a5 : wd.cell? ⟨y2, 5, none⟩ = some _ := Blk.cell HBA.out rfl
    have a6 : wd.cell? ⟨y2, 6, none⟩ = some _ := Blk.cell HBA.out rfl
    have a7 : wd.cell? ⟨y2, 7, none⟩ = some _ := Blk.cell HBA.out rfl
    have a8 : wd.cell? ⟨y2, 8, none⟩ = some _ := Blk.cell HBA.out rfl
    have b0 : wd.cell? ⟨y3, 0, none⟩ = some _ := Blk.cell HBB.out rfl
    have b1 : wd.cell? ⟨y3, 1, none⟩ = some _ := Blk.cell HBB.out rfl
    have b2 : wd.cell? ⟨y3, 2, none⟩ = some _ := Blk.cell HBB.out rfl
    have b3 : wd.cell? ⟨y3, 3, none⟩ = some _ := Blk.cell HBB.out rfl
    have b4 : wd.cell? ⟨y3, 4, none⟩ = some _ := Blk.cell HBB.out rfl
    have b5 : wd.cell? ⟨y3, 5, none⟩ = some _ := Blk.cell HBB.out rfl
    have b6 : wd.cell? ⟨y3, 6, none⟩ = some _ := Blk.cell HBB.out rfl
    have b7 : wd.cell? ⟨y3, 7, none⟩ = some _ := Blk.cell HBB.out rfl
    have b8 : wd.cell? ⟨y3, 8, none⟩ = some _ := Blk.cell HBB.out rfl
    refine Reg.wp_region_tree (.look 0 (.look 1 (.look 2 (.look 5 (.look 6 (.look 7 (.two 3 [6, 7] (.two 4 [6, 7] (.one 8 [] (.one 9 [] (.look 10 (.look 11 (.done))))) 8 [] (.one 4 [] (.one 9 [] (.look 10 (.look 11 (.done)))))) 8 [1, 2] (.one 3 [] (.one 4 [] (.one 9 [] (.look 10 (.look 11 (.done))))))))))))) [3, 4, 8, 9] rfl (by kernel_rfl) ?_
    rw [hwd]
    clear hwd hkd
    repeat (first | (refine Reg.lookT rfl rfl rfl (by go_simp; rfl) rfl ?_; go_simp))
    refine Reg.twoT rfl rfl ?_ ?_
    · skip
      obtain ⟨g1, hg1⟩ : ∃ v, wd.heap.size = v := ⟨_, rfl⟩
      obtain ⟨w3, hw3⟩ : ∃ v, wd.alloc (.cells #[.int .i64 1, .int .i64 1, .int .i64 3, .int .i64 0, .int .i64 0, .int .i64 0, .string { data := #[] }, .int .i64 0, .slice none 0 0, .int .i64 2, .int .i64 1, .int .i64 1, .int .i64 0, .int .i64 0, .int .i64 1, .string { data := #[97] }, .int .i64 0, .slice none 0 0] 58) = v := ⟨_, rfl⟩
      have hkv : Kp No wd w3 := by rw [← hw3]; exact (Kp.refl _ _).alloc _
      have HR1 : Hid (Rp.opl.slice.R w3 (fun k => k = g1) [.slice (some ⟨g1, 0, none⟩) 2 2] [opA, opB]) := Lib.hid (by
        have h := lit2_read wd opA opB opA_nums opB_nums rfl rfl
        rw [hg1] at h
        rw [← hw3]; exact h)
      have HG1 : Hid (∀ k, F k → k ≠ g1) := Lib.hid (fun k hk => by have := HMA.out.lt hk; omega)
      go_wp2_with fail
      clear hg1 hw3
      have HBA := Lib.hid (HBA.out.kept hkv (fun z => z))
      have HBB := Lib.hid (HBB.out.kept hkv (fun z => z))
      have HMA := Lib.hid (HMA.out.keptNo hkv)
      have HKA := Lib.hid (HKA.out.trans' hkv)
      clear a0 a1 a2 a3 a4 a5 a6 a7 a8 b0 b1 b2 b3 b4 b5 b6 b7 b8
      have a0 : w3.cell? ⟨y2, 0, none⟩ = some _ := Blk.cell HBA.out rfl
      have a1 : w3.cell? ⟨y2, 1, none⟩ = some _ := Blk.cell HBA.out rfl
      have a2 : w3.cell? ⟨y2, 2, none⟩ = some _ := Blk.cell HBA.out rfl
      have a3 : w3.cell? ⟨y2, 3, none⟩ = some _ := Blk.cell HBA.out rfl
      have a4 : w3.cell? ⟨y2, 4, none⟩ = some _ := Blk.cell HBA.out rfl
      have a5 : w3.cell? ⟨y2, 5, none⟩ = some _ := Blk.cell HBA.out rfl
      have a6 : w3.cell? ⟨y2, 6, none⟩ = some _ := Blk.cell HBA.out rfl
      have a7 : w3.cell? ⟨y2, 7, none⟩ = some _ := Blk.cell HBA.out rfl
      have a8 : w3.cell? ⟨y2, 8, none⟩ = some _ := Blk.cell HBA.out rfl
      have b0 : w3.cell? ⟨y3, 0, none⟩ = some _ := Blk.cell HBB.out rfl
      have b1 : w3.cell? ⟨y3, 1, none⟩ = some _ := Blk.cell HBB.out rfl
      have b2 : w3.cell? ⟨y3, 2, none⟩ = some _ := Blk.cell HBB.out rfl
      have b3 : w3.cell? ⟨y3, 3, none⟩ = some _ := Blk.cell HBB.out rfl
      have b4 : w3.cell? ⟨y3, 4, none⟩ = some _ := Blk.cell HBB.out rfl
      have b5 : w3.cell? ⟨y3, 5, none⟩ = some _ := Blk.cell HBB.out rfl
      have b6 : w3.cell? ⟨y3, 6, none⟩ = some _ := Blk.cell HBB.out rfl
      have b7 : w3.cell? ⟨y3, 7, none⟩ = some _ := Blk.cell HBB.out rfl
      have b8 : w3.cell? ⟨y3, 8, none⟩ = some _ := Blk.cell HBB.out rfl
      clear hkv
      (refine ⟨?anew, ?_⟩; case anew => ((repeat (refine Reg.anew_cons rfl rfl (fun _ => by go_simp) ?_)); exact Reg.anew_nil))
      repeat (first | (refine Reg.lookT rfl rfl rfl (by go_simp; rfl) rfl ?_; go_simp))
      refine Reg.twoT rfl rfl ?_ ?_
      · skip
        have hs := see_two opA opB rfl rfl _ m _ F w3 HMA.out OkM.new HR1.out
        rw [see1] at hs
        have HS := Lib.hid hs
        clear hs
        go_wp2_with fail
        refine HS.out.mono ?_
        rintro e w4 ⟨rfl, F1, hmn, hu⟩
        have HFN : Hid (∀ k, F1 k → w.heap.size ≤ k ∧ k ≠ y2 ∧ k ≠ y3) := Lib.hid (fun k hk => by
          rcases hu.foot k hk with h | h
          · exact HFA.out k h
          · have h1 := Blk.lt HBA.out
            have h2 := Blk.lt HBB.out
            have h3 := HKA.out.size
            exact ⟨by omega, by omega, by omega⟩)
        have HBA := Lib.hid (HBA.out.kept hu.kp (fun h => (HFA.out _ h).2.1 rfl))
        have HBB := Lib.hid (HBB.out.kept hu.kp (fun h => (HFA.out _ h).2.2 rfl))
        have HKA := Lib.hid (HKA.out.trans hu.kp (fun k hk h => by have := (HFA.out k h).1; omega))
        have HFA := HFN
        have HMA := Lib.hid hmn
        have HUK := Lib.hid hu.kp
        clear hmn hu HS HFN a0 a1 a2 a3 a4 a5 a6 a7 a8 b0 b1 b2 b3 b4 b5 b6 b7 b8
        have a0 : w4.cell? ⟨y2, 0, none⟩ = some _ := Blk.cell HBA.out rfl
        have a1 : w4.cell? ⟨y2, 1, none⟩ = some _ := Blk.cell HBA.out rfl
        have a2 : w4.cell? ⟨y2, 2, none⟩ = some _ := Blk.cell HBA.out rfl
        have a3 : w4.cell? ⟨y2, 3, none⟩ = some _ := Blk.cell HBA.out rfl
        have a4 : w4.cell? ⟨y2, 4, none⟩ = some _ := Blk.cell HBA.out rfl
        have a5 : w4.cell? ⟨y2, 5, none⟩ = some _ := Blk.cell HBA.out rfl
        have a6 : w4.cell? ⟨y2, 6, none⟩ = some _ := Blk.cell HBA.out rfl
        have a7 : w4.cell? ⟨y2, 7, none⟩ = some _ := Blk.cell HBA.out rfl
        have a8 : w4.cell? ⟨y2, 8, none⟩ = some _ := Blk.cell HBA.out rfl
        have b0 : w4.cell? ⟨y3, 0, none⟩ = some _ := Blk.cell HBB.out rfl
        have b1 : w4.cell? ⟨y3, 1, none⟩ = some _ := Blk.cell HBB.out rfl
        have b2 : w4.cell? ⟨y3, 2, none⟩ = some _ := Blk.cell HBB.out rfl
        have b3 : w4.cell? ⟨y3, 3, none⟩ = some _ := Blk.cell HBB.out rfl
        have b4 : w4.cell? ⟨y3, 4, none⟩ = some _ := Blk.cell HBB.out rfl
        have b5 : w4.cell? ⟨y3, 5, none⟩ = some _ := Blk.cell HBB.out rfl
        have b6 : w4.cell? ⟨y3, 6, none⟩ = some _ := Blk.cell HBB.out rfl
        have b7 : w4.cell? ⟨y3, 7, none⟩ = some _ := Blk.cell HBB.out rfl
        have b8 : w4.cell? ⟨y3, 8, none⟩ = some _ := Blk.cell HBB.out rfl
        go_wp2_with fail
        (refine ⟨?anew, ?_⟩; case anew => ((repeat (refine Reg.anew_cons rfl rfl (fun _ => by go_simp) ?_)); exact Reg.anew_nil))
        repeat (first | (refine Reg.lookT rfl rfl rfl (by go_simp; rfl) rfl ?_; go_simp))
        obtain ⟨g2, hg2⟩ : ∃ v, w4.heap.size = v := ⟨_, rfl⟩
        obtain ⟨w5, hw3⟩ : ∃ v, w4.alloc (.cells #[.int .i64 1, .int .i64 1, .int .i64 3, .int .i64 0, .int .i64 0, .int .i64 0, .string { data := #[] }, .int .i64 0, .slice none 0 0, .int .i64 2, .int .i64 2, .int .i64 3, .int .i64 0, .int .i64 0, .int .i64 0, .string { data := #[] }, .int .i64 0, .slice none 0 0] 58) = v := ⟨_, rfl⟩
        have hkv : Kp No w4 w5 := by rw [← hw3]; exact (Kp.refl _ _).alloc _
        have HR2 : Hid (Rp.opl.slice.R w5 (fun k => k = g2) [.slice (some ⟨g2, 0, none⟩) 2 2] [opA, opC]) := Lib.hid (by
          have h := lit2_read w4 opA opC opA_nums opC_nums rfl rfl
          rw [hg2] at h
          rw [← hw3]; exact h)
        have HG2 : Hid (∀ k, F1 k → k ≠ g2) := Lib.hid (fun k hk => by have := HMA.out.lt hk; omega)
        have HG2L : Hid (g2 < w5.heap.size) := Lib.hid (by rw [← hw3, ← hg2]; simp)
        refine Reg.oneT rfl ?_
        go_wp2_with fail
        clear hg2 hw3
        have HBA := Lib.hid (HBA.out.kept hkv (fun z => z))
        have HBB := Lib.hid (HBB.out.kept hkv (fun z => z))
        have HMA := Lib.hid (HMA.out.keptNo hkv)
        have HKA := Lib.hid (HKA.out.trans' hkv)
        clear a0 a1 a2 a3 a4 a5 a6 a7 a8 b0 b1 b2 b3 b4 b5 b6 b7 b8
        have a0 : w5.cell? ⟨y2, 0, none⟩ = some _ := Blk.cell HBA.out rfl
        have a1 : w5.cell? ⟨y2, 1, none⟩ = some _ := Blk.cell HBA.out rfl
        have a2 : w5.cell? ⟨y2, 2, none⟩ = some _ := Blk.cell HBA.out rfl
        have a3 : w5.cell? ⟨y2, 3, none⟩ = some _ := Blk.cell HBA.out rfl
        have a4 : w5.cell? ⟨y2, 4, none⟩ = some _ := Blk.cell HBA.out rfl
        have a5 : w5.cell? ⟨y2, 5, none⟩ = some _ := Blk.cell HBA.out rfl
        have a6 : w5.cell? ⟨y2, 6, none⟩ = some _ := Blk.cell HBA.out rfl
        have a7 : w5.cell? ⟨y2, 7, none⟩ = some _ := Blk.cell HBA.out rfl
        have a8 : w5.cell? ⟨y2, 8, none⟩ = some _ := Blk.cell HBA.out rfl
        have b0 : w5.cell? ⟨y3, 0, none⟩ = some _ := Blk.cell HBB.out rfl
        have b1 : w5.cell? ⟨y3, 1, none⟩ = some _ := Blk.cell HBB.out rfl
        have b2 : w5.cell? ⟨y3, 2, none⟩ = some _ := Blk.cell HBB.out rfl
        have b3 : w5.cell? ⟨y3, 3, none⟩ = some _ := Blk.cell HBB.out rfl
        have b4 : w5.cell? ⟨y3, 4, none⟩ = some _ := Blk.cell HBB.out rfl
        have b5 : w5.cell? ⟨y3, 5, none⟩ = some _ := Blk.cell HBB.out rfl
        have b6 : w5.cell? ⟨y3, 6, none⟩ = some _ := Blk.cell HBB.out rfl
        have b7 : w5.cell? ⟨y3, 7, none⟩ = some _ := Blk.cell HBB.out rfl
        have b8 : w5.cell? ⟨y3, 8, none⟩ = some _ := Blk.cell HBB.out rfl
        clear hkv
        (refine ⟨?anew, ?_⟩; case anew => ((repeat (refine Reg.anew_cons rfl rfl (fun _ => by go_simp) ?_)); exact Reg.anew_nil))
        repeat (first | (refine Reg.lookT rfl rfl rfl (by go_simp; rfl) rfl ?_; go_simp))
        refine Reg.oneT rfl ?_
        have hs := see_two opA opC rfl rfl _ m _ F1 w5 HMA.out (OkM.see OkM.new (by decide) (by decide)) HR2.out
        rw [see2z] at hs
        have HS := Lib.hid hs
        clear hs
        go_wp2_with fail
        refine HS.out.mono ?_
        rintro e w6 ⟨rfl, F2, hmn, hu⟩
        have HFN : Hid (∀ k, F2 k → w.heap.size ≤ k ∧ k ≠ y2 ∧ k ≠ y3) := Lib.hid (fun k hk => by
          rcases hu.foot k hk with h | h
          · exact HFA.out k h
          · have h1 := Blk.lt HBA.out
            have h2 := Blk.lt HBB.out
            have h3 := HKA.out.size
            exact ⟨by omega, by omega, by omega⟩)
        have HBA := Lib.hid (HBA.out.kept hu.kp (fun h => (HFA.out _ h).2.1 rfl))
        have HBB := Lib.hid (HBB.out.kept hu.kp (fun h => (HFA.out _ h).2.2 rfl))
        have HKA := Lib.hid (HKA.out.trans hu.kp (fun k hk h => by have := (HFA.out k h).1; omega))
        have HFA := HFN
        have HMA := Lib.hid hmn
        have HUK := Lib.hid hu.kp
        clear hmn hu HS HFN a0 a1 a2 a3 a4 a5 a6 a7 a8 b0 b1 b2 b3 b4 b5 b6 b7 b8
        have a0 : w6.cell? ⟨y2, 0, none⟩ = some _ := Blk.cell HBA.out rfl
        have a1 : w6.cell? ⟨y2, 1, none⟩ = some _ := Blk.cell HBA.out rfl
        have a2 : w6.cell? ⟨y2, 2, none⟩ = some _ := Blk.cell HBA.out rfl
        have a3 : w6.cell? ⟨y2, 3, none⟩ = some _ := Blk.cell HBA.out rfl
        have a4 : w6.cell? ⟨y2, 4, none⟩ = some _ := Blk.cell HBA.out rfl
        have a5 : w6.cell? ⟨y2, 5, none⟩ = some _ := Blk.cell HBA.out rfl
        have a6 : w6.cell? ⟨y2, 6, none⟩ = some _ := Blk.cell HBA.out rfl
        have a7 : w6.cell? ⟨y2, 7, none⟩ = some _ := Blk.cell HBA.out rfl
        have a8 : w6.cell? ⟨y2, 8, none⟩ = some _ := Blk.cell HBA.out rfl
        have b0 : w6.cell? ⟨y3, 0, none⟩ = some _ := Blk.cell HBB.out rfl
        have b1 : w6.cell? ⟨y3, 1, none⟩ = some _ := Blk.cell HBB.out rfl
        have b2 : w6.cell? ⟨y3, 2, none⟩ = some _ := Blk.cell HBB.out rfl
        have b3 : w6.cell? ⟨y3, 3, none⟩ = some _ := Blk.cell HBB.out rfl
        have b4 : w6.cell? ⟨y3, 4, none⟩ = some _ := Blk.cell HBB.out rfl
        have b5 : w6.cell? ⟨y3, 5, none⟩ = some _ := Blk.cell HBB.out rfl
        have b6 : w6.cell? ⟨y3, 6, none⟩ = some _ := Blk.cell HBB.out rfl
        have b7 : w6.cell? ⟨y3, 7, none⟩ = some _ := Blk.cell HBB.out rfl
        have b8 : w6.cell? ⟨y3, 8, none⟩ = some _ := Blk.cell HBB.out rfl
        go_wp2_with fail
        (refine ⟨?anew, ?_⟩; case anew => ((repeat (refine Reg.anew_cons rfl rfl (fun _ => by go_simp) ?_)); exact Reg.anew_nil))
        repeat (first | (refine Reg.lookT rfl rfl rfl (by go_simp; rfl) rfl ?_; go_simp))
        refine Reg.doneT ?_
        simp only [Exit.then]
        go_wp2_with fail
        go_meet
        exact ⟨rfl, rfl, F2, HMA, HFA, HKA, HBA, HBB⟩
      · skip
        obtain ⟨g2, hg2⟩ : ∃ v, w3.heap.size = v := ⟨_, rfl⟩
        obtain ⟨w5, hw3⟩ : ∃ v, w3.alloc (.cells #[.int .i64 1, .int .i64 1, .int .i64 3, .int .i64 0, .int .i64 0, .int .i64 0, .string { data := #[] }, .int .i64 0, .slice none 0 0, .int .i64 2, .int .i64 2, .int .i64 3, .int .i64 0, .int .i64 0, .int .i64 0, .string { data := #[] }, .int .i64 0, .slice none 0 0] 58) = v := ⟨_, rfl⟩
        have hkv : Kp No w3 w5 := by rw [← hw3]; exact (Kp.refl _ _).alloc _
        have HR2 : Hid (Rp.opl.slice.R w5 (fun k => k = g2) [.slice (some ⟨g2, 0, none⟩) 2 2] [opA, opC]) := Lib.hid (by
          have h := lit2_read w3 opA opC opA_nums opC_nums rfl rfl
          rw [hg2] at h
          rw [← hw3]; exact h)
        have HG2 : Hid (∀ k, F k → k ≠ g2) := Lib.hid (fun k hk => by have := HMA.out.lt hk; omega)
        have HG2L : Hid (g2 < w5.heap.size) := Lib.hid (by rw [← hw3, ← hg2]; simp)
        go_wp2_with fail
        clear hg2 hw3
        have HR1 := Lib.hid (Rp.opl.slice.keptNo HR1.out hkv)
        have HBA := Lib.hid (HBA.out.kept hkv (fun z => z))
        have HBB := Lib.hid (HBB.out.kept hkv (fun z => z))
        have HMA := Lib.hid (HMA.out.keptNo hkv)
        have HKA := Lib.hid (HKA.out.trans' hkv)
        clear a0 a1 a2 a3 a4 a5 a6 a7 a8 b0 b1 b2 b3 b4 b5 b6 b7 b8
        have a0 : w5.cell? ⟨y2, 0, none⟩ = some _ := Blk.cell HBA.out rfl
        have a1 : w5.cell? ⟨y2, 1, none⟩ = some _ := Blk.cell HBA.out rfl
        have a2 : w5.cell? ⟨y2, 2, none⟩ = some _ := Blk.cell HBA.out rfl
        have a3 : w5.cell? ⟨y2, 3, none⟩ = some _ := Blk.cell HBA.out rfl
        have a4 : w5.cell? ⟨y2, 4, none⟩ = some _ := Blk.cell HBA.out rfl
        have a5 : w5.cell? ⟨y2, 5, none⟩ = some _ := Blk.cell HBA.out rfl
        have a6 : w5.cell? ⟨y2, 6, none⟩ = some _ := Blk.cell HBA.out rfl
        have a7 : w5.cell? ⟨y2, 7, none⟩ = some _ := Blk.cell HBA.out rfl
        have a8 : w5.cell? ⟨y2, 8, none⟩ = some _ := Blk.cell HBA.out rfl
        have b0 : w5.cell? ⟨y3, 0, none⟩ = some _ := Blk.cell HBB.out rfl
        have b1 : w5.cell? ⟨y3, 1, none⟩ = some _ := Blk.cell HBB.out rfl
        have b2 : w5.cell? ⟨y3, 2, none⟩ = some _ := Blk.cell HBB.out rfl
        have b3 : w5.cell? ⟨y3, 3, none⟩ = some _ := Blk.cell HBB.out rfl
        have b4 : w5.cell? ⟨y3, 4, none⟩ = some _ := Blk.cell HBB.out rfl
        have b5 : w5.cell? ⟨y3, 5, none⟩ = some _ := Blk.cell HBB.out rfl
        have b6 : w5.cell? ⟨y3, 6, none⟩ = some _ := Blk.cell HBB.out rfl
        have b7 : w5.cell? ⟨y3, 7, none⟩ = some _ := Blk.cell HBB.out rfl
        have b8 : w5.cell? ⟨y3, 8, none⟩ = some _ := Blk.cell HBB.out rfl
        clear hkv
        (refine ⟨?anew, ?_⟩; case anew => ((repeat (refine Reg.anew_cons rfl rfl (fun _ => by go_simp) ?_)); exact Reg.anew_nil))
        repeat (first | (refine Reg.lookT rfl rfl rfl (by go_simp; rfl) rfl ?_; go_simp))
        refine Reg.oneT rfl ?_
        have hs := see_two opA opB rfl rfl _ m _ F w5 HMA.out OkM.new HR1.out
        rw [see1] at hs
        have HS := Lib.hid hs
        clear hs
        go_wp2_with fail
        refine HS.out.mono ?_
        rintro e w4 ⟨rfl, F1, hmn, hu⟩
        have HFN : Hid (∀ k, F1 k → w.heap.size ≤ k ∧ k ≠ y2 ∧ k ≠ y3) := Lib.hid (fun k hk => by
          rcases hu.foot k hk with h | h
          · exact HFA.out k h
          · have h1 := Blk.lt HBA.out
            have h2 := Blk.lt HBB.out
            have h3 := HKA.out.size
            exact ⟨by omega, by omega, by omega⟩)
        have HBA := Lib.hid (HBA.out.kept hu.kp (fun h => (HFA.out _ h).2.1 rfl))
        have HBB := Lib.hid (HBB.out.kept hu.kp (fun h => (HFA.out _ h).2.2 rfl))
        have HKA := Lib.hid (HKA.out.trans hu.kp (fun k hk h => by have := (HFA.out k h).1; omega))
        have HFA := HFN
        have HMA := Lib.hid hmn
        have HUK := Lib.hid hu.kp
        clear hmn hu HS HFN a0 a1 a2 a3 a4 a5 a6 a7 a8 b0 b1 b2 b3 b4 b5 b6 b7 b8
        have a0 : w4.cell? ⟨y2, 0, none⟩ = some _ := Blk.cell HBA.out rfl
        have a1 : w4.cell? ⟨y2, 1, none⟩ = some _ := Blk.cell HBA.out rfl
        have a2 : w4.cell? ⟨y2, 2, none⟩ = some _ := Blk.cell HBA.out rfl
        have a3 : w4.cell? ⟨y2, 3, none⟩ = some _ := Blk.cell HBA.out rfl
        have a4 : w4.cell? ⟨y2, 4, none⟩ = some _ := Blk.cell HBA.out rfl
        have a5 : w4.cell? ⟨y2, 5, none⟩ = some _ := Blk.cell HBA.out rfl
        have a6 : w4.cell? ⟨y2, 6, none⟩ = some _ := Blk.cell HBA.out rfl
        have a7 : w4.cell? ⟨y2, 7, none⟩ = some _ := Blk.cell HBA.out rfl
        have a8 : w4.cell? ⟨y2, 8, none⟩ = some _ := Blk.cell HBA.out rfl
        have b0 : w4.cell? ⟨y3, 0, none⟩ = some _ := Blk.cell HBB.out rfl
        have b1 : w4.cell? ⟨y3, 1, none⟩ = some _ := Blk.cell HBB.out rfl
        have b2 : w4.cell? ⟨y3, 2, none⟩ = some _ := Blk.cell HBB.out rfl
        have b3 : w4.cell? ⟨y3, 3, none⟩ = some _ := Blk.cell HBB.out rfl
        have b4 : w4.cell? ⟨y3, 4, none⟩ = some _ := Blk.cell HBB.out rfl
        have b5 : w4.cell? ⟨y3, 5, none⟩ = some _ := Blk.cell HBB.out rfl
        have b6 : w4.cell? ⟨y3, 6, none⟩ = some _ := Blk.cell HBB.out rfl
        have b7 : w4.cell? ⟨y3, 7, none⟩ = some _ := Blk.cell HBB.out rfl
        have b8 : w4.cell? ⟨y3, 8, none⟩ = some _ := Blk.cell HBB.out rfl
        have HR2 := Lib.hid (Rp.opl.slice.kept HR2.out HUK.out (fun k hk _ h => HG2.out k h hk))
        go_wp2_with fail
        (refine ⟨?anew, ?_⟩; case anew => ((repeat (refine Reg.anew_cons rfl rfl (fun _ => by go_simp) ?_)); exact Reg.anew_nil))
        repeat (first | (refine Reg.lookT rfl rfl rfl (by go_simp; rfl) rfl ?_; go_simp))
        refine Reg.oneT rfl ?_
        have hs := see_two opA opC rfl rfl _ m _ F1 w4 HMA.out (OkM.see OkM.new (by decide) (by decide)) HR2.out
        rw [see2z] at hs
        have HS := Lib.hid hs
        clear hs
        go_wp2_with fail
        refine HS.out.mono ?_
        rintro e w6 ⟨rfl, F2, hmn, hu⟩
        have HFN : Hid (∀ k, F2 k → w.heap.size ≤ k ∧ k ≠ y2 ∧ k ≠ y3) := Lib.hid (fun k hk => by
          rcases hu.foot k hk with h | h
          · exact HFA.out k h
          · have h1 := Blk.lt HBA.out
            have h2 := Blk.lt HBB.out
            have h3 := HKA.out.size
            exact ⟨by omega, by omega, by omega⟩)
        have HBA := Lib.hid (HBA.out.kept hu.kp (fun h => (HFA.out _ h).2.1 rfl))
        have HBB := Lib.hid (HBB.out.kept hu.kp (fun h => (HFA.out _ h).2.2 rfl))
        have HKA := Lib.hid (HKA.out.trans hu.kp (fun k hk h => by have := (HFA.out k h).1; omega))
        have HFA := HFN
        have HMA := Lib.hid hmn
        have HUK := Lib.hid hu.kp
        clear hmn hu HS HFN a0 a1 a2 a3 a4 a5 a6 a7 a8 b0 b1 b2 b3 b4 b5 b6 b7 b8
        have a0 : w6.cell? ⟨y2, 0, none⟩ = some _ := Blk.cell HBA.out rfl
        have a1 : w6.cell? ⟨y2, 1, none⟩ = some _ := Blk.cell HBA.out rfl
        have a2 : w6.cell? ⟨y2, 2, none⟩ = some _ := Blk.cell HBA.out rfl
        have a3 : w6.cell? ⟨y2, 3, none⟩ = some _ := Blk.cell HBA.out rfl
        have a4 : w6.cell? ⟨y2, 4, none⟩ = some _ := Blk.cell HBA.out rfl
        have a5 : w6.cell? ⟨y2, 5, none⟩ = some _ := Blk.cell HBA.out rfl
        have a6 : w6.cell? ⟨y2, 6, none⟩ = some _ := Blk.cell HBA.out rfl
        have a7 : w6.cell? ⟨y2, 7, none⟩ = some _ := Blk.cell HBA.out rfl
        have a8 : w6.cell? ⟨y2, 8, none⟩ = some _ := Blk.cell HBA.out rfl
        have b0 : w6.cell? ⟨y3, 0, none⟩ = some _ := Blk.cell HBB.out rfl
        have b1 : w6.cell? ⟨y3, 1, none⟩ = some _ := Blk.cell HBB.out rfl
        have b2 : w6.cell? ⟨y3, 2, none⟩ = some _ := Blk.cell HBB.out rfl
        have b3 : w6.cell? ⟨y3, 3, none⟩ = some _ := Blk.cell HBB.out rfl
        have b4 : w6.cell? ⟨y3, 4, none⟩ = some _ := Blk.cell HBB.out rfl
        have b5 : w6.cell? ⟨y3, 5, none⟩ = some _ := Blk.cell HBB.out rfl
        have b6 : w6.cell? ⟨y3, 6, none⟩ = some _ := Blk.cell HBB.out rfl
        have b7 : w6.cell? ⟨y3, 7, none⟩ = some _ := Blk.cell HBB.out rfl
        have b8 : w6.cell? ⟨y3, 8, none⟩ = some _ := Blk.cell HBB.out rfl
        go_wp2_with fail
        (refine ⟨?anew, ?_⟩; case anew => ((repeat (refine Reg.anew_cons rfl rfl (fun _ => by go_simp) ?_)); exact Reg.anew_nil))
        repeat (first | (refine Reg.lookT rfl rfl rfl (by go_simp; rfl) rfl ?_; go_simp))
        refine Reg.doneT ?_
        simp only [Exit.then]
        go_wp2_with fail
        go_meet
        exact ⟨rfl, rfl, F2, HMA, HFA, HKA, HBA, HBB⟩
    · skip
      obtain ⟨g2, hg2⟩ : ∃ v, wd.heap.size = v := ⟨_, rfl⟩
      obtain ⟨w3, hw3⟩ : ∃ v, wd.alloc (.cells #[.int .i64 1, .int .i64 1, .int .i64 3, .int .i64 0, .int .i64 0, .int .i64 0, .string { data := #[] }, .int .i64 0, .slice none 0 0, .int .i64 2, .int .i64 2, .int .i64 3, .int .i64 0, .int .i64 0, .int .i64 0, .string { data := #[] }, .int .i64 0, .slice none 0 0] 58) = v := ⟨_, rfl⟩
      have hkv : Kp No wd w3 := by rw [← hw3]; exact (Kp.refl _ _).alloc _
      have HR2 : Hid (Rp.opl.slice.R w3 (fun k => k = g2) [.slice (some ⟨g2, 0, none⟩) 2 2] [opA, opC]) := Lib.hid (by
        have h := lit2_read wd opA opC opA_nums opC_nums rfl rfl
        rw [hg2] at h
        rw [← hw3]; exact h)
      have HG2 : Hid (∀ k, F k → k ≠ g2) := Lib.hid (fun k hk => by have := HMA.out.lt hk; omega)
      have HG2L : Hid (g2 < w3.heap.size) := Lib.hid (by rw [← hw3, ← hg2]; simp)
      go_wp2_with fail
      clear hg2 hw3
      have HBA := Lib.hid (HBA.out.kept hkv (fun z => z))
      have HBB := Lib.hid (HBB.out.kept hkv (fun z => z))
      have HMA := Lib.hid (HMA.out.keptNo hkv)
      have HKA := Lib.hid (HKA.out.trans' hkv)
      clear a0 a1 a2 a3 a4 a5 a6 a7 a8 b0 b1 b2 b3 b4 b5 b6 b7 b8
      have a0 : w3.cell? ⟨y2, 0, none⟩ = some _ := Blk.cell HBA.out rfl
      have a1 : w3.cell? ⟨y2, 1, none⟩ = some _ := Blk.cell HBA.out rfl
      have a2 : w3.cell? ⟨y2, 2, none⟩ = some _ := Blk.cell HBA.out rfl
      have a3 : w3.cell? ⟨y2, 3, none⟩ = some _ := Blk.cell HBA.out rfl
      have a4 : w3.cell? ⟨y2, 4, none⟩ = some _ := Blk.cell HBA.out rfl
      have a5 : w3.cell? ⟨y2, 5, none⟩ = some _ := Blk.cell HBA.out rfl
      have a6 : w3.cell? ⟨y2, 6, none⟩ = some _ := Blk.cell HBA.out rfl
      have a7 : w3.cell? ⟨y2, 7, none⟩ = some _ := Blk.cell HBA.out rfl
      have a8 : w3.cell? ⟨y2, 8, none⟩ = some _ := Blk.cell HBA.out rfl
      have b0 : w3.cell? ⟨y3, 0, none⟩ = some _ := Blk.cell HBB.out rfl
      have b1 : w3.cell? ⟨y3, 1, none⟩ = some _ := Blk.cell HBB.out rfl
      have b2 : w3.cell? ⟨y3, 2, none⟩ = some _ := Blk.cell HBB.out rfl
      have b3 : w3.cell? ⟨y3, 3, none⟩ = some _ := Blk.cell HBB.out rfl
      have b4 : w3.cell? ⟨y3, 4, none⟩ = some _ := Blk.cell HBB.out rfl
      have b5 : w3.cell? ⟨y3, 5, none⟩ = some _ := Blk.cell HBB.out rfl
      have b6 : w3.cell? ⟨y3, 6, none⟩ = some _ := Blk.cell HBB.out rfl
      have b7 : w3.cell? ⟨y3, 7, none⟩ = some _ := Blk.cell HBB.out rfl
      have b8 : w3.cell? ⟨y3, 8, none⟩ = some _ := Blk.cell HBB.out rfl
      clear hkv
      (refine ⟨?anew, ?_⟩; case anew => ((repeat (refine Reg.anew_cons rfl rfl (fun _ => by go_simp) ?_)); exact Reg.anew_nil))
      repeat (first | (refine Reg.lookT rfl rfl rfl (by go_simp; rfl) rfl ?_; go_simp))
      obtain ⟨g1, hg1⟩ : ∃ v, w3.heap.size = v := ⟨_, rfl⟩
      obtain ⟨w5, hw3⟩ : ∃ v, w3.alloc (.cells #[.int .i64 1, .int .i64 1, .int .i64 3, .int .i64 0, .int .i64 0, .int .i64 0, .string { data := #[] }, .int .i64 0, .slice none 0 0, .int .i64 2, .int .i64 1, .int .i64 1, .int .i64 0, .int .i64 0, .int .i64 1, .string { data := #[97] }, .int .i64 0, .slice none 0 0] 58) = v := ⟨_, rfl⟩
      have hkv : Kp No w3 w5 := by rw [← hw3]; exact (Kp.refl _ _).alloc _
      have HR1 : Hid (Rp.opl.slice.R w5 (fun k => k = g1) [.slice (some ⟨g1, 0, none⟩) 2 2] [opA, opB]) := Lib.hid (by
        have h := lit2_read w3 opA opB opA_nums opB_nums rfl rfl
        rw [hg1] at h
        rw [← hw3]; exact h)
      have HG1 : Hid (∀ k, F k → k ≠ g1) := Lib.hid (fun k hk => by have := HMA.out.lt hk; omega)
      refine Reg.oneT rfl ?_
      go_wp2_with fail
      clear hg1 hw3
      have HR2 := Lib.hid (Rp.opl.slice.keptNo HR2.out hkv)
      have HBA := Lib.hid (HBA.out.kept hkv (fun z => z))
      have HBB := Lib.hid (HBB.out.kept hkv (fun z => z))
      have HMA := Lib.hid (HMA.out.keptNo hkv)
      have HKA := Lib.hid (HKA.out.trans' hkv)
      clear a0 a1 a2 a3 a4 a5 a6 a7 a8 b0 b1 b2 b3 b4 b5 b6 b7 b8
      have a0 : w5.cell? ⟨y2, 0, none⟩ = some _ := Blk.cell HBA.out rfl
      have a1 : w5.cell? ⟨y2, 1, none⟩ = some _ := Blk.cell HBA.out rfl
      have a2 : w5.cell? ⟨y2, 2, none⟩ = some _ := Blk.cell HBA.out rfl
      have a3 : w5.cell? ⟨y2, 3, none⟩ = some _ := Blk.cell HBA.out rfl
      have a4 : w5.cell? ⟨y2, 4, none⟩ = some _ := Blk.cell HBA.out rfl
      have a5 : w5.cell? ⟨y2, 5, none⟩ = some _ := Blk.cell HBA.out rfl
      have a6 : w5.cell? ⟨y2, 6, none⟩ = some _ := Blk.cell HBA.out rfl
      have a7 : w5.cell? ⟨y2, 7, none⟩ = some _ := Blk.cell HBA.out rfl
      have a8 : w5.cell? ⟨y2, 8, none⟩ = some _ := Blk.cell HBA.out rfl
      have b0 : w5.cell? ⟨y3, 0, none⟩ = some _ := Blk.cell HBB.out rfl
      have b1 : w5.cell? ⟨y3, 1, none⟩ = some _ := Blk.cell HBB.out rfl
      have b2 : w5.cell? ⟨y3, 2, none⟩ = some _ := Blk.cell HBB.out rfl
      have b3 : w5.cell? ⟨y3, 3, none⟩ = some _ := Blk.cell HBB.out rfl
      have b4 : w5.cell? ⟨y3, 4, none⟩ = some _ := Blk.cell HBB.out rfl
      have b5 : w5.cell? ⟨y3, 5, none⟩ = some _ := Blk.cell HBB.out rfl
      have b6 : w5.cell? ⟨y3, 6, none⟩ = some _ := Blk.cell HBB.out rfl
      have b7 : w5.cell? ⟨y3, 7, none⟩ = some _ := Blk.cell HBB.out rfl
      have b8 : w5.cell? ⟨y3, 8, none⟩ = some _ := Blk.cell HBB.out rfl
      clear hkv
      (refine ⟨?anew, ?_⟩; case anew => ((repeat (refine Reg.anew_cons rfl rfl (fun _ => by go_simp) ?_)); exact Reg.anew_nil))
      repeat (first | (refine Reg.lookT rfl rfl rfl (by go_simp; rfl) rfl ?_; go_simp))
      refine Reg.oneT rfl ?_
      have hs := see_two opA opB rfl rfl _ m _ F w5 HMA.out OkM.new HR1.out
      rw [see1] at hs
      have HS := Lib.hid hs
      clear hs
      go_wp2_with fail
      refine HS.out.mono ?_
      rintro e w4 ⟨rfl, F1, hmn, hu⟩
      have HFN : Hid (∀ k, F1 k → w.heap.size ≤ k ∧ k ≠ y2 ∧ k ≠ y3) := Lib.hid (fun k hk => by
        rcases hu.foot k hk with h | h
        · exact HFA.out k h
        · have h1 := Blk.lt HBA.out
          have h2 := Blk.lt HBB.out
          have h3 := HKA.out.size
          exact ⟨by omega, by omega, by omega⟩)
      have HBA := Lib.hid (HBA.out.kept hu.kp (fun h => (HFA.out _ h).2.1 rfl))
      have HBB := Lib.hid (HBB.out.kept hu.kp (fun h => (HFA.out _ h).2.2 rfl))
      have HKA := Lib.hid (HKA.out.trans hu.kp (fun k hk h => by have := (HFA.out k h).1; omega))
      have HFA := HFN
      have HMA := Lib.hid hmn
      have HUK := Lib.hid hu.kp
      clear hmn hu HS HFN a0 a1 a2 a3 a4 a5 a6 a7 a8 b0 b1 b2 b3 b4 b5 b6 b7 b8
      have a0 : w4.cell? ⟨y2, 0, none⟩ = some _ := Blk.cell HBA.out rfl
      have a1 : w4.cell? ⟨y2, 1, none⟩ = some _ := Blk.cell HBA.out rfl
      have a2 : w4.cell? ⟨y2, 2, none⟩ = some _ := Blk.cell HBA.out rfl
      have a3 : w4.cell? ⟨y2, 3, none⟩ = some _ := Blk.cell HBA.out rfl
      have a4 : w4.cell? ⟨y2, 4, none⟩ = some _ := Blk.cell HBA.out rfl
      have a5 : w4.cell? ⟨y2, 5, none⟩ = some _ := Blk.cell HBA.out rfl
      have a6 : w4.cell? ⟨y2, 6, none⟩ = some _ := Blk.cell HBA.out rfl
      have a7 : w4.cell? ⟨y2, 7, none⟩ = some _ := Blk.cell HBA.out rfl
      have a8 : w4.cell? ⟨y2, 8, none⟩ = some _ := Blk.cell HBA.out rfl
      have b0 : w4.cell? ⟨y3, 0, none⟩ = some _ := Blk.cell HBB.out rfl
      have b1 : w4.cell? ⟨y3, 1, none⟩ = some _ := Blk.cell HBB.out rfl
      have b2 : w4.cell? ⟨y3, 2, none⟩ = some _ := Blk.cell HBB.out rfl
      have b3 : w4.cell? ⟨y3, 3, none⟩ = some _ := Blk.cell HBB.out rfl
      have b4 : w4.cell? ⟨y3, 4, none⟩ = some _ := Blk.cell HBB.out rfl
      have b5 : w4.cell? ⟨y3, 5, none⟩ = some _ := Blk.cell HBB.out rfl
      have b6 : w4.cell? ⟨y3, 6, none⟩ = some _ := Blk.cell HBB.out rfl
      have b7 : w4.cell? ⟨y3, 7, none⟩ = some _ := Blk.cell HBB.out rfl
      have b8 : w4.cell? ⟨y3, 8, none⟩ = some _ := Blk.cell HBB.out rfl
      have HR2 := Lib.hid (Rp.opl.slice.kept HR2.out HUK.out (fun k hk _ h => HG2.out k h hk))
      go_wp2_with fail
      (refine ⟨?anew, ?_⟩; case anew => ((repeat (refine Reg.anew_cons rfl rfl (fun _ => by go_simp) ?_)); exact Reg.anew_nil))
      repeat (first | (refine Reg.lookT rfl rfl rfl (by go_simp; rfl) rfl ?_; go_simp))
      refine Reg.oneT rfl ?_
      have hs := see_two opA opC rfl rfl _ m _ F1 w4 HMA.out (OkM.see OkM.new (by decide) (by decide)) HR2.out
      rw [see2z] at hs
      have HS := Lib.hid hs
      clear hs
      go_wp2_with fail
      refine HS.out.mono ?_
      rintro e w6 ⟨rfl, F2, hmn, hu⟩
      have HFN : Hid (∀ k, F2 k → w.heap.size ≤ k ∧ k ≠ y2 ∧ k ≠ y3) := Lib.hid (fun k hk => by
        rcases hu.foot k hk with h | h
        · exact HFA.out k h
        · have h1 := Blk.lt HBA.out
          have h2 := Blk.lt HBB.out
          have h3 := HKA.out.size
          exact ⟨by omega, by omega, by omega⟩)
      have HBA := Lib.hid (HBA.out.kept hu.kp (fun h => (HFA.out _ h).2.1 rfl))
      have HBB := Lib.hid (HBB.out.kept hu.kp (fun h => (HFA.out _ h).2.2 rfl))
      have HKA := Lib.hid (HKA.out.trans hu.kp (fun k hk h => by have := (HFA.out k h).1; omega))
      have HFA := HFN
      have HMA := Lib.hid hmn
      have HUK := Lib.hid hu.kp
      clear hmn hu HS HFN a0 a1 a2 a3 a4 a5 a6 a7 a8 b0 b1 b2 b3 b4 b5 b6 b7 b8
      have a0 : w6.cell? ⟨y2, 0, none⟩ = some _ := Blk.cell HBA.out rfl
      have a1 : w6.cell? ⟨y2, 1, none⟩ = some _ := Blk.cell HBA.out rfl
      have a2 : w6.cell? ⟨y2, 2, none⟩ = some _ := Blk.cell HBA.out rfl
      have a3 : w6.cell? ⟨y2, 3, none⟩ = some _ := Blk.cell HBA.out rfl
      have a4 : w6.cell? ⟨y2, 4, none⟩ = some _ := Blk.cell HBA.out rfl
      have a5 : w6.cell? ⟨y2, 5, none⟩ = some _ := Blk.cell HBA.out rfl
      have a6 : w6.cell? ⟨y2, 6, none⟩ = some _ := Blk.cell HBA.out rfl
      have a7 : w6.cell? ⟨y2, 7, none⟩ = some _ := Blk.cell HBA.out rfl
      have a8 : w6.cell? ⟨y2, 8, none⟩ = some _ := Blk.cell HBA.out rfl
      have b0 : w6.cell? ⟨y3, 0, none⟩ = some _ := Blk.cell HBB.out rfl
      have b1 : w6.cell? ⟨y3, 1, none⟩ = some _ := Blk.cell HBB.out rfl
      have b2 : w6.cell? ⟨y3, 2, none⟩ = some _ := Blk.cell HBB.out rfl
      have b3 : w6.cell? ⟨y3, 3, none⟩ = some _ := Blk.cell HBB.out rfl
      have b4 : w6.cell? ⟨y3, 4, none⟩ = some _ := Blk.cell HBB.out rfl
      have b5 : w6.cell? ⟨y3, 5, none⟩ = some _ := Blk.cell HBB.out rfl
      have b6 : w6.cell? ⟨y3, 6, none⟩ = some _ := Blk.cell HBB.out rfl
      have b7 : w6.cell? ⟨y3, 7, none⟩ = some _ := Blk.cell HBB.out rfl
      have b8 : w6.cell? ⟨y3, 8, none⟩ = some _ := Blk.cell HBB.out rfl
      go_wp2_with fail
      (refine ⟨?anew, ?_⟩; case anew => ((repeat (refine Reg.anew_cons rfl rfl (fun _ => by go_simp) ?_)); exact Reg.anew_nil))
      repeat (first | (refine Reg.lookT rfl rfl rfl (by go_simp; rfl) rfl ?_; go_simp))
      refine Reg.doneT ?_
      simp only [Exit.then]
      go_wp2_with fail
      go_meet
      exact ⟨rfl, rfl, F2, HMA, HFA, HKA, HBA, HBB⟩
  case rest =>
    obtain ⟨rfl, rfl, F2, HM2, HF2, HK2, HBA, HBB⟩ := hcut
    have b6 : wc.cell? ⟨y3, 6, none⟩ = some _ := Blk.cell HBB.out rfl
    have g6 := Blk.fr HBB.out 6
    obtain ⟨w7, hw7⟩ : ∃ v, wc.setCell ⟨y3, 6, none⟩ (.string { data := #[98] }) = v := ⟨_, rfl⟩
    have hk7 : Kp (· = y3) wc w7 := by rw [← hw7]; exact (Kp.refl (· = y3) wc).setCell (p := ⟨y3, 6, none⟩) (fun _ => rfl) _
    have hby := HYN.out
    have HBA := Lib.hid (HBA.out.kept hk7 hby)
    have HBB : Hid (Blk w7 y3 58 [.int .i64 2, .int .i64 1, .int .i64 1, .int .i64 0, .int .i64 0, .int .i64 1, .string { data := #[98] }, .int .i64 0, .slice none 0 0]) := Lib.hid (by rw [← hw7]; exact Blk.set HBB.out 6 (.string { data := #[98] }))
    have HM7 := Lib.hid (HM2.out.kept hk7 (fun k hk e => (HF2.out k hk).2.2 e))
    have HK7 : Hid (Kp No w w7) := Lib.hid (HK2.out.trans hk7 (fun k hk e => by have := HYL.out; omega))
    obtain ⟨g3, hg3⟩ : ∃ v, w7.heap.size = v := ⟨_, rfl⟩
    obtain ⟨w8, hw8⟩ : ∃ v, w7.alloc (.cells #[.int .i64 1, .int .i64 1, .int .i64 3, .int .i64 0, .int .i64 0, .int .i64 0, .string { data := #[] }, .int .i64 0, .slice none 0 0, .int .i64 2, .int .i64 1, .int .i64 1, .int .i64 0, .int .i64 0, .int .i64 1, .string { data := #[98] }, .int .i64 0, .slice none 0 0] 58) = v := ⟨_, rfl⟩
    have hk8 : Kp No w7 w8 := by rw [← hw8]; exact (Kp.refl _ _).alloc _
    have hr3 : Rp.opl.slice.R w8 (fun k => k = g3) [.slice (some ⟨g3, 0, none⟩) 2 2] [opA, opD] := by
      have h := lit2_read w7 opA opD opA_nums opD_nums rfl rfl
      rw [hg3] at h
      rw [← hw8]; exact h
    have hs := see_two opA opD rfl rfl g3 m M2 F2 w8 (HM7.out.keptNo hk8) (OkM.see (OkM.see OkM.new (by decide) (by decide)) (by decide) (by decide)) hr3
    rw [see3] at hs
    have HS := Lib.hid hs
    have HK8 := Lib.hid (HK7.out.trans' hk8)
    have a0 : w7.cell? ⟨y2, 0, none⟩ = some _ := Blk.cell HBA.out rfl
    have a1 : w7.cell? ⟨y2, 1, none⟩ = some _ := Blk.cell HBA.out rfl
    have a2 : w7.cell? ⟨y2, 2, none⟩ = some _ := Blk.cell HBA.out rfl
    have a3 : w7.cell? ⟨y2, 3, none⟩ = some _ := Blk.cell HBA.out rfl
    have a4 : w7.cell? ⟨y2, 4, none⟩ = some _ := Blk.cell HBA.out rfl
    have a5 : w7.cell? ⟨y2, 5, none⟩ = some _ := Blk.cell HBA.out rfl
    have a6 : w7.cell? ⟨y2, 6, none⟩ = some _ := Blk.cell HBA.out rfl
    have a7 : w7.cell? ⟨y2, 7, none⟩ = some _ := Blk.cell HBA.out rfl
    have a8 : w7.cell? ⟨y2, 8, none⟩ = some _ := Blk.cell HBA.out rfl
    have b0 : w7.cell? ⟨y3, 0, none⟩ = some _ := Blk.cell HBB.out rfl
    have b1 : w7.cell? ⟨y3, 1, none⟩ = some _ := Blk.cell HBB.out rfl
    have b2 : w7.cell? ⟨y3, 2, none⟩ = some _ := Blk.cell HBB.out rfl
    have b3 : w7.cell? ⟨y3, 3, none⟩ = some _ := Blk.cell HBB.out rfl
    have b4 : w7.cell? ⟨y3, 4, none⟩ = some _ := Blk.cell HBB.out rfl
    have b5 : w7.cell? ⟨y3, 5, none⟩ = some _ := Blk.cell HBB.out rfl
    have b6 : w7.cell? ⟨y3, 6, none⟩ = some _ := Blk.cell HBB.out rfl
    have b7 : w7.cell? ⟨y3, 7, none⟩ = some _ := Blk.cell HBB.out rfl
    have b8 : w7.cell? ⟨y3, 8, none⟩ = some _ := Blk.cell HBB.out rfl
    clear hk7 hk8 hr3 hs
    go_wp2_with fail
    refine HS.out.mono ?_
    rintro e w9 ⟨rfl, F3, hm9, hu9⟩
    have HM9 := Lib.hid hm9
    have HFL : Hid (∀ k, F3 k → k < w9.heap.size) := Lib.hid (fun k hk => hm9.lt hk)
    have HK9 := Lib.hid (HK8.out.trans hu9.kp (fun k hk h => by have := (HF2.out k h).1; omega))
    have HF9 : Hid (∀ k, F3 k → w.heap.size ≤ k) := Lib.hid (fun k hk => by
      rcases hu9.foot k hk with h | h
      · exact (HF2.out k h).1
      · have := HK8.out.size; omega)
    have hok2 : OkM M2 := OkM.see (OkM.see OkM.new (by decide) (by decide)) (by decide) (by decide)
    have HO2 := Lib.hid hok2
    have hna := m_names (2, 1) m M2 F3 w9 hm9 hok2
    rw [names_a, path_a] at hna
    unfold spotV at hna
    have HNA := Lib.hid hna
    clear hm9 hu9 hna hok2 HS HBA HBB HM2 HF2 HM7 b6 g6 hg3 hw8 hw7 a0 a1 a2 a3 a4 a5 a6 a7 a8 b0 b1 b2 b3 b4 b5 b7 b8
    go_wp2_with fail
    refine HNA.out.mono ?_
    rintro e w10 ⟨A, c, rfl, hown, hk10⟩
    have HRN : Hid (Rp.str.slice.R w10 (fun k => w9.heap.size ≤ k) [.slice A 1 c] [⟨#[97]⟩]) := Lib.hid (Rp.str.slice.more hown.readFrom (fun k hk => by
      rcases hk with hk | hk
      · exact hk.elim
      · exact hk))
    have HM10 := Lib.hid (HM9.out.keptNo hk10)
    have HK10 := Lib.hid (HK9.out.trans' hk10)
    have hnb := m_names (3, 1) m M2 F3 w10 HM10.out HO2.out
    rw [path_b] at hnb
    unfold spotV at hnb
    have HNB := Lib.hid hnb
    clear hown hk10 hnb HNA HM9 HK9
    go_wp2_with fail
    refine HNB.out.mono ?_
    rintro e w11 ⟨A2, c2, rfl, _, hk11⟩
    have HRN2 := Lib.hid (Rp.str.slice.keptNo HRN.out hk11)
    have HM11 := Lib.hid (HM10.out.keptNo hk11)
    have HK11 := Lib.hid (HK10.out.trans' hk11)
    have hak := m_asked askA m M2 F3 w11 HM11.out ⟨rfl, rfl, rfl, by decide +kernel, by decide +kernel, rfl, rfl⟩ (by decide +kernel)
    unfold askV at hak
    have HAK := Lib.hid hak
    clear hk11 hak HNB HM10 HK10 HRN
    go_wp2_with fail
    refine HAK.out.mono ?_
    rintro e w12 ⟨rfl, F4, hm12, hu12⟩
    rw [asked3] at hm12
    have HK12 := Lib.hid (HK11.out.trans hu12.kp (fun k hk h => by have := HF9.out k h; omega))
    have HRN3 : Hid (Rp.str.slice.R w12 (fun k => w9.heap.size ≤ k) [.slice A 1 c] [⟨#[97]⟩]) := Lib.hid (Rp.str.slice.kept HRN2.out hu12.kp (fun k hk _ h => by have := HFL.out k h; omega))
    have HM12 := Lib.hid hm12
    clear hm12 hu12 HAK HM11 HK11 HRN2
    go_upto_region 13 with fail
    obtain ⟨z, hz⟩ : ∃ v, w12.heap.size = v := ⟨_, rfl⟩
    obtain ⟨w13, hw13⟩ : ∃ v, w12.alloc (.cells #[.int .i64 4, .int .i64 0, .int .i64 0, .string { data := #[97] }, .string { data := #[] }, .int .i64 0, .int .i64 0] 34) = v := ⟨_, rfl⟩
    have hk13 : Kp No w12 w13 := by rw [← hw13]; exact (Kp.refl _ _).alloc _
    have hbz : Blk w13 z 34 [.int .i64 4, .int .i64 0, .int .i64 0, .string { data := #[97] }, .string { data := #[] }, .int .i64 0, .int .i64 0] := by rw [← hw13, ← hz]; exact Blk.new w12 _ _
    rw [hw13, hz]
    obtain ⟨wd, hwd⟩ : ∃ v, w13.drew = v := ⟨_, rfl⟩
    have hkd : Kp No w13 wd := by rw [← hwd]; exact (Kp.refl _ _).drew
    have HBZ := Lib.hid (hbz.kept hkd (fun z => z))
    have HMD := Lib.hid ((HM12.out.keptNo hk13).keptNo hkd)
    have HKD := Lib.hid ((HK12.out.trans' hk13).trans' hkd)
    have HRN4 := Lib.hid (Rp.str.slice.keptNo HRN3.out (hk13.trans' hkd))
    have hj := fun (W : World) (hk : Kp No wd W) => m_judge4 askR rfl (2, 1) m M3 F4 W (HMD.out.keptNo hk) (OkM.asked HO2.out _)
    have hj2 := fun (W : World) (hk : Kp No wd W) => m_judge4 askR rfl (2, 2) m M3 F4 W (HMD.out.keptNo hk) (OkM.asked HO2.out _)
    have ea : judge4 M3 (2, 1) askR.name = 0 := judge_a
    have eb : judge4 M3 (2, 2) askR.name = 200 := judge_b
    simp only [ea] at hj
    simp only [eb] at hj2
    unfold askV at hj hj2
    have HJ := Lib.hid hj
    have HJ2 := Lib.hid hj2
    clear hk13 hbz hkd hj hj2 ea eb hw13 hz HM12 HK12
    have z0 : wd.cell? ⟨z, 0, none⟩ = some _ := Blk.cell HBZ.out rfl
    have z1 : wd.cell? ⟨z, 1, none⟩ = some _ := Blk.cell HBZ.out rfl
    have z2 : wd.cell? ⟨z, 2, none⟩ = some _ := Blk.cell HBZ.out rfl
    have z3 : wd.cell? ⟨z, 3, none⟩ = some _ := Blk.cell HBZ.out rfl
    have z4 : wd.cell? ⟨z, 4, none⟩ = some _ := Blk.cell HBZ.out rfl
    have z5 : wd.cell? ⟨z, 5, none⟩ = some _ := Blk.cell HBZ.out rfl
    have z6 : wd.cell? ⟨z, 6, none⟩ = some _ := Blk.cell HBZ.out rfl
    refine Reg.wp_region_plan [⟨0, false, []⟩, ⟨1, false, []⟩, ⟨2, false, []⟩, ⟨3, false, []⟩, ⟨5, false, []⟩, ⟨6, false, []⟩, ⟨7, false, []⟩, ⟨8, false, []⟩, ⟨4, true, [6, 7, 8]⟩, ⟨9, true, []⟩, ⟨10, false, []⟩, ⟨11, false, []⟩] rfl (by kernel_rfl) ?_
    rw [hwd]
    clear hwd
    repeat (first | (refine Reg.look rfl rfl rfl (by go_simp; rfl) rfl ?_; go_simp) | (refine Reg.skip rfl rfl rfl ?_; go_simp))
    refine Reg.act rfl ?_
    go_wp2_with fail
    refine (HJ.out wd (Kp.refl _ _)).mono ?_
    rintro e w14 ⟨rfl, hk14⟩
    have HKE := Lib.hid hk14
    have HBZ := Lib.hid (HBZ.out.kept hk14 (fun z => z))
    clear z0 z1 z2 z3 z4 z5 z6 hk14
    have z0 : w14.cell? ⟨z, 0, none⟩ = some _ := Blk.cell HBZ.out rfl
    have z1 : w14.cell? ⟨z, 1, none⟩ = some _ := Blk.cell HBZ.out rfl
    have z2 : w14.cell? ⟨z, 2, none⟩ = some _ := Blk.cell HBZ.out rfl
    have z3 : w14.cell? ⟨z, 3, none⟩ = some _ := Blk.cell HBZ.out rfl
    have z4 : w14.cell? ⟨z, 4, none⟩ = some _ := Blk.cell HBZ.out rfl
    have z5 : w14.cell? ⟨z, 5, none⟩ = some _ := Blk.cell HBZ.out rfl
    have z6 : w14.cell? ⟨z, 6, none⟩ = some _ := Blk.cell HBZ.out rfl
    go_wp2_with fail
    (refine ⟨?anew, ?_⟩; case anew => ((repeat (refine Reg.anew_cons rfl rfl (fun _ => by go_simp) ?_)); exact Reg.anew_nil))
    repeat (first | (refine Reg.look rfl rfl rfl (by go_simp; rfl) rfl ?_; go_simp) | (refine Reg.skip rfl rfl rfl ?_; go_simp))
    refine Reg.act rfl ?_
    go_wp2_with fail
    refine (HJ2.out w14 HKE.out).mono ?_
    rintro e w15 ⟨rfl, hk15⟩
    have HKF := Lib.hid ((HKD.out.trans' HKE.out).trans' hk15)
    have hrn : Rp.str.slice.R w15 (fun k => w9.heap.size ≤ k) [.slice A ([⟨#[97]⟩] : List ByteArray).length c] [⟨#[97]⟩] := Rp.str.slice.keptNo HRN4.out (HKE.out.trans' hk15)
    obtain ⟨ad, hA, _, hc0, _⟩ := Rp.at_str hrn (i := 0) (a := ⟨#[97]⟩) rfl
    subst hA
    have c0 : w15.cell? ad = some (.string { data := #[97] }) := hc0
    clear hk15 hrn hc0 z0 z1 z2 z3 z4 z5 z6
    go_wp2_with fail
    (refine ⟨?anew, ?_⟩; case anew => ((repeat (refine Reg.anew_cons rfl rfl (fun _ => by go_simp) ?_)); exact Reg.anew_nil))
    repeat (first | (refine Reg.look rfl rfl rfl (by go_simp; rfl) rfl ?_; go_simp) | (refine Reg.skip rfl rfl rfl ?_; go_simp))
    (refine Reg.done ?_; simp only [Exit.then])
    go_wp2_with fail
    go_ret
    exact ⟨rfl, HKF.out⟩
end Go.Proofs.Ytamfgmlhopjppaa
