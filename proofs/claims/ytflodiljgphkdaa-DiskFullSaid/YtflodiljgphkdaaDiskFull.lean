/-
  A file has as many bytes as may be, and not one more; what is refused changes nothing: DiskFull answers true for every input. No condition.
-/
import Derived.Test.YtflodiljgphkdaaAwk5
import Derived.Test.YtflodiljgphkdaaRegT
import Derived.Test.YtflodiljgphkdaaBy
import Derived.Test.YtflodiljgphkdaaFDiskFull
namespace Go.Proofs.Ytflodiljgphkdaa
open Go.RowKit Go.ChangeShapes Go.WideShapes Go.ChangeAt

def fN : ByteArray := ⟨#[102]⟩
def xN : ByteArray := ⟨#[120]⟩
/-- so many bytes of nothing -/
def zs (k : Nat) : ByteArray := bs (List.replicate k 0)
theorem zs_size (k : Nat) : (zs k).size = k := by unfold zs; rw [bs_size, List.length_replicate]
/-- the drive with one file of so many bytes -/
def fullD (k : Nat) (s : Int) : DV := ⟨[(fN, ⟨List.replicate k 0, 0, false⟩)], -1, false, s⟩
theorem fine_f : fineN fN = true := by kernel_rfl
theorem full_file (k : Nat) (s : Int) : fileD fN (fullD k s) = some ⟨List.replicate k 0, 0, false⟩ := by unfold fileD fullD mget; simp
theorem full_ready (k : Nat) (s : Int) : readyD fN (fullD k s) = 0 := by unfold readyD; rw [fine_f]; rfl
theorem full_no {k : Nat} {s : Int} {t : ByteArray} (h : 1048576 < k + t.size) : appendD fN t (fullD k s) = (52, fullD k s) := by
  unfold appendD
  rw [full_ready, full_file]
  simp only [ne_eq, not_true_eq_false, if_false, Option.getD_some, List.length_replicate]
  rw [if_pos h]
theorem full_yes {k m : Nat} {s : Int} (h : k + m ≤ 1048576) : appendD fN (zs m) (fullD k s) = (0, fullD (k + m) (inc64 s)) := by
  unfold appendD
  rw [full_ready, full_file, zs_size]
  simp only [ne_eq, not_true_eq_false, if_false, Option.getD_some, List.length_replicate]
  rw [if_neg (by omega)]
  unfold stepD
  rw [if_neg (by unfold fullD; simp)]
  have hi : ∀ f g : FV, ins fN f [(fN, g)] = [(fN, f)] := fun f g => by unfold ins; rw [if_pos rfl]
  have hb : List.replicate k (0 : UInt8) ++ (zs m).data.toList = List.replicate (k + m) 0 := by unfold zs; rw [bs_data, List.replicate_append_replicate]
  show (0, ({ files := ins fN ⟨List.replicate k 0 ++ (zs m).data.toList, 0, false⟩ [(fN, ⟨List.replicate k 0, 0, false⟩)], fuse := max ((-1 : Int) - 1) (-1), off := false, steps := inc64 s } : DV)) = _
  rw [hi, hb]; rfl
theorem full_new {m : Nat} (h : m ≤ 1048576) : appendD fN (zs m) newD = (0, fullD m (inc64 0)) := by
  unfold appendD
  rw [show readyD fN newD = 0 by unfold readyD; rw [fine_f]; rfl, show fileD fN newD = none from rfl, zs_size]
  simp only [ne_eq, not_true_eq_false, if_false, Option.getD_none, List.length_nil]
  rw [if_neg (by omega)]
  unfold stepD
  rw [if_neg (by unfold newD; decide)]
  unfold fullD ins zs
  rw [bs_data]; rfl
theorem full_read (k : Nat) (s : Int) : readD fN (fullD k s) = some (zs k) := by
  unfold readD
  rw [full_file]; rfl
theorem inc0 : inc64 0 = 1 := by kernel_rfl
theorem inc1 : inc64 1 = 2 := by kernel_rfl

/-- so many bytes made, and what text they are, whatever is done elsewhere -/
theorem mk_zs (k : Nat) (hk : k ≤ 1048577) (w : World) :
    ∃ w', (Instr.makeSlice 27 (.int .i64 (k : Int)) (.int .i64 (k : Int))).run Try.prog w = .ok (.slice (some ⟨w.heap.size, 0, none⟩) k k) w' ∧
      (∀ w2, w2.heap[w.heap.size]? = w'.heap[w.heap.size]? → (convert 27 9 (.slice (some ⟨w.heap.size, 0, none⟩) k k)).run Try.prog w2 = .ok (.string (zs k)) w2) ∧ Kp No w w' ∧ w.heap.size < w'.heap.size := by
  obtain ⟨w1, hrun, hown, hk1⟩ := own_zeros Rp.byte_by (P := Try.prog) w No w.heap.size 27 5 (0 : UInt8) trivial (bytes := 1) Try.underlying27 (by kernel_rfl) rfl .i64 .i64 k (by omega) (by simp [maxLen]; omega) (Nat.le_refl _)
  refine ⟨w1, hrun, ?_, hk1, (hown.lt w.heap.size rfl).2⟩
  intro w2 hw2
  unfold zs
  obtain ⟨Z, hZ⟩ : ∃ Z, List.replicate k (0 : UInt8) = Z := ⟨_, rfl⟩
  have hl : Z.length = k := by rw [← hZ]; exact List.length_replicate
  rw [hZ] at hown ⊢
  clear hZ hrun hk
  subst hl
  refine run_text (P := Try.prog) w2 27 9 5 bytely (S := No) (base := w.heap.size) ?_
  obtain ⟨xs, ⟨h0, h1⟩, h2, h3⟩ := hown
  refine ⟨xs, ⟨h0, ?_⟩, h2, fun i a ha => Rp.byte.keep (S := No) (fun _ h => h) (fun k h => h.elim) (h3 i a ha)⟩
  rcases h1 with h1 | ⟨g, cap, cur, he, hb, hg, hr⟩
  · exact .inl h1
  · refine .inr ⟨g, cap, cur, he, hb, ?_, hr⟩
    injection he with he
    injection he with he
    injection he with he
    rw [← he, hw2, he]; exact hg

set_option maxRecDepth 100000 in
set_option maxHeartbeats 2000000 in
theorem diskFull_walk : DiskFullWalk := by
  intro W v0 n h0
  obtain ⟨hv, hwf⟩ := h0
  simp only [List.cons.injEq, and_true] at hv
  subst hv
  have hn := wf64 hwf
  clear hwf
  go_enter Try.func3, Try.ntmps3
  go_wp2_with fail
  refine (n_new W).mono ?_
  rintro e w1 ⟨d, rfl, hd, _⟩
  obtain ⟨F, hF, hkp, hge⟩ := hd
  have HF := Lib.hid hF
  have HKP := Lib.hid hkp
  have HGE := Lib.hid hge
  clear hF hkp hge
  obtain ⟨N, hN, hNl⟩ : ∃ N : Nat, wrap64 ((IntKind.u64.wrap n).tmod 1000) = (N : Int) ∧ N < 1000 := by
    have h0 : 0 ≤ IntKind.u64.wrap n := by simp [IntKind.wrap, IntKind.bits, IntKind.signed]; omega
    refine ⟨((IntKind.u64.wrap n) % 1000).toNat, ?_, by omega⟩
    rw [Int.tmod_eq_emod_of_nonneg h0]
    unfold wrap64
    omega
  go_wp2_with fail
  rw [hN]
  clear hN hn
  have e1 : ((1048576 - N : Nat) : Int) = 1048576 - (N : Int) := by omega
  have e2 : ((N + 1 : Nat) : Int) = (N : Int) + 1 := by omega
  have hw1 : IntKind.i64.wrap (1048576 - (N : Int)) = 1048576 - (N : Int) := wrap_i64 (by omega) (by omega)
  have hw2 : IntKind.i64.wrap ((N : Int) + 1) = (N : Int) + 1 := wrap_i64 (by omega) (by omega)
  refine Reg.wp_region_tree (.look 0 (.look 1 (.look 2 (.look 6 (.look 7 (.look 8 (.two 3 [8] (.look 4 (.two 5 [8] (.one 9 [] (.look 10 (.one 11 [] (.look 12 (.look 13 (.done)))))) 9 [4] (.look 10 (.one 5 [10] (.one 11 [] (.look 12 (.look 13 (.done)))))))) 9 [2] (.look 10 (.one 3 [10] (.look 4 (.one 5 [10] (.one 11 [] (.look 12 (.look 13 (.done))))))))))))))) [3, 5, 9, 11] rfl (by kernel_rfl) ?_
  repeat (first | (refine Reg.lookT rfl rfl rfl (by go_simp; rfl) rfl ?_; go_simp))
  have hd0 : w1.drew.heap.size = w1.heap.size := rfl
  refine Reg.twoT rfl rfl ?_ ?_
  · skip
    obtain ⟨wa, hrA, hcA, hkA, hsA⟩ := mk_zs (1048576 - N) (by omega) w1.drew
    obtain ⟨ga, hga⟩ : ∃ g, (w1.drew).heap.size = g := ⟨_, rfl⟩
    rw [hga] at hrA hcA hsA
    rw [e1] at hrA
    have cA := hcA wa rfl
    have hk1A : Kp No w1 wa := ((Kp.refl No w1).drew).trans' hkA
    go_wp2_with fail
    (refine ⟨?anew, ?_⟩; case anew => ((repeat (refine Reg.anew_cons rfl rfl (fun _ => by go_simp) ?_)); exact Reg.anew_nil))
    repeat (first | (refine Reg.lookT rfl rfl rfl (by go_simp; rfl) rfl ?_; go_simp))
    clear hrA
    refine Reg.twoT rfl rfl ?_ ?_
    · have hc := d_append d newD F fN (zs (1048576 - N)) wa (HF.out.keptNo hk1A)
      rw [full_new (by omega), inc0] at hc
      go_wp2_with fail
      refine hc.mono ?_
      rintro e w2 ⟨rfl, F2, hF2, hU2⟩
      have HF2 := Lib.hid hF2
      have HD2 := Lib.hid (DNew.step ⟨F, HF.out.keptNo hk1A, HKP.out.trans' hk1A, HGE.out, F2, hF2, hU2⟩).1
      clear hc hF2 hU2
      go_wp2_with fail
      (refine ⟨?anew, ?_⟩; case anew => ((repeat (refine Reg.anew_cons rfl rfl (fun _ => by go_simp) ?_)); exact Reg.anew_nil))
      clear cA
      obtain ⟨wb, hrB, hcB, hkB, hsB⟩ := mk_zs (N + 1) (by omega) w2
      obtain ⟨gb, hgb⟩ : ∃ g, (w2).heap.size = g := ⟨_, rfl⟩
      rw [hgb] at hrB hcB hsB
      rw [e2] at hrB
      have cB := hcB wb rfl
      refine Reg.oneT rfl ?_
      go_wp2_with fail
      refine ⟨Reg.anew_nil, ?_⟩
      repeat (first | (refine Reg.lookT rfl rfl rfl (by go_simp; rfl) rfl ?_; go_simp))
      refine Reg.oneT rfl ?_
      clear hrB
      have hc := n_append fN (zs (N + 1)) wb (HD2.out.kept hkB)
      rw [full_no (by rw [zs_size]; omega)] at hc
      go_wp2_with fail
      refine hc.mono ?_
      rintro e w3 ⟨rfl, hd3, _⟩
      have HD3 := Lib.hid hd3
      clear hc hd3
      go_wp2_with fail
      refine ⟨Reg.anew_nil, ?_⟩
      repeat (first | (refine Reg.lookT rfl rfl rfl (by go_simp; rfl) rfl ?_; go_simp))
      refine Reg.doneT ?_
      simp only [Exit.then]
      have e3 : (1048576 - N) + N = 1048576 := by omega
      obtain ⟨w4, hr4, hc4, hk4, _⟩ := mk_zs N (by omega) w3
      have c4 := hc4 w4 rfl
      have HD4 := Lib.hid (HD3.out.kept hk4)
      clear hc4 hk4
      go_wp2_with fail
      have hc := n_append fN (zs N) w4 HD4.out
      rw [full_yes (by omega), e3, inc1] at hc
      refine hc.mono ?_
      rintro e w5 ⟨rfl, hd5, _⟩
      have HD5 := Lib.hid hd5
      clear hc hd5
      go_wp2_with fail
      have hc := n_append fN xN w5 HD5.out
      rw [full_no (by show _ < _ + 1; omega)] at hc
      refine hc.mono ?_
      rintro e w6 ⟨rfl, hd6, _⟩
      have HD6 := Lib.hid hd6
      clear hc hd6
      go_wp2_with fail
      have hc := n_read fN w6 HD6.out
      rw [full_read] at hc
      have hz := zs_size 1048576
      obtain ⟨Z, hZ⟩ : ∃ Z, zs 1048576 = Z := ⟨_, rfl⟩
      rw [hZ] at hc hz
      simp only [textOr, Option.getD_some, Option.isSome_some] at hc
      refine hc.mono ?_
      rintro e w7 ⟨rfl, rfl⟩
      clear hc hZ
      have hzI : (Z.size : Int) = 1048576 := by omega
      go_wp2_with fail
      refine (awake05 _).mono ?_
      rintro e w8 ⟨rfl, hk8⟩
      have HD8 := Lib.hid (HD6.out.kept hk8)
      clear hk8
      go_wp2_with fail
      refine (n_steps _ HD8.out).mono ?_
      rintro e w9 ⟨rfl, rfl⟩
      go_wp2_with fail
      go_ret
      exact ⟨rfl, HD8.out.kp⟩
    · skip
      obtain ⟨wb, hrB, hcB, hkB, hsB⟩ := mk_zs (N + 1) (by omega) wa
      obtain ⟨gb, hgb⟩ : ∃ g, (wa).heap.size = g := ⟨_, rfl⟩
      rw [hgb] at hrB hcB hsB
      rw [e2] at hrB
      have cA2 := hcA wb (hkB.block ga hsA (fun x => x))
      have cB := hcB wb rfl
      have hk1B := hk1A.trans' hkB
      have hgb1 : w1.heap.size ≤ gb := by rw [← hgb]; exact hk1A.size
      clear cA
      go_wp2_with fail
      (refine ⟨?anew, ?_⟩; case anew => ((repeat (refine Reg.anew_cons rfl rfl (fun _ => by go_simp) ?_)); exact Reg.anew_nil))
      repeat (first | (refine Reg.lookT rfl rfl rfl (by go_simp; rfl) rfl ?_; go_simp))
      clear hrB
      have hc := d_append d newD F fN (zs (1048576 - N)) wb (HF.out.keptNo hk1B)
      rw [full_new (by omega), inc0] at hc
      refine Reg.oneT rfl ?_
      go_wp2_with fail
      refine hc.mono ?_
      rintro e w2 ⟨rfl, F2, hF2, hU2⟩
      have HD2 := Lib.hid (DNew.step ⟨F, HF.out.keptNo hk1B, HKP.out.trans' hk1B, HGE.out, F2, hF2, hU2⟩).1
      have cB2 := hcB w2 (hU2.1.block gb hsB (fun hf => by have := HF.out.lt gb hf; omega))
      clear hc hF2 hU2 cA2 cB
      go_wp2_with fail
      (refine ⟨?anew, ?_⟩; case anew => ((repeat (refine Reg.anew_cons rfl rfl (fun _ => by go_simp) ?_)); exact Reg.anew_nil))
      repeat (first | (refine Reg.lookT rfl rfl rfl (by go_simp; rfl) rfl ?_; go_simp))
      refine Reg.oneT rfl ?_
      have hc := n_append fN (zs (N + 1)) w2 HD2.out
      rw [full_no (by rw [zs_size]; omega)] at hc
      go_wp2_with fail
      refine hc.mono ?_
      rintro e w3 ⟨rfl, hd3, _⟩
      have HD3 := Lib.hid hd3
      clear hc hd3
      go_wp2_with fail
      refine ⟨Reg.anew_nil, ?_⟩
      repeat (first | (refine Reg.lookT rfl rfl rfl (by go_simp; rfl) rfl ?_; go_simp))
      refine Reg.doneT ?_
      simp only [Exit.then]
      have e3 : (1048576 - N) + N = 1048576 := by omega
      obtain ⟨w4, hr4, hc4, hk4, _⟩ := mk_zs N (by omega) w3
      have c4 := hc4 w4 rfl
      have HD4 := Lib.hid (HD3.out.kept hk4)
      clear hc4 hk4
      go_wp2_with fail
      have hc := n_append fN (zs N) w4 HD4.out
      rw [full_yes (by omega), e3, inc1] at hc
      refine hc.mono ?_
      rintro e w5 ⟨rfl, hd5, _⟩
      have HD5 := Lib.hid hd5
      clear hc hd5
      go_wp2_with fail
      have hc := n_append fN xN w5 HD5.out
      rw [full_no (by show _ < _ + 1; omega)] at hc
      refine hc.mono ?_
      rintro e w6 ⟨rfl, hd6, _⟩
      have HD6 := Lib.hid hd6
      clear hc hd6
      go_wp2_with fail
      have hc := n_read fN w6 HD6.out
      rw [full_read] at hc
      have hz := zs_size 1048576
      obtain ⟨Z, hZ⟩ : ∃ Z, zs 1048576 = Z := ⟨_, rfl⟩
      rw [hZ] at hc hz
      simp only [textOr, Option.getD_some, Option.isSome_some] at hc
      refine hc.mono ?_
      rintro e w7 ⟨rfl, rfl⟩
      clear hc hZ
      have hzI : (Z.size : Int) = 1048576 := by omega
      go_wp2_with fail
      refine (awake05 _).mono ?_
      rintro e w8 ⟨rfl, hk8⟩
      have HD8 := Lib.hid (HD6.out.kept hk8)
      clear hk8
      go_wp2_with fail
      refine (n_steps _ HD8.out).mono ?_
      rintro e w9 ⟨rfl, rfl⟩
      go_wp2_with fail
      go_ret
      exact ⟨rfl, HD8.out.kp⟩
  · skip
    obtain ⟨wb, hrB, hcB, hkB, hsB⟩ := mk_zs (N + 1) (by omega) w1.drew
    obtain ⟨gb, hgb⟩ : ∃ g, (w1.drew).heap.size = g := ⟨_, rfl⟩
    rw [hgb] at hrB hcB hsB
    rw [e2] at hrB
    have cB := hcB wb rfl
    have hk1B : Kp No w1 wb := ((Kp.refl No w1).drew).trans' hkB
    have hgb1 : w1.heap.size ≤ gb := by rw [← hgb]; exact Nat.le_refl _
    go_wp2_with fail
    (refine ⟨?anew, ?_⟩; case anew => ((repeat (refine Reg.anew_cons rfl rfl (fun _ => by go_simp) ?_)); exact Reg.anew_nil))
    repeat (first | (refine Reg.lookT rfl rfl rfl (by go_simp; rfl) rfl ?_; go_simp))
    clear hrB
    obtain ⟨wa, hrA, hcA, hkA, hsA⟩ := mk_zs (1048576 - N) (by omega) wb
    obtain ⟨ga, hga⟩ : ∃ g, (wb).heap.size = g := ⟨_, rfl⟩
    rw [hga] at hrA hcA hsA
    rw [e1] at hrA
    have cA := hcA wa rfl
    have cB2 := hcB wa (hkA.block gb hsB (fun x => x))
    have hk1A := hk1B.trans' hkA
    refine Reg.oneT rfl ?_
    clear cB
    go_wp2_with fail
    (refine ⟨?anew, ?_⟩; case anew => ((repeat (refine Reg.anew_cons rfl rfl (fun _ => by go_simp) ?_)); exact Reg.anew_nil))
    repeat (first | (refine Reg.lookT rfl rfl rfl (by go_simp; rfl) rfl ?_; go_simp))
    clear hrA
    have hc := d_append d newD F fN (zs (1048576 - N)) wa (HF.out.keptNo hk1A)
    rw [full_new (by omega), inc0] at hc
    refine Reg.oneT rfl ?_
    go_wp2_with fail
    refine hc.mono ?_
    rintro e w2 ⟨rfl, F2, hF2, hU2⟩
    have HD2 := Lib.hid (DNew.step ⟨F, HF.out.keptNo hk1A, HKP.out.trans' hk1A, HGE.out, F2, hF2, hU2⟩).1
    have cB3 := hcB w2 (hU2.1.block gb (Nat.lt_of_lt_of_le hsB hkA.size) (fun hf => by have := HF.out.lt gb hf; omega) |>.trans (hkA.block gb hsB (fun x => x)))
    clear hc hF2 hU2 cA cB2
    go_wp2_with fail
    (refine ⟨?anew, ?_⟩; case anew => ((repeat (refine Reg.anew_cons rfl rfl (fun _ => by go_simp) ?_)); exact Reg.anew_nil))
    repeat (first | (refine Reg.lookT rfl rfl rfl (by go_simp; rfl) rfl ?_; go_simp))
    refine Reg.oneT rfl ?_
    have hc := n_append fN (zs (N + 1)) w2 HD2.out
    rw [full_no (by rw [zs_size]; omega)] at hc
    go_wp2_with fail
    refine hc.mono ?_
    rintro e w3 ⟨rfl, hd3, _⟩
    have HD3 := Lib.hid hd3
    clear hc hd3
    go_wp2_with fail
    refine ⟨Reg.anew_nil, ?_⟩
    repeat (first | (refine Reg.lookT rfl rfl rfl (by go_simp; rfl) rfl ?_; go_simp))
    refine Reg.doneT ?_
    simp only [Exit.then]
    have e3 : (1048576 - N) + N = 1048576 := by omega
    obtain ⟨w4, hr4, hc4, hk4, _⟩ := mk_zs N (by omega) w3
    have c4 := hc4 w4 rfl
    have HD4 := Lib.hid (HD3.out.kept hk4)
    clear hc4 hk4
    go_wp2_with fail
    have hc := n_append fN (zs N) w4 HD4.out
    rw [full_yes (by omega), e3, inc1] at hc
    refine hc.mono ?_
    rintro e w5 ⟨rfl, hd5, _⟩
    have HD5 := Lib.hid hd5
    clear hc hd5
    go_wp2_with fail
    have hc := n_append fN xN w5 HD5.out
    rw [full_no (by show _ < _ + 1; omega)] at hc
    refine hc.mono ?_
    rintro e w6 ⟨rfl, hd6, _⟩
    have HD6 := Lib.hid hd6
    clear hc hd6
    go_wp2_with fail
    have hc := n_read fN w6 HD6.out
    rw [full_read] at hc
    have hz := zs_size 1048576
    obtain ⟨Z, hZ⟩ : ∃ Z, zs 1048576 = Z := ⟨_, rfl⟩
    rw [hZ] at hc hz
    simp only [textOr, Option.getD_some, Option.isSome_some] at hc
    refine hc.mono ?_
    rintro e w7 ⟨rfl, rfl⟩
    clear hc hZ
    have hzI : (Z.size : Int) = 1048576 := by omega
    go_wp2_with fail
    refine (awake05 _).mono ?_
    rintro e w8 ⟨rfl, hk8⟩
    have HD8 := Lib.hid (HD6.out.kept hk8)
    clear hk8
    go_wp2_with fail
    refine (n_steps _ HD8.out).mono ?_
    rintro e w9 ⟨rfl, rfl⟩
    go_wp2_with fail
    go_ret
    exact ⟨rfl, HD8.out.kp⟩
theorem diskFull_holds : Rows.DiskFullSaid := diskFull_of diskFull_walk
#print axioms diskFull_holds
end Go.Proofs.Ytflodiljgphkdaa
