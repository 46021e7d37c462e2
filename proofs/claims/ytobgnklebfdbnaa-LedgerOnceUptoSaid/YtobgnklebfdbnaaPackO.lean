/-
  deed.PackOps: operations as bytes.
-/
import Derived.Test.YtobgnklebfdbnaaPackS
import Derived.Test.YtobgnklebfdbnaaTxtM
import Derived.Test.YtobgnklebfdbnaaDeed3
namespace Go.Proofs.Ytobgnklebfdbnaa
open Go.RowKit Go.ChangeShapes Go.WideShapes Go.ChangeAt

def opB (o : OpL) : List UInt8 := numsB [o.n, o.epoch, o.kind, o.site, o.client, o.seq] ++ textsB [o.name, bs (packB o.size o.hashes)]
def opsB (l : List OpL) : List UInt8 := numsB [(l.length : Int)] ++ l.flatMap opB
/-- its texts are short -/
def SmallO (o : OpL) : Prop := o.name.size ≤ 1000 ∧ o.hashes.length ≤ 1000 ∧ ∀ h ∈ o.hashes, h.size ≤ 1000
theorem textsB_le (k : Nat) (hk : k ≤ 1048576) : ∀ (l : List ByteArray), (∀ s ∈ l, s.size ≤ k) → (textsB l).length ≤ (k + 10) * l.length
  | [], _ => by simp [textsB]
  | s :: l, h => by
    have h1 := textsB_le k hk l (fun x hx => h x (List.mem_cons_of_mem _ hx))
    have h2 := h s List.mem_cons_self
    have h3 := textB_length s (by omega)
    have e : textsB (s :: l) = textB s ++ textsB l := by simp [textsB]
    rw [e, List.length_append, List.length_cons, Nat.mul_add, Nat.mul_one]
    omega
theorem packB_le (o : OpL) (hs : SmallO o) (h0 : -9223372036854775808 ≤ o.size) (h1 : o.size < 9223372036854775808) : (bs (packB o.size o.hashes)).size ≤ 1010020 := by
  have h2 := textsB_le 1000 (by omega) o.hashes hs.2.2
  have h3 := numB_length o.size h0 h1
  have h4 := numB_length (o.hashes.length : Int) (by omega) (by have := hs.2.1; omega)
  have h5 := hs.2.1
  rw [bs_size]
  unfold packB
  rw [List.length_append, List.length_append]
  omega
theorem opB_le (o : OpL) (hn : o.nums) (hs : SmallO o) : (opB o).length ≤ 1011200 := by
  obtain ⟨n1, n2, n3, n4, n5, n6, _, n8⟩ := hn
  have b8 := bounds_I64 n8
  have h1 := packB_le o hs b8.1 b8.2
  have h2 := numsB_length [o.n, o.epoch, o.kind, o.site, o.client, o.seq] (by
    intro a ha
    simp only [List.mem_cons, List.not_mem_nil, or_false] at ha
    rcases ha with rfl | rfl | rfl | rfl | rfl | rfl <;> exact bounds_I64 (by assumption))
  have h3 := textB_length o.name (by have := hs.1; omega)
  have h4 := textB_length (bs (packB o.size o.hashes)) (by omega)
  have e : textsB [o.name, bs (packB o.size o.hashes)] = textB o.name ++ textB (bs (packB o.size o.hashes)) := by simp [textsB]
  have := hs.1
  unfold opB
  rw [e, List.length_append, List.length_append]
  simp only [List.length_cons, List.length_nil] at h2
  omega
theorem flat_le {α : Type} (f : α → List UInt8) (k : Nat) : ∀ (l : List α), (∀ a ∈ l, (f a).length ≤ k) → (l.flatMap f).length ≤ k * l.length
  | [], _ => by simp
  | a :: l, h => by
    have h1 := flat_le f k l (fun x hx => h x (List.mem_cons_of_mem _ hx))
    have h2 := h a List.mem_cons_self
    rw [List.flatMap_cons, List.length_append, List.length_cons, Nat.mul_add, Nat.mul_one]
    omega
theorem flat_snoc {α : Type} (f : α → List UInt8) {l : List α} {k : Nat} {a : α} (h : l[k]? = some a) : (l.take (k + 1)).flatMap f = (l.take k).flatMap f ++ f a := by
  rw [List.take_add_one, h]
  simp
theorem vb_pos (z : Nat) : 0 < (vb z).length := by
  by_cases h : 127 < z
  · rw [vb_more h]; simp
  · rw [vb_last h]; simp
theorem numsB_pos (n : Int) (t : List Int) : 0 < (numsB (n :: t)).length := by
  have := vb_pos (zz n)
  unfold numsB numB
  rw [List.flatMap_cons, List.length_append]
  omega
set_option maxRecDepth 100000 in
set_option maxHeartbeats 4000000 in
theorem c_packops (l : List OpL) (A : Option Addr) (c : Nat) (w : World) (S : Nat → Prop) (hl : Rp.opl.slice.R w S [.slice A l.length c] l) (hll : l.length ≤ 1000) (hsm : ∀ o ∈ l, SmallO o) :
    Calls Try.prog 83 #[.slice A l.length c] w fun x w' => x = .returned (.string (bs (opsB l))) ∧ Kp No w w' := by
  have hnum : ∀ o ∈ l, o.nums := by
    intro o ho
    obtain ⟨i, hi⟩ := List.getElem?_of_mem ho
    obtain ⟨_, _, _, _, _, _, hn, _⟩ := Rp.at_opl hl hi
    exact hn
  have hl : Rp.opl.slice.R w (fun k => k < w.heap.size) [.slice A l.length c] l := Rp.opl.slice.more (Rp.opl.slice.bnd hl) (fun k hk => hk.2)
  have HL := Lib.hid hl
  have HSM := Lib.hid hsm
  have HNUM := Lib.hid hnum
  clear hl hsm hnum
  go_enter Try.func83, Try.ntmps83
  go_wp2_with fail
  refine (c_nums [(l.length : Int)] (some ⟨w.heap.size, 0, none⟩) 1 (w.alloc (.cells #[.int .i64 (l.length : Int)] 3)) (· = w.heap.size) (Rp.of_block (heap_alloc_new w _) rfl rfl (Nat.le_refl _) (by simp [maxLen]) (by
    intro a ha
    simp only [List.mem_cons, List.not_mem_nil, or_false] at ha
    subst ha
    exact WalkArith.wf_i64 ⟨by omega, by omega⟩)) (by simp)).mono ?_
  rintro e w2 ⟨rfl, hk2⟩
  have hkk : Kp No w w2 := ((Kp.refl No w).alloc _).trans' hk2
  have hX : (bs (numsB [(l.length : Int)])).size ≤ 10 := by
    rw [bs_size]
    have := numsB_length [(l.length : Int)] (by intro a ha; simp only [List.mem_cons, List.not_mem_nil, or_false] at ha; subst ha; omega)
    simpa using this
  obtain ⟨c1, w3, hrun, hown, hk3⟩ := ownM_text (P := Try.prog) w2 146 9 5 bytely (bs (numsB [(l.length : Int)])) (by omega) w.heap.size hkk.size
  rw [bs_data] at hown
  rw [show (bs (numsB [(l.length : Int)])).size = (numsB [(l.length : Int)]).length from bs_size _] at hrun hX
  have HO3 := Lib.hid hown
  have HK3 := Lib.hid (hkk.trans' hk3)
  obtain ⟨X, hXe⟩ : ∃ X, numsB [(l.length : Int)] = X := ⟨_, rfl⟩
  have HXE := Lib.hid hXe
  rw [hXe] at hrun hX HO3 ⊢
  have HXL := Lib.hid hX
  clear hown hk3 hkk hk2 hX hXe
  go_wp2_with fail
  clear hrun
  go_loopw [3, 13] (fun ov iv wr => ∃ k : Nat, k ≤ l.length ∧ iv = .int .i64 (k : Int) ∧ Hid (OwnM wr w.heap.size 5 ov (X ++ (l.take k).flatMap opB)) ∧ Hid (Kp No w wr)) (fun _ iv _ => l.length - (intOf iv).toNat)
  case atStart => exact ⟨0, Nat.zero_le _, rfl, Lib.hid (by rw [List.take_zero, List.flatMap_nil, List.append_nil]; exact HO3.out), HK3⟩
  case round =>
    clear HO3 HK3
    obtain ⟨k, hk, rfl, HO, HK⟩ := hrel
    by_cases hlt : k < l.length
    · have hki : (k : Int) < (l.length : Int) := by omega
      obtain ⟨o, ho⟩ : ∃ o, l[k]? = some o := ⟨_, List.getElem?_eq_getElem hlt⟩
      obtain ⟨ad, A2, c2, rfl, _, hcell, hnum, hhs⟩ := Rp.at_opl (Rp.opl.slice.keptNo HL.out HK.out) ho
      obtain ⟨z0, z1, z2, z3, z4, z5, z6, z7, z8⟩ := opl_cells hcell
      have hos := HSM.out o (List.mem_of_getElem? ho)
      have hb8 := bounds_I64 hnum.2.2.2.2.2.2.2
      have hpl := packB_le o hos hb8.1 hb8.2
      have hbl := opB_le o hnum hos
      have hpk := fun w2 (hk : Kp (fun k => w.heap.size ≤ k) wr w2) => c_packS o.size o.hashes A2 c2 w2 _ (Rp.str.slice.kept hhs hk (fun k hk _ h => by omega)) hb8.1 hb8.2 (fun s hs => by have := hos.2.2 s hs; omega) (by have := textsB_le 1000 (by omega) o.hashes hos.2.2; have := hos.2.1; omega) (by have := hos.2.1; omega)
      have hnx := flat_snoc opB ho
      have hM := flat_le opB 1011200 (l.take k) (fun o ho => opB_le o (HNUM.out o (List.mem_of_mem_take ho)) (HSM.out o (List.mem_of_mem_take ho)))
      rw [List.length_take, Nat.min_eq_left hk] at hM
      obtain ⟨M, hMe⟩ : ∃ M, (l.take k).flatMap opB = M := ⟨_, rfl⟩
      rw [hMe] at HO hM hnx
      have HNX := Lib.hid hnx
      have HPK := Lib.hid hpk
      have HNM := Lib.hid hnum
      have HOS := Lib.hid hos
      have hXM : (X ++ M).length ≤ 2000000000 := by have := HXL.out; rw [List.length_append]; omega
      have HXM := Lib.hid hXM
      clear ho hcell hhs hos hpk hnx hM hMe hXM
      obtain ⟨on, oe, ok, os, oc, oq, onm, osz, ohs⟩ := o
      simp only at *
      obtain ⟨PB, hPB⟩ : ∃ PB, bs (packB osz ohs) = PB := ⟨_, rfl⟩
      obtain ⟨Y, hY⟩ : ∃ Y, numsB [on, oe, ok, os, oc, oq] = Y := ⟨_, rfl⟩
      obtain ⟨Z, hZ⟩ : ∃ Z, textsB [onm, PB] = Z := ⟨_, rfl⟩
      have hnx2 : (l.take (k + 1)).flatMap opB = M ++ (Y ++ Z) := by rw [HNX.out]; unfold opB; simp only [hPB, hY, hZ]
      have hYZ : Y.length + Z.length ≤ 1011200 := by
        unfold opB at hbl
        simp only [hPB, hY, hZ, List.length_append] at hbl
        exact hbl
      rw [hPB] at hpl HPK
      have HNX2 := Lib.hid hnx2
      have HYE := Lib.hid hY
      have HZE := Lib.hid hZ
      have HYZ := Lib.hid hYZ
      have HPL := Lib.hid hpl
      clear hPB hY hZ hnx2 hYZ hpl HNX hbl hb8
      go_wp2_with fail
      clear z0 z1 z2 z3 z4 z5 z6 z7 z8
      obtain ⟨wa, hwa⟩ : ∃ wa, wr.alloc (.cells #[.int .i64 on, .int .i64 oe, .int .i64 ok, .int .i64 os, .int .i64 oc, .int .i64 oq, .string onm, .int .i64 osz, .slice A2 ohs.length c2] 33) = wa := ⟨_, rfl⟩
      obtain ⟨x, hx⟩ : ∃ x, wr.heap.size = x := ⟨_, rfl⟩
      have hsa : wr.heap.size + 1 = wa.heap.size := by rw [← hwa]; simp
      have hka : Kp No wr wa := by rw [← hwa]; exact (Kp.refl _ _).alloc _
      have hba : Blk wa x 33 [.int .i64 on, .int .i64 oe, .int .i64 ok, .int .i64 os, .int .i64 oc, .int .i64 oq, .string onm, .int .i64 osz, .slice A2 ohs.length c2] := by rw [← hwa, ← hx]; exact Blk.new wr _ _
      rw [hsa, hwa]
      have HX := Lib.hid hx
      have HBA := Lib.hid hba
      have HKA := Lib.hid hka
      try rw [hx]
      clear hwa hx hsa hka hba
      have hnc := c_nums [on, oe, ok, os, oc, oq] (some ⟨wa.heap.size, 0, none⟩) 6 (wa.alloc (.cells #[.int .i64 on, .int .i64 oe, .int .i64 ok, .int .i64 os, .int .i64 oc, .int .i64 oq] 3)) (· = wa.heap.size) (Rp.of_block (heap_alloc_new wa _) rfl rfl (Nat.le_refl _) (by simp [maxLen]) (by
        obtain ⟨n1, n2, n3, n4, n5, n6, _, _⟩ := HNM.out
        intro a ha
        simp only [List.mem_cons, List.not_mem_nil, or_false] at ha
        rcases ha with rfl | rfl | rfl | rfl | rfl | rfl <;> assumption)) (by simp)
      rw [HYE.out] at hnc
      refine hnc.mono ?_
      rintro e w4 ⟨rfl, hk4⟩
      have HK4 := Lib.hid (HKA.out.trans' (((Kp.refl No wa).alloc _).trans' hk4))
      have HB4 := Lib.hid (HBA.out.kept (((Kp.refl No wa).alloc _).trans' hk4) (fun x => x))
      have HO4 := Lib.hid (HO.out.keptNo HK4.out)
      have hys : (bs Y).size = Y.length := bs_size _
      clear hk4 hnc HBA HKA
      go_wp2_with (at_builtin; refine wpList_appendM_text rfl _ (.tmp 17) (.tmp 31) 146 9 rfl w.heap.size 5 bytely u3 (X ++ M) rfl HO4.out (bs Y) rfl ?d1 ?d2 ?_)
      case d1 => have := HXM.out; have := HYZ.out; omega
      case d2 => exact (HK.out.trans' HK4.out).size
      intro v5 w5 hown5 hgr5
      rw [bs_data] at hown5
      have hk5 : Kp (fun k => u3.ownBlock = some k) w4 w5 := (Kp.refl _ _).grown hgr5 (fun g hg _ => hg)
      have HK5 : Hid (Kp No w w5) := Lib.hid ((HK.out.trans' HK4.out).trans hk5 (fun i hi hv => absurd (HO.out.lt i hv).1 (by omega)))
      have HB5 := Lib.hid (HB4.out.kept hk5 (fun hv => by have := (HO.out.lt _ hv).2; have := HX.out; omega))
      have HO5 := Lib.hid hown5
      have HHS5 : Hid (Kp (fun k => w.heap.size ≤ k) wr w5.drew) := Lib.hid (((HK4.out.any).trans hk5 (fun i _ h => (HO.out.lt i h).1)).drew)
      clear hown5 hgr5 hk5 HO4 HB4 HK4 hys
      have y6 : w5.cell? ⟨x, 6, none⟩ = some (.string onm) := Blk.cell HB5.out rfl
      have y7 : w5.cell? ⟨x, 7, none⟩ = some (.int .i64 osz) := Blk.cell HB5.out rfl
      have y8 : w5.cell? ⟨x, 8, none⟩ = some (.slice A2 ohs.length c2) := Blk.cell HB5.out rfl
      go_wp2_with fail
      refine Reg.wp_region_plan [⟨0, false, []⟩, ⟨1, false, []⟩, ⟨2, false, []⟩, ⟨3, false, []⟩, ⟨4, false, []⟩, ⟨5, true, [1, 2]⟩, ⟨6, true, []⟩, ⟨7, true, []⟩, ⟨8, true, []⟩, ⟨9, false, []⟩] rfl (by kernel_rfl) ?_
      repeat (first | (refine Reg.look rfl rfl rfl (by go_simp; rfl) rfl ?_; go_simp) | (refine Reg.skip rfl rfl rfl ?_; go_simp))
      refine Reg.act rfl ?_
      go_wp2_with fail
      refine (HPK.out _ HHS5.out).mono ?_
      rintro e w6 ⟨rfl, hk6⟩
      have hkd : Kp No w5 w6 := ((Kp.refl No w5).drew).trans' hk6
      have HK6 := Lib.hid (HK5.out.trans' hkd)
      have hb6 := HB5.out.kept hkd (fun x => x)
      have HO6 := Lib.hid (HO5.out.keptNo hkd)
      have y6 : w6.cell? ⟨x, 6, none⟩ = some (.string onm) := Blk.cell hb6 rfl
      clear y7 y8 hb6 hk6 hkd HB5 HO5 HK5 HHS5 HPK
      go_wp2_with fail
      (refine ⟨?anew, ?_⟩; case anew => ((repeat (refine Reg.anew_cons rfl rfl (fun _ => by go_simp) ?_)); exact Reg.anew_nil))
      repeat (first | (refine Reg.look rfl rfl rfl (by go_simp; rfl) rfl ?_; go_simp) | (refine Reg.skip rfl rfl rfl ?_; go_simp))
      refine Reg.act rfl ?_
      go_wp2
      (refine ⟨?anew, ?_⟩; case anew => ((repeat (refine Reg.anew_cons rfl rfl (fun _ => by go_simp) ?_)); exact Reg.anew_nil))
      repeat (first | (refine Reg.look rfl rfl rfl (by go_simp; rfl) rfl ?_; go_simp) | (refine Reg.skip rfl rfl rfl ?_; go_simp))
      have h1 : onm.size ≤ 1000 := HOS.out.1
      have h2 : PB.size ≤ 1010020 := HPL.out
      have hal : ∀ a ∈ [onm, PB], a.size ≤ 1010020 := fun a ha => by
        simp only [List.mem_cons, List.not_mem_nil, or_false] at ha
        rcases ha with rfl | rfl <;> omega
      have htx := c_text [onm, PB] (some ⟨w6.heap.size, 0, none⟩) 2 (w6.alloc (.cells #[.string onm, .string PB] 9)) (· = w6.heap.size) (Rp.of_block1 rfl Value.string (heap_alloc_new w6 _) rfl rfl (Nat.le_refl _) (by simp [maxLen]) (fun a ha => ⟨rfl, by have := hal a ha; unfold maxLen; omega⟩)) (fun a ha => by have := hal a ha; omega) (by rw [HZE.out]; have := HYZ.out; omega)
      clear h1 h2 hal
      rw [HZE.out] at htx
      refine Reg.act rfl ?_
      go_wp2_with fail
      refine htx.mono ?_
      rintro e w7 ⟨rfl, hk7⟩
      have hk67 : Kp No w6 w7 := ((Kp.refl No w6).alloc _).trans' hk7
      have HO7 := Lib.hid (HO6.out.keptNo hk67)
      have HK7 := Lib.hid (HK6.out.trans' hk67)
      clear hk7 hk67 htx HO6 HK6 y6
      go_wp2_with fail
      (refine ⟨?anew, ?_⟩; case anew => ((repeat (refine Reg.anew_cons rfl rfl (fun _ => by go_simp) ?_)); exact Reg.anew_nil))
      repeat (first | (refine Reg.look rfl rfl rfl (by go_simp; rfl) rfl ?_; go_simp) | (refine Reg.skip rfl rfl rfl ?_; go_simp))
      refine Reg.act rfl ?_
      refine wpList_appendM_text rfl _ (.tmp 33) (.tmp 40) 146 9 rfl w.heap.size 5 bytely v5 (X ++ (M ++ Y)) rfl HO7.out (bs Z) rfl ?d3 ?d4 ?_
      case d3 => have h1 := HXM.out; have h2 := HYZ.out; have h3 : (bs Z).size = Z.length := bs_size _; rw [List.length_append] at h1; rw [List.length_append, List.length_append]; omega
      case d4 => exact HK7.out.size
      intro v8 w8 hown8 hgr8
      rw [bs_data] at hown8
      have hk8 : Kp (fun k => v5.ownBlock = some k) w7 w8 := (Kp.refl _ _).grown hgr8 (fun g hg _ => hg)
      have HK8 : Hid (Kp No w w8) := Lib.hid (HK7.out.trans hk8 (fun i hi hv => absurd (HO7.out.lt i hv).1 (by omega)))
      have HO8 : Hid (OwnM w8 w.heap.size 5 v8 (X ++ (l.take (k + 1)).flatMap opB)) := Lib.hid (by
        rw [HNX2.out]
        have e : X ++ (M ++ Y) ++ Z = X ++ (M ++ (Y ++ Z)) := by simp only [List.append_assoc]
        rw [← e]; exact hown8)
      clear hown8 hgr8 hk8 HO7 HK7
      go_wp2_with fail
      (refine ⟨?anew, ?_⟩; case anew => ((repeat (refine Reg.anew_cons rfl rfl (fun _ => by go_simp) ?_)); exact Reg.anew_nil))
      repeat (first | (refine Reg.look rfl rfl rfl (by go_simp; rfl) rfl ?_; go_simp) | (refine Reg.skip rfl rfl rfl ?_; go_simp))
      (refine Reg.done ?_; simp only [Exit.then])
      go_wp2_with fail
      go_roundw
      case rel => exact ⟨k + 1, by omega, by go_num, HO8, HK8⟩
      case measure => simp [intOf]; omega
    · obtain rfl : k = l.length := by omega
      have HO2 := HO.out
      rw [List.take_length] at HO2
      have hne : 0 < (X ++ l.flatMap opB).length := by
        have := numsB_pos (l.length : Int) []
        rw [HXE.out] at this
        rw [List.length_append]; omega
      have HE : Hid (X ++ l.flatMap opB = opsB l) := Lib.hid (by rw [← HXE.out]; rfl)
      obtain ⟨Z, hZ⟩ : ∃ Z, X ++ l.flatMap opB = Z := ⟨_, rfl⟩
      rw [hZ] at HO2 hne HE
      obtain ⟨A1, c1, rfl, _⟩ := HO2.shape
      obtain ⟨g, o, rfl, _, _, _⟩ := HO2.cell hne
      have hback := HO2.run_back (P := Try.prog) 146 9 bytely
      clear HO HO2 hne hZ
      go_wp2_with fail
      go_ret
      exact ⟨by rw [← HE.out]; rfl, HK.out⟩
end Go.Proofs.Ytobgnklebfdbnaa
