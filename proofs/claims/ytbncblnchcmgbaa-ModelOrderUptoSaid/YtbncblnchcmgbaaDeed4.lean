/-
  The document's operations: SameOp, SameOps.
-/
import Derived.Test.YtbncblnchcmgbaaDeed3
import Derived.Test.YtbncblnchcmgbaaH6L
namespace Go.Proofs.Ytbncblnchcmgbaa
open Go.RowKit Go.ChangeShapes Go.WideShapes Go.ChangeAt

def SameP (a b : OpL) : Prop := a.n = b.n ∧ a.epoch = b.epoch ∧ a.kind = b.kind ∧ a.site = b.site ∧ a.client = b.client ∧ a.seq = b.seq ∧ a.name = b.name ∧ (a.size = b.size ∧ a.hashes = b.hashes)
instance (a b : OpL) : Decidable (SameP a b) := by unfold SameP; exact inferInstance
theorem sameP_iff (a b : OpL) : SameP a b ↔ a = b := by
  constructor
  · rintro ⟨h1, h2, h3, h4, h5, h6, h7, h8, h9⟩
    cases a; cases b
    simp only at *
    subst h1 h2 h3 h4 h5 h6 h7 h8 h9
    rfl
  · rintro rfl
    exact ⟨rfl, rfl, rfl, rfl, rfl, rfl, rfl, rfl, rfl⟩
set_option maxRecDepth 100000 in
set_option maxHeartbeats 2000000 in
theorem r_sameop (a b : OpL) (A1 A2 : Option Addr) (c1 c2 : Nat) (w : World) (S1 S2 : Nat → Prop) (h1 : Rp.str.slice.R w S1 [.slice A1 a.hashes.length c1] a.hashes) (h2 : Rp.str.slice.R w S2 [.slice A2 b.hashes.length c2] b.hashes) :
    Calls Try.prog 34 #[opV a (.slice A1 a.hashes.length c1), opV b (.slice A2 b.hashes.length c2)] w fun x w' => x = .returned (.bool (decide (SameP a b))) ∧ Kp No w w' := by
  have hsm := fun w1 (hk : Kp No w w1) => r_sameS a.size b.size a.hashes b.hashes A1 A2 c1 c2 w1 S1 S2 (Rp.str.slice.keptNo h1 hk) (Rp.str.slice.keptNo h2 hk)
  have HSM := Lib.hid hsm
  clear hsm h1 h2
  obtain ⟨R, hR⟩ : ∃ R, decide (SameP a b) = R := ⟨_, rfl⟩
  rw [hR]
  have HR := Lib.hid hR
  clear hR
  unfold opV SameP at *
  obtain ⟨an, ae, ak, as', ac, aq, anm, asz, ahs⟩ := a
  obtain ⟨bn, be, bk, bs', bc, bq, bnm, bsz, bhs⟩ := b
  simp only at *
  have HK : Hid (Kp No w ((w.alloc (.cells #[.int .i64 an, .int .i64 ae, .int .i64 ak, .int .i64 as', .int .i64 ac, .int .i64 aq, .string anm, .int .i64 asz, .slice A1 ahs.length c1] 38)).alloc (.cells #[.int .i64 bn, .int .i64 be, .int .i64 bk, .int .i64 bs', .int .i64 bc, .int .i64 bq, .string bnm, .int .i64 bsz, .slice A2 bhs.length c2] 38))) := Lib.hid (((Kp.refl _ _).alloc _).alloc _)
  by_cases e1 : an = bn
  case neg =>
    have f : (an == bn) = false := beq_eq_false_iff_ne.2 e1
    have HF : Hid (R = false) := Lib.hid (by rw [← HR.out]; exact decide_eq_false (fun h => e1 h.1))
    go_enter Try.func34, Try.ntmps34
    go_wp2_with fail
    go_ret
    exact ⟨by rw [HF.out]; rfl, HK.out⟩
  subst e1
  by_cases e2 : ae = be
  case neg =>
    have f : (ae == be) = false := beq_eq_false_iff_ne.2 e2
    have HF : Hid (R = false) := Lib.hid (by rw [← HR.out]; exact decide_eq_false (fun h => e2 h.2.1))
    go_enter Try.func34, Try.ntmps34
    go_wp2_with fail
    go_ret
    exact ⟨by rw [HF.out]; rfl, HK.out⟩
  subst e2
  by_cases e3 : ak = bk
  case neg =>
    have f : (ak == bk) = false := beq_eq_false_iff_ne.2 e3
    have HF : Hid (R = false) := Lib.hid (by rw [← HR.out]; exact decide_eq_false (fun h => e3 h.2.2.1))
    go_enter Try.func34, Try.ntmps34
    go_wp2_with fail
    go_ret
    exact ⟨by rw [HF.out]; rfl, HK.out⟩
  subst e3
  by_cases e4 : as' = bs'
  case neg =>
    have f : (as' == bs') = false := beq_eq_false_iff_ne.2 e4
    have HF : Hid (R = false) := Lib.hid (by rw [← HR.out]; exact decide_eq_false (fun h => e4 h.2.2.2.1))
    go_enter Try.func34, Try.ntmps34
    go_wp2_with fail
    go_ret
    exact ⟨by rw [HF.out]; rfl, HK.out⟩
  subst e4
  by_cases e5 : ac = bc
  case neg =>
    have f : (ac == bc) = false := beq_eq_false_iff_ne.2 e5
    have HF : Hid (R = false) := Lib.hid (by rw [← HR.out]; exact decide_eq_false (fun h => e5 h.2.2.2.2.1))
    go_enter Try.func34, Try.ntmps34
    go_wp2_with fail
    go_ret
    exact ⟨by rw [HF.out]; rfl, HK.out⟩
  subst e5
  by_cases e6 : aq = bq
  case neg =>
    have f : (aq == bq) = false := beq_eq_false_iff_ne.2 e6
    have HF : Hid (R = false) := Lib.hid (by rw [← HR.out]; exact decide_eq_false (fun h => e6 h.2.2.2.2.2.1))
    go_enter Try.func34, Try.ntmps34
    go_wp2_with fail
    go_ret
    exact ⟨by rw [HF.out]; rfl, HK.out⟩
  subst e6
  by_cases e7 : anm = bnm
  case neg =>
    have f : (anm.toList == bnm.toList) = false := by rw [bytes_list_beq]; exact decide_eq_false e7
    have HF : Hid (R = false) := Lib.hid (by rw [← HR.out]; exact decide_eq_false (fun h => e7 h.2.2.2.2.2.2.1))
    go_enter Try.func34, Try.ntmps34
    go_wp2_with fail
    go_ret
    exact ⟨by rw [HF.out]; rfl, HK.out⟩
  subst e7
  obtain ⟨Q, hQ⟩ : ∃ Q, decide (asz = bsz ∧ ahs = bhs) = Q := ⟨_, rfl⟩
  rw [hQ] at HSM
  have HRQ : Hid (R = Q) := Lib.hid (by rw [← HR.out, ← hQ]; simp)
  clear hQ HR
  go_enter Try.func34, Try.ntmps34
  go_wp2_with fail
  refine (HSM.out _ HK.out).mono ?_
  rintro x w2 ⟨rfl, hk⟩
  have HK2 := Lib.hid (HK.out.trans' hk)
  clear hk
  go_wp2_with fail
  go_ret
  exact ⟨by rw [HRQ.out]; rfl, HK2.out⟩
def sameOps : List OpL → List OpL → Bool
  | [], [] => true
  | a :: l, b :: m => decide (SameP a b) && sameOps l m
  | _, _ => false
theorem sameOps_iff : ∀ {l m : List OpL}, sameOps l m = true ↔ l = m
  | [], [] => by simp [sameOps]
  | a :: l, b :: m => by
    unfold sameOps
    rw [Bool.and_eq_true, decide_eq_true_iff, sameP_iff, sameOps_iff, List.cons.injEq]
  | [], b :: m => by simp [sameOps]
  | a :: l, [] => by simp [sameOps]
theorem sameOps_length {l m : List OpL} (h : l.length ≠ m.length) : sameOps l m = false := by
  cases hs : sameOps l m with
  | false => rfl
  | true => exact absurd (congrArg List.length (sameOps_iff.1 hs)) h
set_option maxRecDepth 100000 in
set_option maxHeartbeats 2000000 in
theorem r_sameops (l m : List OpL) (A1 A2 : Option Addr) (c1 c2 : Nat) (w : World) (S1 S2 : Nat → Prop) (h1 : Rp.opl.slice.R w S1 [.slice A1 l.length c1] l) (h2 : Rp.opl.slice.R w S2 [.slice A2 m.length c2] m) :
    Calls Try.prog 13 #[.slice A1 l.length c1, .slice A2 m.length c2] w fun x w' => x = .returned (.bool (sameOps l m)) ∧ Kp No w w' := by
  have hll : (l.length : Int) ≤ 9223372036854775807 := by obtain ⟨_, _, _, _, h, _⟩ := h1; unfold maxLen at h; omega
  have hmm : (m.length : Int) ≤ 9223372036854775807 := by obtain ⟨_, _, _, _, h, _⟩ := h2; unfold maxLen at h; omega
  have H1 := Lib.hid h1
  have H2 := Lib.hid h2
  clear h1 h2
  obtain ⟨R, hR⟩ : ∃ R, sameOps l m = R := ⟨_, rfl⟩
  rw [hR]
  have HR := Lib.hid hR
  clear hR
  by_cases hlen : l.length = m.length
  case neg =>
    have f : ((l.length : Int) == (m.length : Int)) = false := beq_eq_false_iff_ne.2 (by omega)
    have HF : Hid (R = false) := Lib.hid (by rw [← HR.out]; exact sameOps_length hlen)
    go_enter Try.func13, Try.ntmps13
    go_wp2_with fail
    go_ret
    exact ⟨by rw [HF.out]; rfl, Kp.refl _ _⟩
  have f : ((l.length : Int) != (m.length : Int)) = false := by simp [hlen]
  have hlm := Lib.hid hlen
  clear hlen
  go_enter Try.func13, Try.ntmps13
  go_wp2_with fail
  go_loopw [5] (fun iv wr => ∃ i : Nat, i ≤ l.length ∧ iv = .int .i64 (i : Int) ∧ Hid (R = sameOps (l.drop i) (m.drop i)) ∧ Hid (Kp No w wr)) (fun iv _ => l.length - (intOf iv).toNat)
  case atStart => exact ⟨0, Nat.zero_le _, rfl, Lib.hid (by rw [← HR.out]; rfl), Lib.hid (Kp.refl _ _)⟩
  case round =>
    clear HR
    obtain ⟨i, hi, rfl, HR, HK⟩ := hrel
    by_cases hlt : i < l.length
    · have hli : (i : Int) < (l.length : Int) := by omega
      have hmi : (i : Int) < (m.length : Int) := by rw [← hlm.out]; omega
      obtain ⟨a, ha⟩ : ∃ a, l[i]? = some a := ⟨_, List.getElem?_eq_getElem hlt⟩
      obtain ⟨b, hb⟩ : ∃ b, m[i]? = some b := ⟨_, List.getElem?_eq_getElem (by rw [← hlm.out]; omega)⟩
      have hR2 := HR.out
      rw [dropC ha, dropC hb, sameOps] at hR2
      obtain ⟨ad1, B1, d1, rfl, _, hc1, _, hh1⟩ := Rp.at_opl (Rp.opl.slice.keptNo H1.out HK.out) ha
      obtain ⟨ad2, B2, d2, rfl, _, hc2, _, hh2⟩ := Rp.at_opl (Rp.opl.slice.keptNo H2.out HK.out) hb
      obtain ⟨y0, y1, y2, y3, y4, y5, y6, y7, y8⟩ := opl_cells hc1
      obtain ⟨z0, z1, z2, z3, z4, z5, z6, z7, z8⟩ := opl_cells hc2
      have hso := fun w2 (hk : Kp No wr w2) => r_sameop a b B1 B2 d1 d2 w2 S1 S2 (Rp.str.slice.keptNo hh1 hk) (Rp.str.slice.keptNo hh2 hk)
      obtain ⟨Q, hQ⟩ : ∃ Q, decide (SameP a b) = Q := ⟨_, rfl⟩
      rw [hQ] at hso hR2
      unfold opV at hso
      have HSO := Lib.hid hso
      have HR2 := Lib.hid hR2
      clear ha hb hR2 hc1 hc2 hh1 hh2 hso hQ HR
      obtain ⟨an, ae, ak, as', ac, aq, anm, asz, ahs⟩ := a
      obtain ⟨bn, be, bk, bs', bc, bq, bnm, bsz, bhs⟩ := b
      simp only at *
      go_wp2_with fail
      refine Reg.wp_region_plan [⟨0, false, []⟩, ⟨1, false, []⟩, ⟨2, false, []⟩, ⟨3, false, []⟩, ⟨4, false, []⟩, ⟨5, false, []⟩, ⟨6, false, []⟩, ⟨7, false, []⟩, ⟨8, true, []⟩, ⟨9, false, []⟩] rfl (by kernel_rfl) ?_
      repeat (first | (refine Reg.look rfl rfl rfl (by go_simp; rfl) rfl ?_; go_simp) | (refine Reg.skip rfl rfl rfl ?_; go_simp))
      refine Reg.act rfl ?_
      go_wp2_with fail
      refine (HSO.out _ ((Kp.refl No wr).drew)).mono ?_
      rintro x w2 ⟨rfl, hk⟩
      have HK2 := Lib.hid (HK.out.trans' (((Kp.refl No wr).drew).trans' hk))
      clear hk y0 y1 y2 y3 y4 y5 y6 y7 y8 z0 z1 z2 z3 z4 z5 z6 z7 z8
      go_wp2_with fail
      (refine ⟨?anew, ?_⟩; case anew => ((repeat (refine Reg.anew_cons rfl rfl (fun _ => by go_simp) ?_)); exact Reg.anew_nil))
      repeat (first | (refine Reg.look rfl rfl rfl (by go_simp; rfl) rfl ?_; go_simp) | (refine Reg.skip rfl rfl rfl ?_; go_simp))
      (refine Reg.done ?_; simp only [Exit.then])
      cases Q with
      | true =>
        have HG : Hid (R = sameOps (l.drop (i + 1)) (m.drop (i + 1))) := Lib.hid (by rw [HR2.out]; rfl)
        go_wp2_with fail
        go_roundw
        case rel => exact ⟨i + 1, by omega, by go_num, HG, HK2⟩
        case measure => simp [intOf]; omega
      | false =>
        have HF : Hid (R = false) := Lib.hid (by rw [HR2.out]; rfl)
        go_wp2_with fail
        go_ret
        exact ⟨by rw [HF.out]; rfl, HK2.out⟩
    · obtain rfl : i = l.length := by omega
      have HT : Hid (R = true) := Lib.hid (by rw [HR.out, List.drop_length, hlm.out, List.drop_length]; rfl)
      go_wp2_with fail
      go_ret
      exact ⟨by rw [HT.out]; rfl, HK.out⟩
end Go.Proofs.Ytbncblnchcmgbaa
