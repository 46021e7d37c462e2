/-
  Two ledgers that have an operation of the same number and epoch have the same operations up to it, if each epoch is given to one site and each site ships its own: LedgerMatch answers true for every input of bulk at most 1048576. (Said is false BY SIZE.)
-/
import Derived.Test.YtbncblnchcmgbaaH2L
import Derived.Test.YtbncblnchcmgbaaSame
import Derived.Test.YtbncblnchcmgbaaDeed3
import Derived.Test.YtbncblnchcmgbaaTownA
import Derived.Test.YtbncblnchcmgbaaLedQ
import Derived.Test.YtbncblnchcmgbaaSml
import Derived.Test.YtbncblnchcmgbaaTurn
import Derived.Test.YtbncblnchcmgbaaDeed7
import Derived.Test.YtbncblnchcmgbaaAwk12
import Derived.Test.YtbncblnchcmgbaaTurnM
import Derived.BigQuiet
namespace Go.Proofs.Ytbncblnchcmgbaa
section
open Go.RowKit Go.ChangeShapes Go.WideShapes Go.ChangeAt

set_option maxRecDepth 100000 in
set_option maxHeartbeats 1000000 in
theorem r_sameS (n m : Int) (l1 l2 : List ByteArray) (A1 A2 : Option Addr) (c1 c2 : Nat) (w : World) (S1 S2 : Nat → Prop) (h1 : Rp.str.slice.R w S1 [.slice A1 l1.length c1] l1) (h2 : Rp.str.slice.R w S2 [.slice A2 l2.length c2] l2) :
    Calls Try.prog 39 #[.agg #[.int .i64 n, .slice A1 l1.length c1], .agg #[.int .i64 m, .slice A2 l2.length c2]] w fun e w' => e = .returned (.bool (decide (n = m ∧ l1 = l2))) ∧ Kp No w w' := by
  have H1 := Lib.hid h1
  have H2 := Lib.hid h2
  clear h1 h2
  by_cases hnm : n = m
  · subst hnm
    have hd : decide (n = n ∧ l1 = l2) = decide (l1 = l2) := by simp
    rw [hd]
    clear hd
    go_enter Try.func39, Try.ntmps39
    go_wp2_with fail
    obtain ⟨w1, hw1⟩ : ∃ w1, (w.alloc (.cells #[.int .i64 n, .slice A1 l1.length c1] 36)).alloc (.cells #[.int .i64 n, .slice A2 l2.length c2] 36) = w1 := ⟨_, rfl⟩
    have HK1 : Hid (Kp No w w1) := Lib.hid (by rw [← hw1]; exact ((Kp.refl _ _).alloc _).alloc _)
    rw [hw1]
    clear hw1
    refine (r_same l1 l2 A1 A2 c1 c2 w1 S1 S2 (Rp.str.slice.keptNo H1.out HK1.out) (Rp.str.slice.keptNo H2.out HK1.out)).mono ?_
    rintro e w2 ⟨rfl, k, rfl⟩
    go_wp2_with fail
    go_ret
    exact ⟨rfl, HK1.out.drewN k⟩
  · have hd : decide (n = m ∧ l1 = l2) = false := decide_eq_false (fun h => hnm h.1)
    have hq : (n == m) = false := by simp [hnm]
    rw [hd]
    clear hd
    go_enter Try.func39, Try.ntmps39
    go_wp2_with fail
    go_ret
    exact ⟨rfl, ((Kp.refl _ _).alloc _).alloc _⟩
end

section
open Go.RowKit Go.ChangeShapes Go.WideShapes Go.ChangeAt

def SameP (a b : OpL) : Prop := a.n = b.n ∧ a.epoch = b.epoch ∧ a.kind = b.kind ∧ a.site = b.site ∧ a.client = b.client ∧ a.seq = b.seq ∧ a.name = b.name ∧ (a.size = b.size ∧ a.hashes = b.hashes)
instance (a b : OpL) : Decidable (SameP a b) := by unfold SameP; exact inferInstance
theorem sameP_iff (a b : OpL) : SameP a b ↔ a = b := by
  constructor
  · rintro ⟨h1, h2, h3, h4, h5, h6, h7, h8, h9⟩
    cases a; cases b
    simp only at *
    subst h1 h2 h3 h4 h5 h6 h7 h8 h9
    rfl
  · rintro rfl
    exact ⟨rfl, rfl, rfl, rfl, rfl, rfl, rfl, rfl, rfl⟩
set_option maxRecDepth 100000 in
set_option maxHeartbeats 2000000 in
theorem r_sameop (a b : OpL) (A1 A2 : Option Addr) (c1 c2 : Nat) (w : World) (S1 S2 : Nat → Prop) (h1 : Rp.str.slice.R w S1 [.slice A1 a.hashes.length c1] a.hashes) (h2 : Rp.str.slice.R w S2 [.slice A2 b.hashes.length c2] b.hashes) :
    Calls Try.prog 34 #[opV a (.slice A1 a.hashes.length c1), opV b (.slice A2 b.hashes.length c2)] w fun x w' => x = .returned (.bool (decide (SameP a b))) ∧ Kp No w w' := by
  have hsm := fun w1 (hk : Kp No w w1) => r_sameS a.size b.size a.hashes b.hashes A1 A2 c1 c2 w1 S1 S2 (Rp.str.slice.keptNo h1 hk) (Rp.str.slice.keptNo h2 hk)
  have HSM := Lib.hid hsm
  clear hsm h1 h2
  obtain ⟨R, hR⟩ : ∃ R, decide (SameP a b) = R := ⟨_, rfl⟩
  rw [hR]
  have HR := Lib.hid hR
  clear hR
  unfold opV SameP at *
  obtain ⟨an, ae, ak, as', ac, aq, anm, asz, ahs⟩ := a
  obtain ⟨bn, be, bk, bs', bc, bq, bnm, bsz, bhs⟩ := b
  simp only at *
  have HK : Hid (Kp No w ((w.alloc (.cells #[.int .i64 an, .int .i64 ae, .int .i64 ak, .int .i64 as', .int .i64 ac, .int .i64 aq, .string anm, .int .i64 asz, .slice A1 ahs.length c1] 38)).alloc (.cells #[.int .i64 bn, .int .i64 be, .int .i64 bk, .int .i64 bs', .int .i64 bc, .int .i64 bq, .string bnm, .int .i64 bsz, .slice A2 bhs.length c2] 38))) := Lib.hid (((Kp.refl _ _).alloc _).alloc _)
  by_cases e1 : an = bn
  case neg =>
    have f : (an == bn) = false := beq_eq_false_iff_ne.2 e1
    have HF : Hid (R = false) := Lib.hid (by rw [← HR.out]; exact decide_eq_false (fun h => e1 h.1))
    go_enter Try.func34, Try.ntmps34
    go_wp2_with fail
    go_ret
    exact ⟨by rw [HF.out]; rfl, HK.out⟩
  subst e1
  by_cases e2 : ae = be
  case neg =>
    have f : (ae == be) = false := beq_eq_false_iff_ne.2 e2
    have HF : Hid (R = false) := Lib.hid (by rw [← HR.out]; exact decide_eq_false (fun h => e2 h.2.1))
    go_enter Try.func34, Try.ntmps34
    go_wp2_with fail
    go_ret
    exact ⟨by rw [HF.out]; rfl, HK.out⟩
  subst e2
  by_cases e3 : ak = bk
  case neg =>
    have f : (ak == bk) = false := beq_eq_false_iff_ne.2 e3
    have HF : Hid (R = false) := Lib.hid (by rw [← HR.out]; exact decide_eq_false (fun h => e3 h.2.2.1))
    go_enter Try.func34, Try.ntmps34
    go_wp2_with fail
    go_ret
    exact ⟨by rw [HF.out]; rfl, HK.out⟩
  subst e3
  by_cases e4 : as' = bs'
  case neg =>
    have f : (as' == bs') = false := beq_eq_false_iff_ne.2 e4
    have HF : Hid (R = false) := Lib.hid (by rw [← HR.out]; exact decide_eq_false (fun h => e4 h.2.2.2.1))
    go_enter Try.func34, Try.ntmps34
    go_wp2_with fail
    go_ret
    exact ⟨by rw [HF.out]; rfl, HK.out⟩
  subst e4
  by_cases e5 : ac = bc
  case neg =>
    have f : (ac == bc) = false := beq_eq_false_iff_ne.2 e5
    have HF : Hid (R = false) := Lib.hid (by rw [← HR.out]; exact decide_eq_false (fun h => e5 h.2.2.2.2.1))
    go_enter Try.func34, Try.ntmps34
    go_wp2_with fail
    go_ret
    exact ⟨by rw [HF.out]; rfl, HK.out⟩
  subst e5
  by_cases e6 : aq = bq
  case neg =>
    have f : (aq == bq) = false := beq_eq_false_iff_ne.2 e6
    have HF : Hid (R = false) := Lib.hid (by rw [← HR.out]; exact decide_eq_false (fun h => e6 h.2.2.2.2.2.1))
    go_enter Try.func34, Try.ntmps34
    go_wp2_with fail
    go_ret
    exact ⟨by rw [HF.out]; rfl, HK.out⟩
  subst e6
  by_cases e7 : anm = bnm
  case neg =>
    have f : (anm.toList == bnm.toList) = false := by rw [bytes_list_beq]; exact decide_eq_false e7
    have HF : Hid (R = false) := Lib.hid (by rw [← HR.out]; exact decide_eq_false (fun h => e7 h.2.2.2.2.2.2.1))
    go_enter Try.func34, Try.ntmps34
    go_wp2_with fail
    go_ret
    exact ⟨by rw [HF.out]; rfl, HK.out⟩
  subst e7
  obtain ⟨Q, hQ⟩ : ∃ Q, decide (asz = bsz ∧ ahs = bhs) = Q := ⟨_, rfl⟩
  rw [hQ] at HSM
  have HRQ : Hid (R = Q) := Lib.hid (by rw [← HR.out, ← hQ]; simp)
  clear hQ HR
  go_enter Try.func34, Try.ntmps34
  go_wp2_with fail
  refine (HSM.out _ HK.out).mono ?_
  rintro x w2 ⟨rfl, hk⟩
  have HK2 := Lib.hid (HK.out.trans' hk)
  clear hk
  go_wp2_with fail
  go_ret
  exact ⟨by rw [HRQ.out]; rfl, HK2.out⟩
def sameOps : List OpL → List OpL → Bool
  | [], [] => true
  | a :: l, b :: m => decide (SameP a b) && sameOps l m
  | _, _ => false
theorem sameOps_iff : ∀ {l m : List OpL}, sameOps l m = true ↔ l = m
  | [], [] => by simp [sameOps]
  | a :: l, b :: m => by
    unfold sameOps
    rw [Bool.and_eq_true, decide_eq_true_iff, sameP_iff, sameOps_iff, List.cons.injEq]
  | [], b :: m => by simp [sameOps]
  | a :: l, [] => by simp [sameOps]
theorem sameOps_length {l m : List OpL} (h : l.length ≠ m.length) : sameOps l m = false := by
  cases hs : sameOps l m with
  | false => rfl
  | true => exact absurd (congrArg List.length (sameOps_iff.1 hs)) h
set_option maxRecDepth 100000 in
set_option maxHeartbeats 2000000 in
theorem r_sameops (l m : List OpL) (A1 A2 : Option Addr) (c1 c2 : Nat) (w : World) (S1 S2 : Nat → Prop) (h1 : Rp.opl.slice.R w S1 [.slice A1 l.length c1] l) (h2 : Rp.opl.slice.R w S2 [.slice A2 m.length c2] m) :
    Calls Try.prog 13 #[.slice A1 l.length c1, .slice A2 m.length c2] w fun x w' => x = .returned (.bool (sameOps l m)) ∧ Kp No w w' := by
  have hll : (l.length : Int) ≤ 9223372036854775807 := by obtain ⟨_, _, _, _, h, _⟩ := h1; unfold maxLen at h; omega
  have hmm : (m.length : Int) ≤ 9223372036854775807 := by obtain ⟨_, _, _, _, h, _⟩ := h2; unfold maxLen at h; omega
  have H1 := Lib.hid h1
  have H2 := Lib.hid h2
  clear h1 h2
  obtain ⟨R, hR⟩ : ∃ R, sameOps l m = R := ⟨_, rfl⟩
  rw [hR]
  have HR := Lib.hid hR
  clear hR
  by_cases hlen : l.length = m.length
  case neg =>
    have f : ((l.length : Int) == (m.length : Int)) = false := beq_eq_false_iff_ne.2 (by omega)
    have HF : Hid (R = false) := Lib.hid (by rw [← HR.out]; exact sameOps_length hlen)
    go_enter Try.func13, Try.ntmps13
    go_wp2_with fail
    go_ret
    exact ⟨by rw [HF.out]; rfl, Kp.refl _ _⟩
  have f : ((l.length : Int) != (m.length : Int)) = false := by simp [hlen]
  have hlm := Lib.hid hlen
  clear hlen
  go_enter Try.func13, Try.ntmps13
  go_wp2_with fail
  go_loopw [5] (fun iv wr => ∃ i : Nat, i ≤ l.length ∧ iv = .int .i64 (i : Int) ∧ Hid (R = sameOps (l.drop i) (m.drop i)) ∧ Hid (Kp No w wr)) (fun iv _ => l.length - (intOf iv).toNat)
  case atStart => exact ⟨0, Nat.zero_le _, rfl, Lib.hid (by rw [← HR.out]; rfl), Lib.hid (Kp.refl _ _)⟩
  case round =>
    clear HR
    obtain ⟨i, hi, rfl, HR, HK⟩ := hrel
    by_cases hlt : i < l.length
    · have hli : (i : Int) < (l.length : Int) := by omega
      have hmi : (i : Int) < (m.length : Int) := by rw [← hlm.out]; omega
      obtain ⟨a, ha⟩ : ∃ a, l[i]? = some a := ⟨_, List.getElem?_eq_getElem hlt⟩
      obtain ⟨b, hb⟩ : ∃ b, m[i]? = some b := ⟨_, List.getElem?_eq_getElem (by rw [← hlm.out]; omega)⟩
      have hR2 := HR.out
      rw [dropC ha, dropC hb, sameOps] at hR2
      obtain ⟨ad1, B1, d1, rfl, _, hc1, _, hh1⟩ := Rp.at_opl (Rp.opl.slice.keptNo H1.out HK.out) ha
      obtain ⟨ad2, B2, d2, rfl, _, hc2, _, hh2⟩ := Rp.at_opl (Rp.opl.slice.keptNo H2.out HK.out) hb
      obtain ⟨y0, y1, y2, y3, y4, y5, y6, y7, y8⟩ := opl_cells hc1
      obtain ⟨z0, z1, z2, z3, z4, z5, z6, z7, z8⟩ := opl_cells hc2
      have hso := fun w2 (hk : Kp No wr w2) => r_sameop a b B1 B2 d1 d2 w2 S1 S2 (Rp.str.slice.keptNo hh1 hk) (Rp.str.slice.keptNo hh2 hk)
      obtain ⟨Q, hQ⟩ : ∃ Q, decide (SameP a b) = Q := ⟨_, rfl⟩
      rw [hQ] at hso hR2
      unfold opV at hso
      have HSO := Lib.hid hso
      have HR2 := Lib.hid hR2
      clear ha hb hR2 hc1 hc2 hh1 hh2 hso hQ HR
      obtain ⟨an, ae, ak, as', ac, aq, anm, asz, ahs⟩ := a
      obtain ⟨bn, be, bk, bs', bc, bq, bnm, bsz, bhs⟩ := b
      simp only at *
      go_wp2_with fail
      refine Reg.wp_region_plan [⟨0, false, []⟩, ⟨1, false, []⟩, ⟨2, false, []⟩, ⟨3, false, []⟩, ⟨4, false, []⟩, ⟨5, false, []⟩, ⟨6, false, []⟩, ⟨7, false, []⟩, ⟨8, true, []⟩, ⟨9, false, []⟩] rfl (by kernel_rfl) ?_
      repeat (first | (refine Reg.look rfl rfl rfl (by go_simp; rfl) rfl ?_; go_simp) | (refine Reg.skip rfl rfl rfl ?_; go_simp))
      refine Reg.act rfl ?_
      go_wp2_with fail
      refine (HSO.out _ ((Kp.refl No wr).drew)).mono ?_
      rintro x w2 ⟨rfl, hk⟩
      have HK2 := Lib.hid (HK.out.trans' (((Kp.refl No wr).drew).trans' hk))
      clear hk y0 y1 y2 y3 y4 y5 y6 y7 y8 z0 z1 z2 z3 z4 z5 z6 z7 z8
      go_wp2_with fail
      (refine ⟨?anew, ?_⟩; case anew => ((repeat (refine Reg.anew_cons rfl rfl (fun _ => by go_simp) ?_)); exact Reg.anew_nil))
      repeat (first | (refine Reg.look rfl rfl rfl (by go_simp; rfl) rfl ?_; go_simp) | (refine Reg.skip rfl rfl rfl ?_; go_simp))
      (refine Reg.done ?_; simp only [Exit.then])
      cases Q with
      | true =>
        have HG : Hid (R = sameOps (l.drop (i + 1)) (m.drop (i + 1))) := Lib.hid (by rw [HR2.out]; rfl)
        go_wp2_with fail
        go_roundw
        case rel => exact ⟨i + 1, by omega, by go_num, HG, HK2⟩
        case measure => simp [intOf]; omega
      | false =>
        have HF : Hid (R = false) := Lib.hid (by rw [HR2.out]; rfl)
        go_wp2_with fail
        go_ret
        exact ⟨by rw [HF.out]; rfl, HK2.out⟩
    · obtain rfl : i = l.length := by omega
      have HT : Hid (R = true) := Lib.hid (by rw [HR.out, List.drop_length, hlm.out, List.drop_length]; rfl)
      go_wp2_with fail
      go_ret
      exact ⟨by rw [HT.out]; rfl, HK.out⟩
end

section
open Go.RowKit Go.ChangeShapes Go.WideShapes Go.ChangeAt

theorem TIn.begins {n0 : Nat} {w : World} {t xf xt : Nat} {Ff Ft : Nat → Prop} {q r : Int} (hb : Blk w t 30 [.pointer (some ⟨xf, 0, none⟩), .pointer (some ⟨xt, 0, none⟩), .int .i64 0, .slice none 0 0, .slice none 0 0])
    (h0 : LAt w xf (newL q r) Ff) (h1 : LAt w xt (newL q r) Ft) (hap : ∀ k, Ff k → ¬ Ft k) (hft : ¬ Ff t) (hft2 : ¬ Ft t) (hfb : ∀ k, Ff k → n0 ≤ k) (hfb2 : ∀ k, Ft k → n0 ≤ k) (ht : n0 ≤ t) :
    TIn n0 w t (fun b => bif b then xt else xf) (fun b => bif b then Ft else Ff) (.slice none 0 0) (.slice none 0 0) No ⟨fun _ => newL q r, 0, []⟩ := by
  refine ⟨hb, fun b => ?_, Own.nil _ _ _ _ _, Own.nil _ _ _ _ _, hap, fun b => ?_, fun b k _ => ⟨fun h => h, by simp [Value.ownBlock], by simp [Value.ownBlock]⟩, ⟨fun h => h, by simp [Value.ownBlock], by simp [Value.ownBlock]⟩, fun k h => h.elim, fun k h => by simp [Value.ownBlock] at h, fun k h => h.elim, fun b k => ?_, ht⟩
  · cases b
    · exact h0
    · exact h1
  · cases b
    · exact hft
    · exact hft2
  · cases b
    · exact hfb k
    · exact hfb2 k
theorem turn_small {l : List TurnL} (h : Rp.turn.slice.μ l ≤ 1048576) : ∀ x ∈ l, x.op.hashes.length ≤ 1048575 := fun x hx => by
  have e : Rp.turn.slice.μ l = 1 + Rp.sumμ Rp.turn.μ l := rfl
  have h3 := sumμ_memL (f := Rp.turn.μ) hx
  have e2 : Rp.turn.μ x = Rp.opl.μ x.op := rfl
  have h4 := opl_μ x.op
  omega
def cmdO (o : OpL) : CmdL := ⟨0, 0, 0, o, 0, 0, [], 0⟩
theorem cmdO_small {o : OpL} (h : o.hashes.length ≤ 1048575) : ∀ c ∈ [cmdO o], SmallC 1048576 1048576 c := fun c hc => by
  rw [List.mem_singleton.1 hc]
  exact ⟨by show o.hashes.length ≤ _; omega, by show (0 : Nat) ≤ _; omega, fun o ho => absurd ho List.not_mem_nil⟩
theorem cmdO_nums {o : OpL} (h : o.nums) : (cmdO o).nums := by
  have z : I64 0 := rfl
  exact ⟨z, z, z, h, z, z, z⟩
end

section
open Go.RowKit Go.ChangeShapes Go.WideShapes Go.ChangeAt

/-- The walk that gives LedgerMatchUpto. -/
def LedgerMatchUptoWalk : Prop := ∀ (W : World) (v0 : Value) (a0 : (List TurnL)), (Rp.slice Rp.turn).R W (fun k => k < W.heap.size) [v0] a0 → (Rp.slice Rp.turn).μ a0 ≤ 1048576 →
    Calls Try.prog 3 #[v0] W fun e w' => e = .returned (.bool true) ∧ Kp No W w'

set_option maxRecDepth 100000 in
theorem ledgerMatchUpto_contract (walk : LedgerMatchUptoWalk) (H : Type) (enc : TypeId × Value → H) (W : World) (base : Nat) (args : Array Value) (ds gs : List (DataW H)) (before : List MemPlace)
    (hval : ∀ (j : Nat) t v, Try.f3.params[j]? = some t → args[j]? = some v → Value.okWide Try.prog W .any base t v)
    (hW : DataW.Whole enc Try.prog Try.f3.params.toList Rows.ledgerMatchSpec.vars false W args.toList ds gs before) (hk : Rows.uptoSmall H (ds ++ gs) = true) :
    Calls Try.prog 3 args W fun e W' => ∃ v, e = .returned v ∧ Rows.ledgerMatchSpec.post enc Try.prog Try.f3 false true false false W args v W' := by
  have hW' := hW
  obtain ⟨p, q, hA0, hV, rfl, hfz, hnd⟩ := hW
  have hA : DataW.TrodAll enc Try.prog W 0 (fun _ => true) true Try.f3.params.toList args.toList ds p := hA0
  rw [Try.params3] at hA hval
  obtain ⟨v0, vs0, d0, ds0, p0, q0, hargs, rfl, rfl, h0, r0⟩ := trodAll_cons hA
  obtain ⟨rfl, rfl, rfl⟩ := trodAll_nil r0
  obtain rfl : args = #[v0] := by cases args; simp_all
  obtain ⟨rfl, rfl⟩ := trodVars_none hV
  clear hA0
  have c0 : v0.cells.toList = [v0] := one_of_slice (okWide_slice Try.underlying22 (hval 0 22 v0 rfl rfl))
  obtain ⟨a0, e0, m0⟩ := Arg.one (Arg.slice Try.underlying22 (by kernel_rfl) (Arg.turn Try.underlying40 (by kernel_rfl) (by kernel_rfl) (by kernel_rfl) Try.underlying3 Try.underlying3 Try.underlying3 Try.underlying3 (Arg.opl Try.underlying38 (by kernel_rfl) (by kernel_rfl) (by kernel_rfl) Try.underlying3 Try.underlying3 Try.underlying3 Try.underlying3 Try.underlying3 Try.underlying3 Try.underlying9 (Arg.sht Try.underlying36 (by kernel_rfl) (by kernel_rfl) (by kernel_rfl) Try.underlying3 (Arg.slice Try.underlying34 (by kernel_rfl) (Arg.str Try.underlying9)))))) c0 h0
  have hbd := bound_of hk
  simp only [List.append_nil, Rows.uptoBulkAll] at hbd
  refine (walk W v0 a0 e0 (by omega)).mono fun e W' ⟨he, hb⟩ => ?_
  subst he
  refine ⟨_, rfl, post_of_law (tb := 4) (by kernel_rfl) ?_ (by kernel_rfl) Try.underlying4 rfl ?_ hW' hb⟩
  · rw [Try.params3]
    intro t ht
    simp only [List.mem_cons, List.not_mem_nil, or_false] at ht
    rcases ht with rfl <;> exact ⟨by kernel_rfl, by decide +kernel⟩
  · rw [Try.params3]
    intro l hl
    match l, hl with
    | [x0], _ => rfl

set_option maxRecDepth 100000 in
theorem ledgerMatchUpto_lifted (walk : LedgerMatchUptoWalk) (os : Os) (started : os.Started) (H : Type) (enc : TypeId × Value → H) (F : Stop.Interp) :
    ReturnsInHanded {} Try.checked os 3 .any ((Rows.OpenSpec.upto Rows.ledgerMatchSpec).pre6 enc Try.prog Try.f3 Rows.ledgerMatchUptoRow.domain false) (((Rows.OpenSpec.upto Rows.ledgerMatchSpec).at F).post enc Try.prog Try.f3 false true false false) := by
  refine returnsInHanded_of_cond (C := Try.checked) (s := (Rows.OpenSpec.upto Rows.ledgerMatchSpec)) (k := Rows.uptoSmall) rfl (by kernel_rfl : ownKnob Try.prog.godebug = none) started (by kernel_rfl) Try.func3
    (OpenSpec.witness (enc := enc) (C := Try.checked) (s := (Rows.OpenSpec.upto Rows.ledgerMatchSpec)) (k := Rows.uptoSmall) rfl false ⟨#[], #[.slice none 0 0], []⟩ 8 (by kernel_rfl) (by kernel_rfl) (by kernel_rfl)
      (x := ([.nil], [], [])) (by kernel_rfl) rfl (by kernel_rfl)) ?_
  intro W base args ds gs before hval hW _ hk _
  exact ledgerMatchUpto_contract walk H enc W base args ds gs before hval hW hk
theorem ledgerMatchUpto_of (walk : LedgerMatchUptoWalk) : Rows.LedgerMatchUptoSaid :=
  OpenClaim.holds_of_cond 3 Try.f3 rfl rfl rfl rfl rfl rfl rfl ⟨rfl, rfl, rfl, rfl, rfl⟩ rfl rfl rfl rfl rfl (by kernel_rfl) Try.func3 (by kernel_rfl)
    (of_decide_eq_true (by kernel_rfl)) (by unfold Func.isWrapper; first | (rw [if_pos (by decide +kernel)]; kernel_rfl) | (rw [if_neg (by decide +kernel)]; exact ⟨rfl, rfl⟩))
    (fun os started H enc _ F => ledgerMatchUpto_lifted walk os started H enc F)
end

section
open Go.RowKit Go.ChangeShapes Go.WideShapes Go.ChangeAt

theorem capL_le {α : Type} {E : Rp α} {w : World} {S : Nat → Prop} {A : Option Addr} {n c : Nat} {l : List α} (h : E.slice.R w S [.slice A n c] l) : l.length ≤ c := by
  obtain ⟨A', c', he, h1, _⟩ := h
  simp only [List.cons.injEq, Value.slice.injEq, and_true] at he
  omega
theorem wpList_loadW {P : Program} {ops : Array Oper} {rest : List Oper} {o : Oper} {a : Act} {w w' : World} {Q : Exit → Act → World → Prop} (hw : Region.wanted o (yielded ops a.tmps) = true) (t : TypeId) (x : Operand) (ho : o.op = .load t x) (v u : Value) (he : a.eval x = v)
    (hr : (Instr.loadAt t v).run P w = .ok u w')
    (h : wpList P ops Q rest (a.put o.dst u) w') : wpList P ops Q (o :: rest) a w := by
  refine wpList_step fun K hK => ?_
  rw [if_pos hw]
  unfold Oper.wp execOp
  simp only [ho, he, Sem.run_bind, hr, Result.andThen_ok]
  exact hK _ _ h
theorem wpList_buildW {P : Program} {ops : Array Oper} {rest : List Oper} {o : Oper} {a : Act} {w w' : World} {Q : Exit → Act → World → Prop} (hw : Region.wanted o (yielded ops a.tmps) = true) (t : TypeId) (j : Nat) (x : Operand) (ho : o.op = .build t #[(j, x)]) (v u : Value) (he : a.eval x = v)
    (hr : (Instr.build t #[(j, v)]).run P w = .ok u w')
    (h : wpList P ops Q rest (a.put o.dst u) w') : wpList P ops Q (o :: rest) a w := by
  refine wpList_step fun K hK => ?_
  rw [if_pos hw]
  have e : (#[(j, x)] : Array (Nat × Operand)).map (fun (i, x) => (i, a.eval x)) = #[(j, v)] := by simp [he]
  unfold Oper.wp execOp
  simp only [ho, Sem.run_bind, e, hr, Result.andThen_ok]
  exact hK _ _ h
theorem run_build3 (w : World) (on oe ok os oc oq : Int) (onm : ByteArray) (osz : Int) (A : Option Addr) (n c : Nat) : (Instr.build 44 #[(3, .agg #[.int .i64 on, .int .i64 oe, .int .i64 ok, .int .i64 os, .int .i64 oc, .int .i64 oq, .string onm, .int .i64 osz, .slice A n c])]).run Try.prog w = .ok (.agg #[.int .i64 0, .int .i64 0, .int .i64 0, .int .i64 on, .int .i64 oe, .int .i64 ok, .int .i64 os, .int .i64 oc, .int .i64 oq, .string onm, .int .i64 osz, .slice A n c, .int .i64 0, .int .i64 0, .slice none 0 0, .int .i64 0]) w := by go_simp
set_option maxRecDepth 100000 in
set_option maxHeartbeats 40000000 in
theorem ledgerMatchUpto_walk : LedgerMatchUptoWalk := by
  intro W v0 turns h0 hμ
  obtain ⟨As, cas, hv0, hcap, hmx, hrt⟩ := id h0
  simp only [List.cons.injEq, and_true] at hv0
  subst hv0
  have hll : (turns.length : Int) ≤ 9223372036854775807 := by unfold maxLen at hmx; omega
  have HTU := Lib.hid h0
  have HSM := Lib.hid (turn_small hμ)
  clear h0 hμ hcap hmx hrt
  go_enter Try.func3, Try.ntmps3
  go_wp2_with fail
  refine (h_awake12 W).mono ?_
  rintro e w1 ⟨rfl, hk1⟩
  have HK1 := Lib.hid hk1
  clear hk1
  by_cases h200 : (200 : Int) < (turns.length : Int)
  · go_wp2_with fail
    refine (h_awake12 w1).mono ?_
    rintro e wz ⟨rfl, hkz⟩
    have HKZ := Lib.hid (HK1.out.trans' hkz)
    clear hkz
    go_wp2_with fail
    go_ret
    exact ⟨rfl, HKZ.out⟩
  have hn200 : (turns.length : Int) ≤ 200 := by omega
  obtain ⟨t, ht⟩ : ∃ v, w1.heap.size = v := ⟨_, rfl⟩
  obtain ⟨wa, hwa⟩ : ∃ v, w1.alloc (.cells #[.pointer none, .pointer none, .int .i64 0, .slice none 0 0, .slice none 0 0] 30) = v := ⟨_, rfl⟩
  have HKA : Hid (Kp No W wa) := Lib.hid (by rw [← hwa]; exact HK1.out.alloc _)
  have HBA : Hid (Blk wa t 30 [.pointer none, .pointer none, .int .i64 0, .slice none 0 0, .slice none 0 0]) := Lib.hid (by rw [← hwa, ← ht]; exact Blk.new w1 _ _)
  have HTW : Hid (W.heap.size ≤ t) := Lib.hid (by rw [← ht]; exact HK1.out.size)
  go_wp2_with fail
  clear hwa ht
  go_loopw [20] (fun iv wr => (iv = .int .i64 0 ∧ wr = wa) ∨ (∃ xf Ff, iv = .int .i64 1 ∧ Hid (Blk wr t 30 [.pointer (some ⟨xf, 0, none⟩), .pointer none, .int .i64 0, .slice none 0 0, .slice none 0 0]) ∧ Hid (LAt wr xf (newL 65536 64) Ff) ∧ Hid (¬ Ff t) ∧ Hid (∀ k, Ff k → W.heap.size ≤ k) ∧ Hid (Kp No W wr)) ∨
    (iv = .int .i64 2 ∧ Hid (TNew W wr t ⟨fun _ => newL 65536 64, 0, []⟩))) (fun iv _ => 2 - (intOf iv).toNat)
  case atStart => exact .inl ⟨rfl, rfl⟩
  case round =>
    rename_i yQ yh yK yH
    rcases hrel with ⟨rfl, rfl⟩ | ⟨xf, Ff, rfl, HB, HL, HFT, HFB, HKR⟩ | ⟨rfl, HTN0⟩
    · revert yQ
      as_aux_lemma =>
        intros
        obtain ⟨wd, hwd⟩ : ∃ v, wr.drew = v := ⟨_, rfl⟩
        have hkd : Kp No wr wd := by rw [← hwd]; exact (Kp.refl _ _).drew
        have HKD := Lib.hid (HKA.out.trans' hkd)
        have HBD := Lib.hid (HBA.out.kept hkd (fun z => z))
        have hnw := a_new 65536 64 wd (by decide)
        have HNW := Lib.hid hnw
        clear hkd hnw
        go_wp2_with fail
        refine Reg.wp_region_plan [⟨0, false, []⟩, ⟨1, false, []⟩, ⟨6, false, []⟩, ⟨7, false, []⟩, ⟨2, true, [6, 7]⟩, ⟨3, false, []⟩, ⟨4, false, []⟩, ⟨5, false, []⟩, ⟨8, false, []⟩, ⟨9, true, [5]⟩] rfl (by kernel_rfl) ?_
        rw [hwd]
        clear hwd
        repeat (first | (refine Reg.look rfl rfl rfl (by go_simp; rfl) rfl ?_; go_simp) | (refine Reg.skip rfl rfl rfl ?_; go_simp))
        refine Reg.act rfl ?_
        go_wp2_with fail
        refine HNW.out.mono ?_
        rintro e w2 ⟨l, F, rfl, hl, hF, hk2⟩
        have HB2 := Lib.hid (HBD.out.kept hk2 (fun z => z))
        have HK2 := Lib.hid (HKD.out.trans' hk2)
        have HFT : Hid (¬ F t) := Lib.hid (fun he => by have h1 := hF t he; have h2 := Blk.lt HBD.out; omega)
        have HFB : Hid (∀ k, F k → W.heap.size ≤ k) := Lib.hid (fun k hk => Nat.le_trans HKD.out.size (hF k hk))
        have HL := Lib.hid hl
        have z0 : w2.cell? ⟨t, 0, none⟩ = some _ := Blk.cell HB2.out rfl
        have g0 := Blk.fr HB2.out 0
        have hks : Kp (· = t) w2 (w2.setCell ⟨t, 0, none⟩ (.pointer (some ⟨l, 0, none⟩))) := (Kp.refl (· = t) w2).setCell (p := ⟨t, 0, none⟩) (fun _ => rfl) _
        have HKS := Lib.hid (HK2.out.trans hks (fun i hi he => by have := HTW.out; omega))
        have HBS := Lib.hid (Blk.set HB2.out 0 (.pointer (some ⟨l, 0, none⟩)))
        have HLS := Lib.hid (HL.out.kept hks (fun k hk he => HFT.out (he ▸ hk)))
        clear hl hF hk2 hks HNW
        go_wp2_with fail
        (refine ⟨?anew, ?_⟩; case anew => ((repeat (refine Reg.anew_cons rfl rfl (fun _ => by go_simp) ?_)); exact Reg.anew_nil))
        repeat (first | (refine Reg.look rfl rfl rfl (by go_simp; rfl) rfl ?_; go_simp) | (refine Reg.skip rfl rfl rfl ?_; go_simp))
        refine Reg.act rfl ?_
        go_wp2_with fail
        (refine ⟨?anew, ?_⟩; case anew => ((repeat (refine Reg.anew_cons rfl rfl (fun _ => by go_simp) ?_)); exact Reg.anew_nil))
        repeat (first | (refine Reg.look rfl rfl rfl (by go_simp; rfl) rfl ?_; go_simp) | (refine Reg.skip rfl rfl rfl ?_; go_simp))
        (refine Reg.done ?_; simp only [Exit.then])
        go_wp2_with fail
        go_roundw
        case rel => exact .inr (.inl ⟨l, F, by go_num, HBS, HLS, HFT, HFB, HKS⟩)
        case measure => simp [intOf]
    · revert yQ
      as_aux_lemma =>
        intros
        obtain ⟨wd, hwd⟩ : ∃ v, wr.drew = v := ⟨_, rfl⟩
        have hkd : Kp No wr wd := by rw [← hwd]; exact (Kp.refl _ _).drew
        have HKD := Lib.hid (HKR.out.trans' hkd)
        have HBD := Lib.hid (HB.out.kept hkd (fun z => z))
        have HLD := Lib.hid (HL.out.keptNo hkd)
        have hnw := a_new 65536 64 wd (by decide)
        have HNW := Lib.hid hnw
        clear hkd hnw
        go_wp2_with fail
        refine Reg.wp_region_plan [⟨0, false, []⟩, ⟨1, false, []⟩, ⟨6, false, []⟩, ⟨7, false, []⟩, ⟨2, true, [6, 7]⟩, ⟨3, false, []⟩, ⟨4, false, []⟩, ⟨5, false, []⟩, ⟨8, false, []⟩, ⟨9, true, [5]⟩] rfl (by kernel_rfl) ?_
        rw [hwd]
        clear hwd
        repeat (first | (refine Reg.look rfl rfl rfl (by go_simp; rfl) rfl ?_; go_simp) | (refine Reg.skip rfl rfl rfl ?_; go_simp))
        refine Reg.act rfl ?_
        go_wp2_with fail
        refine HNW.out.mono ?_
        rintro e w2 ⟨l, F, rfl, hl, hF, hk2⟩
        have HB2 := Lib.hid (HBD.out.kept hk2 (fun z => z))
        have HL2 := Lib.hid (HLD.out.keptNo hk2)
        have HK2 := Lib.hid (HKD.out.trans' hk2)
        have HFT2 : Hid (¬ F t) := Lib.hid (fun he => by have h1 := hF t he; have h2 := Blk.lt HBD.out; omega)
        have HFB2 : Hid (∀ k, F k → W.heap.size ≤ k) := Lib.hid (fun k hk => Nat.le_trans HKD.out.size (hF k hk))
        have HAP : Hid (∀ k, Ff k → ¬ F k) := Lib.hid (fun k h1 h2 => by have h3 := HLD.out.lt k h1; have h4 := hF k h2; omega)
        have HLN := Lib.hid hl
        have z1 : w2.cell? ⟨t, 1, none⟩ = some _ := Blk.cell HB2.out rfl
        have g1 := Blk.fr HB2.out 1
        have hks : Kp (· = t) w2 (w2.setCell ⟨t, 1, none⟩ (.pointer (some ⟨l, 0, none⟩))) := (Kp.refl (· = t) w2).setCell (p := ⟨t, 1, none⟩) (fun _ => rfl) _
        have HFIN : Hid (TNew W (w2.setCell ⟨t, 1, none⟩ (.pointer (some ⟨l, 0, none⟩))) t ⟨fun _ => newL 65536 64, 0, []⟩) := Lib.hid ⟨HK2.out.trans hks (fun i hi he => by have := HTW.out; omega), _, _, _, _, _, TIn.begins (Blk.set HB2.out 1 (.pointer (some ⟨l, 0, none⟩))) (HL2.out.kept hks (fun k hk he => HFT.out (he ▸ hk))) (HLN.out.kept hks (fun k hk he => HFT2.out (he ▸ hk))) HAP.out HFT.out HFT2.out HFB.out HFB2.out HTW.out⟩
        clear hl hF hk2 hks HNW
        go_wp2_with fail
        (refine ⟨?anew, ?_⟩; case anew => ((repeat (refine Reg.anew_cons rfl rfl (fun _ => by go_simp) ?_)); exact Reg.anew_nil))
        repeat (first | (refine Reg.look rfl rfl rfl (by go_simp; rfl) rfl ?_; go_simp) | (refine Reg.skip rfl rfl rfl ?_; go_simp))
        refine Reg.act rfl ?_
        go_wp2_with fail
        (refine ⟨?anew, ?_⟩; case anew => ((repeat (refine Reg.anew_cons rfl rfl (fun _ => by go_simp) ?_)); exact Reg.anew_nil))
        repeat (first | (refine Reg.look rfl rfl rfl (by go_simp; rfl) rfl ?_; go_simp) | (refine Reg.skip rfl rfl rfl ?_; go_simp))
        (refine Reg.done ?_; simp only [Exit.then])
        go_wp2_with fail
        go_roundw
        case rel => exact .inr (.inr ⟨by go_num, HFIN⟩)
        case measure => simp [intOf]
    have HOK0 := Lib.hid (TOk.begins 65536 64 (by decide))
    have HIV0 : Hid (∃ C own, TInv ⟨fun _ => newL 65536 64, 0, []⟩ C own) := Lib.hid ⟨_, _, TInv.begins 65536 64⟩
    go_wp2_with fail
    go_loopw [35] (fun iv wr => ∃ (i : Nat) (T : TV), i ≤ turns.length ∧ iv = .int .i64 (i : Int) ∧ Hid (TNew W wr t T) ∧ Hid (TOk i T) ∧ Hid (∃ C own, TInv T C own)) (fun iv _ => turns.length - (intOf iv).toNat)
    case atStart => exact ⟨0, _, Nat.zero_le _, rfl, HTN0, HOK0, HIV0⟩
    case round =>
      clear HTN0 HOK0 HIV0 HBA HKA HK1
      obtain ⟨i, T, hi, rfl, HTN, HOK, HIV⟩ := hrel
      by_cases hlt : i < turns.length
      · revert yQ
        as_aux_lemma =>
          intros
          have hli : (i : Int) < (turns.length : Int) := by omega
          obtain ⟨x, hoi⟩ : ∃ o, turns[i]? = some o := ⟨_, List.getElem?_eq_getElem hlt⟩
          have hxs := HSM.out x (List.mem_of_getElem? hoi)
          obtain ⟨ad, A', c', rfl, hb, hcell0, hxn, hxh⟩ := Rp.at_turn HTU.out hoi
          have hcell : ∀ (j : Nat) u, (x.cells (.slice A' x.op.hashes.length c'))[j]? = some u → wr.cell? ((ad.add (i * 13)).add j) = some u := fun j u hu => (HTN.out.1.cell (p := (ad.add (i * 13)).add j) (show ((ad.add (i * 13)).add j).block < W.heap.size from (by rw [block_add, block_add]; exact hb)) (fun z => z)).trans (hcell0 j u hu)
          obtain ⟨z0, z1, z2, z3, z4, z5, z6, z7, z8, z9, z10, z11, z12⟩ := turn_cells hcell
          have hok2 := turn_ok HOK.out x
          have hiv2 : ∃ C own, TInv (turnT x T) C own := by
            obtain ⟨C, own, hi⟩ := HIV.out
            exact turn_inv HOK.out hi x
          have htu : ∀ w, TNew W w t T → x.op.hashes.length ≤ 1000000 → Calls Try.prog 11 #[.pointer (some ⟨t, 0, none⟩), turnV x (.slice A' x.op.hashes.length c')] w fun e w' => e = .returned (.tuple #[]) ∧ TNew W w' t (turnT x T) :=
            fun w hn hs => t_turn W w t x A' c' i T hn HOK.out (by omega) hxn hxh hs
          obtain ⟨T2, hT2⟩ : ∃ v, turnT x T = v := ⟨_, rfl⟩
          obtain ⟨wb, hwb⟩ : ∃ v, wr.alloc (.cells (turnC x (.slice A' x.op.hashes.length c')).toArray 40) = v := ⟨_, rfl⟩
          obtain ⟨y, hy⟩ : ∃ v, wr.heap.size = v := ⟨_, rfl⟩
          have hkb : Kp No wr wb := by rw [← hwb]; exact (Kp.refl _ _).alloc _
          have hbb : Blk wb y 40 (turnC x (.slice A' x.op.hashes.length c')) := by rw [← hwb, ← hy]; exact Blk.new wr _ _
          have hli := run_lit_cmd wb (cmdO x.op) (.slice A' x.op.hashes.length c') (.slice none 0 0)
          have hgc : Calls Try.prog 10 #[.slice (some ⟨wb.heap.size, 0, none⟩) 1 1] (wb.alloc (.cells (cmdC (cmdO x.op) (.slice A' x.op.hashes.length c') (.slice none 0 0)).toArray 44)) fun e w' => GreatS [cmdO x.op] e ∧ Kp No (wb.alloc (.cells (cmdC (cmdO x.op) (.slice A' x.op.hashes.length c') (.slice none 0 0)).toArray 44)) w' :=
            h_great12S [cmdO x.op] (some ⟨wb.heap.size, 0, none⟩) 1 _ _ (Own.oneC wb (cmdO x.op) _ _ _ (cmdO_nums hxn.2.2.2.2) (Rp.str.slice.keptNo hxh (HTN.out.1.trans' hkb)) (Rp.none_ _ _ _) rfl rfl).readFrom (cmdO_small hxs)
          have hgs : ∀ e, GreatS [cmdO x.op] e → ∃ b, e = .returned (.bool b) ∧ (b = false → x.op.hashes.length ≤ 1000000) := by
            rintro e ⟨b, rfl, h⟩
            refine ⟨b, rfl, fun hb => ?_⟩
            have h1 := (h hb).2 (cmdO x.op) (List.mem_singleton.2 rfl)
            have h2 := h1.1
            have h3 : (cmdO x.op).op.hashes.length = x.op.hashes.length := rfl
            rw [h3] at h2
            omega
          obtain ⟨G, hG⟩ : ∃ G, GreatS [cmdO x.op] = G := ⟨_, rfl⟩
          rw [hG] at hgc hgs
          rw [hT2] at hok2 hiv2 htu
          have HTB := Lib.hid (HTN.out.keptNo hkb)
          unfold turnV turnC at htu
          unfold turnC at hwb hbb
          obtain ⟨wc, hwc⟩ : ∃ v, wb.alloc (.cells (cmdC (cmdO x.op) (.slice A' x.op.hashes.length c') (.slice none 0 0)).toArray 44) = v := ⟨_, rfl⟩
          have HKC : Hid (Kp No wb wc) := Lib.hid (by rw [← hwc]; exact (Kp.refl _ _).alloc _)
          obtain ⟨g, hg⟩ : ∃ v, wb.heap.size = v := ⟨_, rfl⟩
          rw [hwc, hg] at hgc hli
          unfold cmdV cmdO at hli
          have HGS := Lib.hid hgs
          have HOK2 := Lib.hid hok2
          have HIV2 := Lib.hid hiv2
          have HTT := Lib.hid htu
          have HGC := Lib.hid hgc
          have HBB := Lib.hid hbb
          have HLI := Lib.hid hli
          clear hcell hcell0 hxn hxh hok2 hiv2 htu hT2 hli hgc hgs hG hwc hg hkb hbb hoi hxs HTN HOK HIV
          obtain ⟨kd, st, at2, sm, ⟨on, oe, ok, os, oc, oq, onm, osz, ohs⟩⟩ := x
          simp only at *
          obtain ⟨hn, hhn⟩ : ∃ k, ohs.length = k := ⟨_, rfl⟩
          rw [hhn] at hwb HTT HBB HLI HGS z12
          clear hhn
          go_upto_region 12 with fail
          clear z0 z1 z2 z3 z4 z5 z6 z7 z8 z9 z10 z11 z12 hwb hy
          have y4 : wb.cell? ⟨y, 4, none⟩ = some _ := Blk.cell HBB.out rfl
          have y5 : wb.cell? ⟨y, 5, none⟩ = some _ := Blk.cell HBB.out rfl
          have y6 : wb.cell? ⟨y, 6, none⟩ = some _ := Blk.cell HBB.out rfl
          have y7 : wb.cell? ⟨y, 7, none⟩ = some _ := Blk.cell HBB.out rfl
          have y8 : wb.cell? ⟨y, 8, none⟩ = some _ := Blk.cell HBB.out rfl
          have y9 : wb.cell? ⟨y, 9, none⟩ = some _ := Blk.cell HBB.out rfl
          have y10 : wb.cell? ⟨y, 10, none⟩ = some _ := Blk.cell HBB.out rfl
          have y11 : wb.cell? ⟨y, 11, none⟩ = some _ := Blk.cell HBB.out rfl
          have y12 : wb.cell? ⟨y, 12, none⟩ = some _ := Blk.cell HBB.out rfl
          have hld : (Instr.loadAt 38 (.pointer (some ⟨y, 4, none⟩))).run Try.prog wb = .ok (.agg #[.int .i64 on, .int .i64 oe, .int .i64 ok, .int .i64 os, .int .i64 oc, .int .i64 oq, .string onm, .int .i64 osz, .slice A' hn c']) wb := by go_simp
          clear y4 y5 y6 y7 y8 y9 y10 y11 y12
          have HLD := Lib.hid hld
          have HBU := Lib.hid (run_build3 wb on oe ok os oc oq onm osz A' hn c')
          clear hld
          go_wp2_with (first | (refine wpList_loadW (by first | rfl | go_simp) 38 _ rfl _ _ (by go_simp) HLD.out ?_; go_simp) | (refine wpList_buildW (by first | rfl | go_simp) 44 3 _ rfl _ _ (by go_simp) HBU.out ?_; go_simp) | (refine wpList_litW (by first | rfl | go_simp) 27 _ rfl _ _ (by go_simp) HLI.out ?_; go_simp))
          clear HLD HBU HLI
          refine HGC.out.mono ?_
          rintro e w4 ⟨hge, hk4⟩
          obtain ⟨b, rfl, hsc⟩ := HGS.out e hge
          have HSC := Lib.hid hsc
          have hkb4 := HKC.out.trans' hk4
          have HTN4 := Lib.hid (HTB.out.keptNo hkb4)
          have HB4 := Lib.hid (HBB.out.kept hkb4 (fun z => z))
          clear hk4 hkb4 hsc hge HGC HTB HBB HGS
          cases b
          case true =>
            clear HSC
            go_wp2_with fail
            go_ret
            exact ⟨rfl, HTN4.out.1⟩
          have HTT2 := Lib.hid (HTT.out w4 HTN4.out (HSC.out rfl))
          have y0 : w4.cell? ⟨y, 0, none⟩ = some _ := Blk.cell HB4.out rfl
          have y1 : w4.cell? ⟨y, 1, none⟩ = some _ := Blk.cell HB4.out rfl
          have y2 : w4.cell? ⟨y, 2, none⟩ = some _ := Blk.cell HB4.out rfl
          have y3 : w4.cell? ⟨y, 3, none⟩ = some _ := Blk.cell HB4.out rfl
          have y4 : w4.cell? ⟨y, 4, none⟩ = some _ := Blk.cell HB4.out rfl
          have y5 : w4.cell? ⟨y, 5, none⟩ = some _ := Blk.cell HB4.out rfl
          have y6 : w4.cell? ⟨y, 6, none⟩ = some _ := Blk.cell HB4.out rfl
          have y7 : w4.cell? ⟨y, 7, none⟩ = some _ := Blk.cell HB4.out rfl
          have y8 : w4.cell? ⟨y, 8, none⟩ = some _ := Blk.cell HB4.out rfl
          have y9 : w4.cell? ⟨y, 9, none⟩ = some _ := Blk.cell HB4.out rfl
          have y10 : w4.cell? ⟨y, 10, none⟩ = some _ := Blk.cell HB4.out rfl
          have y11 : w4.cell? ⟨y, 11, none⟩ = some _ := Blk.cell HB4.out rfl
          have y12 : w4.cell? ⟨y, 12, none⟩ = some _ := Blk.cell HB4.out rfl
          clear HSC HTT HTN4
          go_wp2_with fail
          clear y0 y1 y2 y3 y4 y5 y6 y7 y8 y9 y10 y11 y12 HB4
          refine HTT2.out.mono ?_
          rintro e w5 ⟨rfl, htn5⟩
          have HTN5 := Lib.hid htn5
          obtain ⟨hk5, xs, F, sv, tv, S, hin⟩ := htn5
          obtain ⟨C, own, hinv⟩ := HIV2.out
          have hla := HOK2.out.led false
          have hlb := HOK2.out.led true
          have hlna := hla.len
          have hlnb := hlb.len
          have HMA : Hid (∀ (m : Nat) p q, (T2.l false).ops[m]? = some p → (T2.l true).ops[m]? = some q → p.epoch = q.epoch → (T2.l false).ops.take (m + 1) = (T2.l true).ops.take (m + 1)) := Lib.hid (fun m p q h1 h2 h3 => hinv.match_ h1 h2 h3)
          have HOA : Hid (∀ w, Kp No w5 w → Calls Try.prog 12 #[.pointer (some ⟨xs false, 0, none⟩)] w fun r w' => ∃ A c, r = .returned (.slice A (T2.l false).ops.length c) ∧ Rp.opl.slice.R w' (fun k => w.heap.size ≤ k) [.slice A (T2.l false).ops.length c] (T2.l false).ops ∧ Kp No w w') := Lib.hid (fun w hk =>
            (a_ops (xs false) (T2.l false) (F false) w ((hin.led false).keptNo hk) (by omega) hla.hashes).mono (fun r w' ⟨A, c, h1, h2, h3⟩ => ⟨A, c, h1, Rp.opl.slice.more h2.readFrom (fun k hk => by rcases hk with hk | hk <;> exact hk), h3⟩))
          have HOB : Hid (∀ w, Kp No w5 w → Calls Try.prog 12 #[.pointer (some ⟨xs true, 0, none⟩)] w fun r w' => ∃ A c, r = .returned (.slice A (T2.l true).ops.length c) ∧ Rp.opl.slice.R w' (fun k => w.heap.size ≤ k) [.slice A (T2.l true).ops.length c] (T2.l true).ops ∧ Kp No w w') := Lib.hid (fun w hk =>
            (a_ops (xs true) (T2.l true) (F true) w ((hin.led true).keptNo hk) (by omega) hlb.hashes).mono (fun r w' ⟨A, c, h1, h2, h3⟩ => ⟨A, c, h1, Rp.opl.slice.more h2.readFrom (fun k hk => by rcases hk with hk | hk <;> exact hk), h3⟩))
          obtain ⟨La, hLa⟩ : ∃ v, (T2.l false).ops = v := ⟨_, rfl⟩
          obtain ⟨Lb, hLb⟩ : ∃ v, (T2.l true).ops = v := ⟨_, rfl⟩
          rw [hLa] at hlna HMA HOA
          rw [hLb] at hlnb HMA HOB
          obtain ⟨xf, hxf⟩ : ∃ v, xs false = v := ⟨_, rfl⟩
          obtain ⟨xt, hxt⟩ : ∃ v, xs true = v := ⟨_, rfl⟩
          obtain ⟨wd, hwd⟩ : ∃ v, w5.drew = v := ⟨_, rfl⟩
          have hkd : Kp No w5 wd := by rw [← hwd]; exact (Kp.refl _ _).drew
          have k0 : wd.cell? ⟨t, 0, none⟩ = some _ := Blk.cell (hin.blk.kept hkd (fun z => z)) rfl
          have k1 : wd.cell? ⟨t, 1, none⟩ = some _ := Blk.cell (hin.blk.kept hkd (fun z => z)) rfl
          rw [hxf] at k0 HOA
          rw [hxt] at k1 HOB
          have HLT : Hid (t < wd.heap.size) := Lib.hid (Blk.lt (hin.blk.kept hkd (fun z => z)))
          have HKD := Lib.hid hkd
          clear hk5 hin hinv hla hlb hLa hLb hxf hxt hkd HTT2
          go_wp2_with fail
          refine Reg.wp_region_plan [⟨0, false, []⟩, ⟨1, false, []⟩, ⟨2, false, []⟩, ⟨3, false, []⟩, ⟨4, false, []⟩, ⟨6, false, []⟩, ⟨7, false, []⟩, ⟨8, false, []⟩, ⟨9, false, []⟩, ⟨10, false, []⟩, ⟨5, true, [7, 8, 9, 10]⟩, ⟨11, true, []⟩, ⟨12, false, []⟩, ⟨13, false, []⟩] rfl (by kernel_rfl) ?_
          rw [hwd]
          clear hwd
          repeat (first | (refine Reg.look rfl rfl rfl (by go_simp; rfl) rfl ?_; go_simp) | (refine Reg.skip rfl rfl rfl ?_; go_simp))
          refine Reg.act rfl ?_
          go_wp2_with fail
          refine (HOA.out wd HKD.out).mono ?_
          rintro e w6 ⟨A1, c1, rfl, hr1, hk6⟩
          have HR1 := Lib.hid hr1
          have HK6 := Lib.hid (HKD.out.trans' hk6)
          have m0 := (hk6.cell HLT.out (fun z => z)).trans k0
          have m1 := (hk6.cell HLT.out (fun z => z)).trans k1
          clear hr1 hk6 k0 k1 HOA
          go_wp2_with fail
          (refine ⟨?anew, ?_⟩; case anew => ((repeat (refine Reg.anew_cons rfl rfl (fun _ => by go_simp) ?_)); exact Reg.anew_nil))
          repeat (first | (refine Reg.look rfl rfl rfl (by go_simp; rfl) rfl ?_; go_simp) | (refine Reg.skip rfl rfl rfl ?_; go_simp))
          refine Reg.act rfl ?_
          go_wp2_with fail
          refine (HOB.out w6 HK6.out).mono ?_
          rintro e w7 ⟨A2, c2, rfl, hr2, hk7⟩
          have HR2 := Lib.hid hr2
          have HR1b := Lib.hid (Rp.opl.slice.keptNo HR1.out hk7)
          have HK7 := Lib.hid (HK6.out.trans' hk7)
          clear hr2 hk7 m0 m1 HOB HR1 HK6
          go_wp2_with fail
          (refine ⟨?anew, ?_⟩; case anew => ((repeat (refine Reg.anew_cons rfl rfl (fun _ => by go_simp) ?_)); exact Reg.anew_nil))
          repeat (first | (refine Reg.look rfl rfl rfl (by go_simp; rfl) rfl ?_; go_simp) | (refine Reg.skip rfl rfl rfl ?_; go_simp))
          (refine Reg.done ?_; simp only [Exit.then])
          obtain ⟨mn, hmn⟩ : ∃ v : Nat, min La.length Lb.length = v := ⟨_, rfl⟩
          have hmi : min (La.length : Int) (Lb.length : Int) = (mn : Int) := by omega
          have hma : mn ≤ La.length := by omega
          have hmb : mn ≤ Lb.length := by omega
          have hca := capL_le HR1b.out
          have hcb := capL_le HR2.out
          clear hmn
          go_wp2_with fail
          go_loopw [9] (fun iv wv => ∃ j : Nat, j ≤ mn ∧ iv = .int .i64 (j : Int) ∧ Hid (Kp No w7 wv)) (fun iv _ => (intOf iv).toNat)
          case atStart => exact ⟨mn, Nat.le_refl _, by rfl, Lib.hid (Kp.refl _ _)⟩
          case round =>
            obtain ⟨j, hj, rfl, HKV⟩ := hrel
            rcases j with _ | m
            · go_wp2_with fail
              go_wp2_with fail
              go_roundw
              case rel => exact ⟨i + 1, T2, by omega, by go_num, Lib.hid (HTN5.out.keptNo (HK7.out.trans' HKV.out)), HOK2, HIV2⟩
              case measure => simp [intOf]; omega
            · obtain ⟨j, hjm⟩ : ∃ j, m + 1 = j := ⟨_, rfl⟩
              rw [hjm] at hj ⊢
              have hjp : (0 : Int) < (j : Int) := by omega
              have hj1 : (j : Int) - 1 = (m : Int) := by omega
              have hmla : (m : Int) < (La.length : Int) := by omega
              have hmlb : (m : Int) < (Lb.length : Int) := by omega
              obtain ⟨p, hp⟩ : ∃ p, La[m]? = some p := ⟨_, List.getElem?_eq_getElem (by omega)⟩
              obtain ⟨q, hq⟩ : ∃ q, Lb[m]? = some q := ⟨_, List.getElem?_eq_getElem (by omega)⟩
              have HR1v := Lib.hid (Rp.opl.slice.keptNo HR1b.out HKV.out)
              have HR2v := Lib.hid (Rp.opl.slice.keptNo HR2.out HKV.out)
              obtain ⟨ad1, A3, c3, hA1, _, hcy, _, _⟩ := Rp.at_opl HR1v.out hp
              obtain ⟨ad2, A4, c4, hA2, _, hcg, _, _⟩ := Rp.at_opl HR2v.out hq
              obtain ⟨_, b1, _, _, _, _, _, _, _⟩ := opl_cells hcy
              obtain ⟨_, b2, _, _, _, _, _, _, _⟩ := opl_cells hcg
              have HME := Lib.hid (HMA.out m p q hp hq)
              obtain ⟨ep, hep⟩ : ∃ v, p.epoch = v := ⟨_, rfl⟩
              obtain ⟨eq, heq⟩ : ∃ v, q.epoch = v := ⟨_, rfl⟩
              rw [hep] at b1 HME
              rw [heq] at b2 HME
              clear hep heq hcy hcg hp hq
              by_cases hee : ep = eq
              · have htk := HME.out hee
                rw [hjm] at htk
                have hl1 : (La.take j).length = j := by rw [List.length_take]; omega
                have HSO : Hid (∀ w, Kp No wr w → Calls Try.prog 13 #[.slice A1 j c1, .slice A2 j c2] w fun x w' => x = .returned (.bool true) ∧ Kp No w w') := Lib.hid (fun w hk => by
                  have h1 := Rp.head (Rp.opl.slice.keptNo HR1v.out hk) (show j ≤ La.length by omega)
                  have h2 := Rp.head (Rp.opl.slice.keptNo HR2v.out hk) (show j ≤ Lb.length by omega)
                  rw [← htk] at h2
                  have h := r_sameops (La.take j) (La.take j) A1 A2 c1 c2 w _ _ h1 h2
                  rw [sameOps_iff.2 rfl, hl1] at h
                  exact h)
                have heb : (ep == eq) = true := beq_iff_eq.2 hee
                have hk0 : decide ((j : Int) < 0) = false := decide_eq_false (by omega)
                have hjc1 : j ≤ c1 := by omega
                have hjc2 : j ≤ c2 := by omega
                clear htk hl1 HME hee
                subst hA1 hA2
                go_wp2_with fail
                go_quiet (fail)
                go_wp2_with fail
                refine Reg.wp_region_plan [⟨0, false, []⟩, ⟨1, false, []⟩, ⟨2, false, []⟩, ⟨3, false, []⟩, ⟨4, false, []⟩, ⟨5, false, []⟩, ⟨6, true, []⟩, ⟨7, false, []⟩] rfl (by kernel_rfl) ?_
                repeat (first | (refine Reg.look rfl rfl rfl (by go_simp; rfl) rfl ?_; go_simp) | (refine Reg.skip rfl rfl rfl ?_; go_simp))
                refine Reg.act rfl ?_
                go_wp2_with fail
                refine (HSO.out _ ((Kp.refl _ _).drewN _)).mono ?_
                rintro e w8 ⟨rfl, hk8⟩
                have HK8 := Lib.hid ((HK7.out.trans' HKV.out).trans' (((Kp.refl No wr).drewN _).trans' hk8))
                clear hk8
                go_wp2_with fail
                (refine ⟨?anew, ?_⟩; case anew => ((repeat (refine Reg.anew_cons rfl rfl (fun _ => by go_simp) ?_)); exact Reg.anew_nil))
                repeat (first | (refine Reg.look rfl rfl rfl (by go_simp; rfl) rfl ?_; go_simp) | (refine Reg.skip rfl rfl rfl ?_; go_simp))
                (refine Reg.done ?_; simp only [Exit.then])
                go_wp2_with fail
                go_roundw
                case rel => exact ⟨i + 1, T2, by omega, by go_num, Lib.hid (HTN5.out.keptNo HK8.out), HOK2, HIV2⟩
                case measure => simp [intOf]; omega
              · have heb : (ep == eq) = false := beq_eq_false_iff_ne.2 hee
                clear HME hee
                subst hA1 hA2
                go_wp2_with fail
                go_quiet (fail)
                go_wp2_with fail
                go_roundw
                case rel => exact ⟨m, by omega, by go_num, Lib.hid (HKV.out.trans' ((Kp.refl No wr).drewN _))⟩
                case measure => simp [intOf]; omega
      · obtain rfl : i = turns.length := by omega
        go_wp2_with fail
        go_ret
        exact ⟨rfl, HTN.out.1⟩
theorem ledgerMatchUpto_holds : Rows.LedgerMatchUptoSaid := ledgerMatchUpto_of ledgerMatchUpto_walk
#print axioms ledgerMatchUpto_holds
end
end Go.Proofs.Ytbncblnchcmgbaa
