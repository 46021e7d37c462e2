/-
  model.place, model.equal; slices.Equal of texts.
-/
import Derived.Test.YtbncblnchcmgbaaModA
import Derived.Test.YtbncblnchcmgbaaShelf
import Derived.Test.YtbncblnchcmgbaaDeed4
import Derived.BigQuiet
namespace Go.Proofs.Ytbncblnchcmgbaa
open Go.RowKit Go.ChangeShapes Go.WideShapes Go.ChangeAt

set_option maxRecDepth 100000 in
theorem m_place (o : OpL) (v : Value) (w : World) : Calls Try.prog 50 #[opV o v] w fun e w' => e = .returned (spotV (o.n, o.epoch)) ∧ Kp No w w' := by
  unfold opV spotV
  obtain ⟨n, ep, k, st, cl, sq, nm, sz, hs⟩ := o
  simp only
  go_enter Try.func50, Try.ntmps50
  go_wp2_with fail
  obtain ⟨w1, hw1⟩ : ∃ w1, w.alloc (.cells #[.int .i64 n, .int .i64 ep, .int .i64 k, .int .i64 st, .int .i64 cl, .int .i64 sq, .string nm, .int .i64 sz, v] 38) = w1 := ⟨_, rfl⟩
  have hk : Kp No w w1 := by rw [← hw1]; exact (Kp.refl _ _).alloc _
  have hsz : w.heap.size + 1 = w1.heap.size := by rw [← hw1]; simp
  rw [hw1, hsz]
  have hb : Blk (w1.alloc (.cells #[.int .i64 n, .int .i64 ep] 54)) w1.heap.size 54 [.int .i64 n, .int .i64 ep] := Blk.new w1 _ _
  exact bodyPost_ret (results_cell_row rfl _ _ w1.heap.size _ _ _ _ rfl hb Try.underlying54 rfl (by kernel_rfl)) rfl ⟨rfl, hk.alloc _⟩
theorem str_cells {w : World} {S : Nat → Prop} {b o c : Nat} {l : List ByteArray} (h : Rp.str.slice.R w S [.slice (some ⟨b, o, none⟩) l.length c] l) : ∀ j, j < l.length → w.cell? ⟨b, o + j, none⟩ = some (.string (l.getD j ByteArray.empty)) := fun j hj => by
  obtain ⟨ad, hA, _, hc, _⟩ := Rp.at_str h (List.getElem?_eq_getElem hj)
  injection hA with hA
  subst hA
  rw [List.getD_eq_getElem?_getD, List.getElem?_eq_getElem hj, Option.getD_some]
  rcases j with _ | j
  · exact hc
  · exact hc
theorem str_off {w : World} {S : Nat → Prop} {A : Option Addr} {c : Nat} {l : List ByteArray} (h : Rp.str.slice.R w S [.slice A l.length c] l) (hp : 0 < l.length) : ∃ b o, A = some ⟨b, o, none⟩ := by
  obtain ⟨ad, hA, _, hc, _⟩ := Rp.at_str h (List.getElem?_eq_getElem hp)
  obtain ⟨b, o, p⟩ := ad
  cases p with
  | none => exact ⟨b, o, hA⟩
  | some p =>
    have h0 : w.cell? ⟨b, o, some p⟩ = some (.string l[0]) := hc
    unfold World.cell? at h0
    split at h0
    · simp at h0
    · cases h0
set_option maxRecDepth 100000 in
theorem c_equalS (l m : List ByteArray) (A B : Option Addr) (c d : Nat) (w : World) (S T : Nat → Prop) (hl : Rp.str.slice.R w S [.slice A l.length c] l) (hm : Rp.str.slice.R w T [.slice B m.length d] m) :
    Calls Try.prog 59 #[.slice A l.length c, .slice B m.length d] w fun e w' => e = .returned (.bool (decide (l = m))) ∧ Kp No w w' := by
  have h1 : l.length ≤ maxLen := by obtain ⟨_, _, he, h1, h2, _⟩ := hl; simp only [List.cons.injEq, Value.slice.injEq, and_true] at he; omega
  have h2 : m.length ≤ maxLen := by obtain ⟨_, _, he, h1, h2, _⟩ := hm; simp only [List.cons.injEq, Value.slice.injEq, and_true] at he; omega
  unfold maxLen at h1 h2
  by_cases hn : l.length = m.length
  · rcases Nat.eq_zero_or_pos l.length with h0 | h0
    · have e1 : l = [] := List.eq_nil_of_length_eq_zero h0
      have e2 : m = [] := List.eq_nil_of_length_eq_zero (by omega)
      subst e1 e2
      refine (sh_slices_Equal_string_empty A B c 0 d w (by omega)).mono ?_
      rintro e w' ⟨rfl, rfl⟩
      exact ⟨rfl, Kp.refl _ _⟩
    · obtain ⟨b1, o1, rfl⟩ := str_off hl h0
      obtain ⟨b2, o2, rfl⟩ := str_off hm (by omega)
      refine (sh_slices_Equal_string b1 o1 l.length c b2 o2 m.length d l m w (Nat.le_refl _) (Nat.le_refl _) (by omega) (by omega) (str_cells hl) (str_cells hm)).mono ?_
      rintro e w' ⟨rfl, q, rfl⟩
      rw [List.take_length, List.take_length]
      exact ⟨rfl, (Kp.refl _ _).drewN _⟩
  · have hne : decide (l = m) = false := decide_eq_false (fun e => hn (congrArg _ e))
    rw [hne]
    have hnb : ((l.length : Int) == (m.length : Int)) = false := beq_eq_false_iff_ne.2 (by omega)
    have hnb2 : ((l.length : Int) != (m.length : Int)) = true := by rw [bne, hnb]; rfl
    clear hl hm hne
    go_enter Try.func59, Try.ntmps59
    go_wp2_with fail
    go_ret
    exact ⟨rfl, Kp.refl _ _⟩
def EqP (a b : OpL) : Prop := a.kind = b.kind ∧ a.site = b.site ∧ a.client = b.client ∧ a.seq = b.seq ∧ a.name = b.name ∧ a.size = b.size ∧ a.hashes = b.hashes
instance (a b : OpL) : Decidable (EqP a b) := by unfold EqP; exact inferInstance
set_option maxRecDepth 100000 in
set_option maxHeartbeats 4000000 in
theorem m_equal (a b : OpL) (A1 A2 : Option Addr) (c1 c2 : Nat) (w : World) (S1 S2 : Nat → Prop) (h1 : Rp.str.slice.R w S1 [.slice A1 a.hashes.length c1] a.hashes) (h2 : Rp.str.slice.R w S2 [.slice A2 b.hashes.length c2] b.hashes) :
    Calls Try.prog 51 #[opV a (.slice A1 a.hashes.length c1), opV b (.slice A2 b.hashes.length c2)] w fun x w' => x = .returned (.bool (decide (EqP a b))) ∧ Kp No w w' := by
  have hsm := fun w1 (hk : Kp No w w1) => c_equalS a.hashes b.hashes A1 A2 c1 c2 w1 S1 S2 (Rp.str.slice.keptNo h1 hk) (Rp.str.slice.keptNo h2 hk)
  have HSM := Lib.hid hsm
  clear hsm h1 h2
  obtain ⟨R, hR⟩ : ∃ R, decide (EqP a b) = R := ⟨_, rfl⟩
  rw [hR]
  have HR := Lib.hid hR
  clear hR
  unfold opV EqP at *
  obtain ⟨an, ae, ak, as', ac, aq, anm, asz, ahs⟩ := a
  obtain ⟨bn, be, bk, bs', bc, bq, bnm, bsz, bhs⟩ := b
  simp only at *
  have HK : Hid (Kp No w ((w.alloc (.cells #[.int .i64 an, .int .i64 ae, .int .i64 ak, .int .i64 as', .int .i64 ac, .int .i64 aq, .string anm, .int .i64 asz, .slice A1 ahs.length c1] 38)).alloc (.cells #[.int .i64 bn, .int .i64 be, .int .i64 bk, .int .i64 bs', .int .i64 bc, .int .i64 bq, .string bnm, .int .i64 bsz, .slice A2 bhs.length c2] 38))) := Lib.hid (((Kp.refl _ _).alloc _).alloc _)
  by_cases e3 : ak = bk
  case neg =>
    have f : (ak == bk) = false := beq_eq_false_iff_ne.2 e3
    have HF : Hid (R = false) := Lib.hid (by rw [← HR.out]; exact decide_eq_false (fun h => e3 h.1))
    go_enter Try.func51, Try.ntmps51
    go_wp2_with fail
    go_quiet (fail)
    go_wp2_with fail
    go_ret
    exact ⟨by rw [HF.out]; rfl, HK.out.trans' ((Kp.refl No _).drewN _)⟩
  subst e3
  by_cases e4 : as' = bs'
  case neg =>
    have f : (as' == bs') = false := beq_eq_false_iff_ne.2 e4
    have HF : Hid (R = false) := Lib.hid (by rw [← HR.out]; exact decide_eq_false (fun h => e4 h.2.1))
    go_enter Try.func51, Try.ntmps51
    go_wp2_with fail
    go_quiet (fail)
    go_wp2_with fail
    go_ret
    exact ⟨by rw [HF.out]; rfl, HK.out.trans' ((Kp.refl No _).drewN _)⟩
  subst e4
  by_cases e5 : ac = bc
  case neg =>
    have f : (ac == bc) = false := beq_eq_false_iff_ne.2 e5
    have HF : Hid (R = false) := Lib.hid (by rw [← HR.out]; exact decide_eq_false (fun h => e5 h.2.2.1))
    go_enter Try.func51, Try.ntmps51
    go_wp2_with fail
    go_quiet (fail)
    go_wp2_with fail
    go_ret
    exact ⟨by rw [HF.out]; rfl, HK.out.trans' ((Kp.refl No _).drewN _)⟩
  subst e5
  by_cases e6 : aq = bq
  case neg =>
    have f : (aq == bq) = false := beq_eq_false_iff_ne.2 e6
    have HF : Hid (R = false) := Lib.hid (by rw [← HR.out]; exact decide_eq_false (fun h => e6 h.2.2.2.1))
    go_enter Try.func51, Try.ntmps51
    go_wp2_with fail
    go_quiet (fail)
    go_wp2_with fail
    go_ret
    exact ⟨by rw [HF.out]; rfl, HK.out.trans' ((Kp.refl No _).drewN _)⟩
  subst e6
  by_cases e7 : anm = bnm
  case neg =>
    have f : (anm.toList == bnm.toList) = false := by rw [bytes_list_beq]; exact decide_eq_false e7
    have HF : Hid (R = false) := Lib.hid (by rw [← HR.out]; exact decide_eq_false (fun h => e7 h.2.2.2.2.1))
    go_enter Try.func51, Try.ntmps51
    go_wp2_with fail
    go_quiet (fail)
    go_wp2_with fail
    go_ret
    exact ⟨by rw [HF.out]; rfl, HK.out.trans' ((Kp.refl No _).drewN _)⟩
  subst e7
  by_cases e8 : asz = bsz
  case neg =>
    have f : (asz == bsz) = false := beq_eq_false_iff_ne.2 e8
    have HF : Hid (R = false) := Lib.hid (by rw [← HR.out]; exact decide_eq_false (fun h => e8 h.2.2.2.2.2.1))
    go_enter Try.func51, Try.ntmps51
    go_wp2_with fail
    go_quiet (fail)
    go_wp2_with fail
    go_ret
    exact ⟨by rw [HF.out]; rfl, HK.out.trans' ((Kp.refl No _).drewN _)⟩
  subst e8
  obtain ⟨Q, hQ⟩ : ∃ Q, decide (ahs = bhs) = Q := ⟨_, rfl⟩
  rw [hQ] at HSM
  have HRQ : Hid (R = Q) := Lib.hid (by rw [← HR.out, ← hQ]; simp)
  clear hQ HR
  go_enter Try.func51, Try.ntmps51
  go_wp2_with fail
  go_quiet (fail)
  go_wp2_with fail
  refine (HSM.out _ (HK.out.trans' ((Kp.refl No _).drewN _))).mono ?_
  rintro x w2 ⟨rfl, hk⟩
  have HK2 := Lib.hid ((HK.out.trans' ((Kp.refl No _).drewN _)).trans' hk)
  clear hk
  go_wp2_with fail
  go_ret
  exact ⟨by rw [HRQ.out]; rfl, HK2.out⟩
end Go.Proofs.Ytbncblnchcmgbaa
