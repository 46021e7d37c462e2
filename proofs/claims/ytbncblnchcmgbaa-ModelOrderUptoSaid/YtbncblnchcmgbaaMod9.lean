/-
  (*Model).put, of no bytes.
-/
import Derived.Test.YtbncblnchcmgbaaMod8
namespace Go.Proofs.Ytbncblnchcmgbaa
open Go.RowKit Go.ChangeShapes Go.WideShapes Go.ChangeAt

theorem Rp.at_ask {w : World} {S : Nat → Prop} {A : Option Addr} {c : Nat} {l : List AskL} (h : Rp.ask.slice.R w S [.slice A l.length c] l) {i : Nat} {x : AskL} (hi : l[i]? = some x) :
    ∃ ad, A = some ad ∧ S ad.block ∧ (∀ (j : Nat) u, x.cells[j]? = some u → w.cell? ((ad.add (i * 7)).add j) = some u) ∧ x.nums := by
  obtain ⟨A2, c2, he, _, _, h3⟩ := h
  simp only [List.cons.injEq, Value.slice.injEq, and_true, true_and] at he
  obtain ⟨rfl, rfl⟩ := he
  have hl : 0 < l.length := by have := (List.getElem?_eq_some_iff.1 hi).1; omega
  obtain ⟨ad, rfl, hb, hc⟩ := h3 hl
  obtain ⟨es, he, rfl, hn⟩ := hc i x hi
  exact ⟨ad, rfl, hb, fun j u hu => he j u hu, hn⟩
theorem ask_cells {w : World} {ad : Addr} {t : AskL} (h : ∀ (j : Nat) u, t.cells[j]? = some u → w.cell? (ad.add j) = some u) :
    w.cell? ad = some (.int .i64 t.kind) ∧ w.cell? ⟨ad.block, ad.off + 1, none⟩ = some (.int .i64 t.client) ∧ w.cell? ⟨ad.block, ad.off + 2, none⟩ = some (.int .i64 t.seq) ∧ w.cell? ⟨ad.block, ad.off + 3, none⟩ = some (.string t.name) ∧
    w.cell? ⟨ad.block, ad.off + 4, none⟩ = some (.string t.data) ∧ w.cell? ⟨ad.block, ad.off + 5, none⟩ = some (.int .i64 t.mode) ∧ w.cell? ⟨ad.block, ad.off + 6, none⟩ = some (.int .i64 t.lag) :=
  ⟨h 0 _ rfl, h 1 _ rfl, h 2 _ rfl, h 3 _ rfl, h 4 _ rfl, h 5 _ rfl, h 6 _ rfl⟩
/-- the put that an operation is -/
def putB (o : OpL) (d : ByteArray) (a : AskL) : Bool := decide (a.client = o.client ∧ a.seq = o.seq ∧ a.name = o.name ∧ a.data = d)
def fnV (y z : Nat) : Value := .func (.func 83) #[] #[.pointer (some ⟨y, 0, none⟩), .pointer (some ⟨z, 0, none⟩)]
set_option maxRecDepth 100000 in
set_option maxHeartbeats 4000000 in
theorem m_index (l : List AskL) (A : Option Addr) (c y z : Nat) (pr : AskL → Bool) (S : Nat → Prop) (w : World) (hl : Rp.ask.slice.R w S [.slice A l.length c] l)
    (hf : ∀ a w', Kp No w w' → Calls Try.prog 83 #[askV a, .pointer (some ⟨y, 0, none⟩), .pointer (some ⟨z, 0, none⟩)] w' fun e w2 => e = .returned (.bool (pr a)) ∧ Kp No w' w2) :
    Calls Try.prog 102 #[.slice A l.length c, fnV y z] w fun e w' => ∃ r : Int, e = .returned (.int .i64 r) ∧ decide (r ≥ 0) = l.any pr ∧ Kp No w w' := by
  have hll : (l.length : Int) ≤ 9223372036854775807 := by
    obtain ⟨_, _, he, h1, h2, _⟩ := id hl
    simp only [List.cons.injEq, Value.slice.injEq, and_true] at he
    unfold maxLen at h2
    omega
  have HL := Lib.hid hl
  have HF := Lib.hid hf
  unfold fnV
  clear hl hf
  go_enter Try.func102, Try.ntmps102
  go_wp2_with fail
  go_loopw [8] (fun iv wr => ∃ i : Nat, i ≤ l.length ∧ iv = .int .i64 (i : Int) ∧ Hid (∀ a ∈ l.take i, pr a = false) ∧ Hid (Kp No w wr)) (fun iv _ => l.length - (intOf iv).toNat)
  case atStart => exact ⟨0, Nat.zero_le _, rfl, Lib.hid (fun a ha => by simp at ha), Lib.hid (Kp.refl _ _)⟩
  case round =>
    obtain ⟨i, hi, rfl, HNO, HKR⟩ := hrel
    by_cases hlt : i < l.length
    · have hli : (i : Int) < (l.length : Int) := by omega
      obtain ⟨a, ha⟩ : ∃ a, l[i]? = some a := ⟨_, List.getElem?_eq_getElem hlt⟩
      obtain ⟨ad, rfl, _, hcell, hn⟩ := Rp.at_ask (Rp.ask.slice.keptNo HL.out HKR.out) ha
      obtain ⟨z0, z1, z2, z3, z4, z5, z6⟩ := ask_cells hcell
      have hfa := HF.out a wr HKR.out
      unfold askV at hfa
      have HFA := Lib.hid hfa
      have HTK : Hid (l.take (i + 1) = l.take i ++ [a]) := Lib.hid (by
        obtain ⟨e1, e2⟩ := List.getElem?_eq_some_iff.1 ha
        rw [List.take_succ_eq_append_getElem e1, e2])
      have HIN := Lib.hid (List.mem_of_getElem? ha)
      clear hcell ha hfa
      go_wp2_with fail
      refine HFA.out.mono ?_
      rintro e w2 ⟨rfl, hk2⟩
      have HK2 := Lib.hid (HKR.out.trans' hk2)
      clear hk2 z0 z1 z2 z3 z4 z5 z6
      obtain ⟨B, hB⟩ : ∃ B, pr a = B := ⟨_, rfl⟩
      have HB := Lib.hid hB
      rw [hB]
      clear hB
      cases B
      case false =>
        go_wp2_with fail
        go_roundw
        case rel => exact ⟨i + 1, by omega, by go_num, Lib.hid (fun b hb => by
          rw [HTK.out] at hb
          rcases List.mem_append.1 hb with hb | hb
          · exact HNO.out b hb
          · rw [List.mem_singleton.1 hb]; exact HB.out), HK2⟩
        case measure => simp [intOf]; omega
      case true =>
        go_wp2_with fail
        go_ret
        exact ⟨_, rfl, by rw [List.any_eq_true.2 ⟨a, HIN.out, HB.out⟩]; exact decide_eq_true (by omega), HK2.out⟩
    · obtain rfl : i = l.length := by omega
      have HNA : Hid (l.any pr = false) := Lib.hid (by
        rw [List.any_eq_false]
        intro a ha
        rw [HNO.out a (by rw [List.take_length]; exact ha)]; simp)
      go_wp2_with fail
      go_ret
      exact ⟨_, rfl, by rw [HNA.out]; rfl, HKR.out⟩
set_option maxRecDepth 100000 in
set_option maxHeartbeats 4000000 in
theorem m_putf (o : OpL) (d : ByteArray) (hv : Value) (y z : Nat) (a : AskL) (w : World) (hy : Blk w y 38 [.int .i64 o.n, .int .i64 o.epoch, .int .i64 o.kind, .int .i64 o.site, .int .i64 o.client, .int .i64 o.seq, .string o.name, .int .i64 o.size, hv]) (hz : Blk w z 9 [.string d]) :
    Calls Try.prog 83 #[askV a, .pointer (some ⟨y, 0, none⟩), .pointer (some ⟨z, 0, none⟩)] w fun e w' => e = .returned (.bool (putB o d a)) ∧ Kp No w w' := by
  obtain ⟨x, hx⟩ : ∃ v, w.heap.size = v := ⟨_, rfl⟩
  obtain ⟨wa, hwa⟩ : ∃ v, w.alloc (.cells #[.int .i64 a.kind, .int .i64 a.client, .int .i64 a.seq, .string a.name, .string a.data, .int .i64 a.mode, .int .i64 a.lag] 52) = v := ⟨_, rfl⟩
  have hka : Kp No w wa := by rw [← hwa]; exact (Kp.refl _ _).alloc _
  have hba : Blk wa x 52 [.int .i64 a.kind, .int .i64 a.client, .int .i64 a.seq, .string a.name, .string a.data, .int .i64 a.mode, .int .i64 a.lag] := by rw [← hwa, ← hx]; exact Blk.new w _ _
  have hyk := hy.kept hka (fun z => z)
  have hzk := hz.kept hka (fun z => z)
  have x1 : wa.cell? ⟨x, 1, none⟩ = some _ := Blk.cell hba rfl
  have x2 : wa.cell? ⟨x, 2, none⟩ = some _ := Blk.cell hba rfl
  have x3 : wa.cell? ⟨x, 3, none⟩ = some _ := Blk.cell hba rfl
  have x4 : wa.cell? ⟨x, 4, none⟩ = some _ := Blk.cell hba rfl
  have y4 : wa.cell? ⟨y, 4, none⟩ = some _ := Blk.cell hyk rfl
  have y5 : wa.cell? ⟨y, 5, none⟩ = some _ := Blk.cell hyk rfl
  have y6 : wa.cell? ⟨y, 6, none⟩ = some _ := Blk.cell hyk rfl
  have q0 : wa.cell? ⟨z, 0, none⟩ = some _ := Blk.cell hzk rfl
  have HK := Lib.hid hka
  obtain ⟨R, hR⟩ : ∃ R, putB o d a = R := ⟨_, rfl⟩
  rw [hR]
  unfold putB at hR
  have HR := Lib.hid hR
  unfold askV
  clear hka hba hyk hzk hy hz hR
  obtain ⟨on, oe, ok, os, oc, oq, onm, osz, ohs⟩ := o
  obtain ⟨ak, ac, aq, anm, adt, am, al⟩ := a
  simp only at *
  by_cases e1 : ac = oc
  case neg =>
    have f : (ac == oc) = false := beq_eq_false_iff_ne.2 e1
    have HF : Hid (R = false) := Lib.hid (by rw [← HR.out]; exact decide_eq_false (fun h => e1 h.1))
    clear e1
    go_enter Try.func83, Try.ntmps83
    go_wp2_with fail
    go_ret
    exact ⟨by rw [HF.out]; rfl, HK.out⟩
  by_cases e2 : aq = oq
  case neg =>
    have f0 : (ac == oc) = true := beq_iff_eq.2 e1
    have f : (aq == oq) = false := beq_eq_false_iff_ne.2 e2
    have HF : Hid (R = false) := Lib.hid (by rw [← HR.out]; exact decide_eq_false (fun h => e2 h.2.1))
    clear e1 e2
    go_enter Try.func83, Try.ntmps83
    go_wp2_with fail
    go_ret
    exact ⟨by rw [HF.out]; rfl, HK.out⟩
  by_cases e3 : anm = onm
  case neg =>
    have f0 : (ac == oc) = true := beq_iff_eq.2 e1
    have f1 : (aq == oq) = true := beq_iff_eq.2 e2
    have f : (anm.toList == onm.toList) = false := by rw [bytes_list_beq]; exact decide_eq_false e3
    have HF : Hid (R = false) := Lib.hid (by rw [← HR.out]; exact decide_eq_false (fun h => e3 h.2.2.1))
    clear e1 e2 e3
    go_enter Try.func83, Try.ntmps83
    go_wp2_with fail
    go_ret
    exact ⟨by rw [HF.out]; rfl, HK.out⟩
  have f0 : (ac == oc) = true := beq_iff_eq.2 e1
  have f1 : (aq == oq) = true := beq_iff_eq.2 e2
  have f2 : (anm.toList == onm.toList) = true := by rw [bytes_list_beq]; exact decide_eq_true e3
  obtain ⟨Q, hQ⟩ : ∃ Q, decide (adt = d) = Q := ⟨_, rfl⟩
  have f3 : (adt.toList == d.toList) = Q := by rw [bytes_list_beq]; exact hQ
  have HF : Hid (R = Q) := Lib.hid (by rw [← HR.out, ← hQ]; simp [e1, e2, e3])
  clear e1 e2 e3 hQ
  go_enter Try.func83, Try.ntmps83
  go_wp2_with fail
  go_ret
  exact ⟨by rw [HF.out]; rfl, HK.out⟩
set_option maxRecDepth 100000 in
set_option maxHeartbeats 4000000 in
theorem m_contains (l : List AskL) (A : Option Addr) (c y z : Nat) (pr : AskL → Bool) (S : Nat → Prop) (w : World) (hl : Rp.ask.slice.R w S [.slice A l.length c] l)
    (hf : ∀ a w', Kp No w w' → Calls Try.prog 83 #[askV a, .pointer (some ⟨y, 0, none⟩), .pointer (some ⟨z, 0, none⟩)] w' fun e w2 => e = .returned (.bool (pr a)) ∧ Kp No w' w2) :
    Calls Try.prog 82 #[.slice A l.length c, fnV y z] w fun e w' => e = .returned (.bool (l.any pr)) ∧ Kp No w w' := by
  have HI := Lib.hid (m_index l A c y z pr S w hl hf)
  clear hl hf
  unfold fnV at *
  go_enter Try.func82, Try.ntmps82
  go_wp2_with fail
  refine HI.out.mono ?_
  rintro e w2 ⟨r, rfl, hr, hk⟩
  have HK := Lib.hid hk
  have HR := Lib.hid hr
  clear hk hr HI
  go_wp2_with fail
  go_ret
  exact ⟨by rw [← HR.out]; rfl, HK.out⟩
end Go.Proofs.Ytbncblnchcmgbaa
