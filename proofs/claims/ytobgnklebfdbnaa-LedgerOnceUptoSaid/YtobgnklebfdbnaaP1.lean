/-
  pack: put, Nums, Text.
-/
import Derived.Test.YtobgnklebfdbnaaPackL
import Derived.Test.YtobgnklebfdbnaaShelf
import Derived.Test.YtobgnklebfdbnaaBy
import Derived.Laws.BitsAllLaws
namespace Go.Proofs.Ytobgnklebfdbnaa
open Go.RowKit Go.ChangeShapes Go.WideShapes Go.ChangeAt

theorem or128 (z : Nat) : bits .or .u8 ((z : Int) % 256) 128 = ((z % 128 + 128 : Nat) : Int) := by
  have : ∀ N : Fin 256, bits .or .u8 (N.val : Int) 128 = ((N.val % 128 + 128 : Nat) : Int) := by decide +kernel
  have h := this ⟨z % 256, Nat.mod_lt _ (by omega)⟩
  rw [show ((z % 256 : Nat) : Int) = (z : Int) % 256 by omega, show z % 256 % 128 = z % 128 by omega] at h
  exact h
theorem byteCells_one (b : UInt8) : Lib.byteCells [b] = [byteOf b] := rfl
theorem byteCells_append (a b : List UInt8) : Lib.byteCells (a ++ b) = Lib.byteCells a ++ Lib.byteCells b := List.map_append

set_option maxRecDepth 100000 in
set_option maxHeartbeats 1000000 in
theorem c_put (B b : Nat) (l : List UInt8) (n : Int) (w : World) (h0 : -9223372036854775808 ≤ n) (h1 : n < 9223372036854775808) (hb : Lib.IsBuilder 172 5 B b (Lib.byteCells l) w) (hl : l.length ≤ 1073741824) (hB : B ≤ w.heap.size) :
    Calls Try.prog 108 #[.pointer (some ⟨b, 0, none⟩), .int .i64 n] w fun e w' => e = .returned (.tuple #[]) ∧ Lib.IsBuilder 172 5 B b (Lib.byteCells (l ++ numB n)) w' ∧ Below B w w' := by
  obtain ⟨Z, hZ⟩ : ∃ Z, zz n = Z := ⟨_, rfl⟩
  have hZl : Z < 18446744073709551616 := by rw [← hZ]; unfold zz; split <;> omega
  have key : ∃ u d q v : Int, IntKind.u64.wrap n = u ∧ IntKind.u64.wrap (u * 2) = d ∧ n / 9223372036854775808 = q ∧ IntKind.u64.wrap q = v ∧ bits .xor .u64 d v = (Z : Int) := by
    refine ⟨_, _, _, _, rfl, rfl, rfl, rfl, ?_⟩
    by_cases hn : 0 ≤ n
    · have e1 : IntKind.u64.wrap n = n := by simp [IntKind.wrap, IntKind.signed, IntKind.bits]; omega
      have e2 : IntKind.u64.wrap (n * 2) = ((Z : Nat) : Int) := by rw [← hZ]; unfold zz; rw [if_pos hn]; simp [IntKind.wrap, IntKind.signed, IntKind.bits]; omega
      have e3 : n / 9223372036854775808 = 0 := by omega
      rw [e1, e2, e3, show IntKind.u64.wrap 0 = ((0 : Nat) : Int) from rfl, u64_xor_nat Z 0 hZl (by omega), Nat.xor_zero]
    · have e1 : IntKind.u64.wrap n = n + 18446744073709551616 := by simp [IntKind.wrap, IntKind.signed, IntKind.bits]; omega
      have e2 : IntKind.u64.wrap ((n + 18446744073709551616) * 2) = ((18446744073709551615 - Z : Nat) : Int) := by rw [← hZ]; unfold zz; rw [if_neg hn]; simp [IntKind.wrap, IntKind.signed, IntKind.bits]; omega
      have e3 : n / 9223372036854775808 = -1 := by omega
      rw [e1, e2, e3, show IntKind.u64.wrap (-1) = ((18446744073709551615 : Nat) : Int) from rfl, u64_xor_nat _ _ (by omega) (by omega), xor_ones _ (by omega)]
      congr 1; omega
  obtain ⟨u, d, q, v, k1, k2, k3, k4, k5⟩ := key
  have HZ0 : Hid (vb Z = numB n) := Lib.hid (by rw [← hZ]; rfl)
  have HB0 : Hid (Lib.IsBuilder 172 5 B b (Lib.byteCells (l ++ [])) w) := Lib.hid (by simpa using hb)
  clear hZ hb
  go_enter Try.func108, Try.ntmps108
  go_wp2_with fail
  clear k1 k2 k3 k4 k5
  go_loopw [4] (fun zv wr => ∃ (z : Nat) (m : List UInt8), zv = .int .u64 (z : Int) ∧ z < 18446744073709551616 ∧ Hid (m ++ vb z = numB n) ∧ Lib.IsBuilder 172 5 B b (Lib.byteCells (l ++ m)) wr ∧ Below B w wr) (fun zv _ => (intOf zv).toNat)
  case atStart => exact ⟨Z, [], rfl, hZl, HZ0, HB0.out, Below.refl _ _⟩
  case round =>
    obtain ⟨z, m, rfl, hz, HM, hbb, hbl⟩ := hrel
    have HB := Lib.hid hbb
    have HK := Lib.hid hbl
    have hml : m.length ≤ 10 := by
      have h2 := numB_length n h0 h1
      rw [← HM.out, List.length_append] at h2; omega
    clear HB0 HZ0 hbb hbl
    have hor := or128 z
    by_cases hgt : 127 < z
    · have hv : Value.int .u8 ((z % 128 + 128 : Nat) : Int) = byteOf (UInt8.ofNat (z % 128 + 128)) := by rw [byte_nat, Nat.mod_eq_of_lt (show z % 128 + 128 < 256 by omega)]
      obtain ⟨c, hc⟩ : ∃ c, UInt8.ofNat (z % 128 + 128) = c := ⟨_, rfl⟩
      have HNX : Hid ((m ++ [c]) ++ vb (z / 128) = numB n) := Lib.hid (by rw [← HM.out, vb_more hgt, hc, List.append_assoc]; rfl)
      rw [hc] at hv
      obtain ⟨x, hx⟩ : ∃ x, z % 128 + 128 = x := ⟨_, rfl⟩
      rw [hx] at hor hv
      have HV := Lib.hid hv
      have hg : (127 : Int) < (z : Int) := by omega
      have hzz : z / 128 < z := by omega
      clear hv hc hx
      go_wp2_with fail
      refine (sh_Builder_WriteByte B b (Lib.byteCells (l ++ m)) (x : Int) _ HB.out (by rw [Lib.byteCells_length, List.length_append]; omega) (Nat.le_trans hB HK.out.size)).mono ?_
      rintro e w2 ⟨rfl, hb2, hk2⟩
      rw [HV.out, ← byteCells_one, ← byteCells_append, List.append_assoc] at hb2
      have HB2 := Lib.hid hb2
      have HK2 := Lib.hid (HK.out.trans hk2)
      clear hb2 hk2
      go_wp2_with fail
      go_roundw
      case rel => exact ⟨z / 128, m ++ [c], by go_num, by omega, HNX, .inr HB2.out, HK2.out⟩
      case measure => simp [intOf]; omega
    · have hv : Value.int .u8 ((z : Int)) = byteOf (UInt8.ofNat z) := by rw [byte_nat, Nat.mod_eq_of_lt (by omega)]
      obtain ⟨c, hc⟩ : ∃ c, UInt8.ofNat z = c := ⟨_, rfl⟩
      have HNX : Hid (m ++ [c] = numB n) := Lib.hid (by rw [← HM.out, vb_last hgt, hc])
      rw [hc] at hv
      have HV := Lib.hid hv
      have hg : ¬ (127 : Int) < (z : Int) := by omega
      have hmod : (z : Int) % 256 = (z : Int) := by omega
      clear hv hc hor
      go_wp2_with fail
      refine (sh_Builder_WriteByte B b (Lib.byteCells (l ++ m)) (z : Int) _ HB.out (by rw [Lib.byteCells_length, List.length_append]; omega) (Nat.le_trans hB HK.out.size)).mono ?_
      rintro e w2 ⟨rfl, hb2, hk2⟩
      rw [HV.out, ← byteCells_one, ← byteCells_append, List.append_assoc, HNX.out] at hb2
      have HB2 := Lib.hid hb2
      have HK2 := Lib.hid (HK.out.trans hk2)
      clear hb2 hk2
      go_wp2_with fail
      go_end0
      exact ⟨rfl, .inr HB2.out, HK2.out⟩

theorem numsB_length (l : List Int) (h : ∀ n ∈ l, -9223372036854775808 ≤ n ∧ n < 9223372036854775808) : (numsB l).length ≤ 10 * l.length := by
  induction l with
  | nil => simp [numsB]
  | cons n l ih =>
    have h1 := ih (fun x hx => h x (List.mem_cons_of_mem _ hx))
    have h2 := h n (List.mem_cons_self ..)
    have h3 := numB_length n h2.1 h2.2
    show (numB n ++ numsB l).length ≤ _
    rw [List.length_append, List.length_cons]; omega
theorem wf_bounds {n : Int} (h : (Lit.int .i64 n).wf = true) : -9223372036854775808 ≤ n ∧ n < 9223372036854775808 := by have := bounds_i64 h; omega

set_option maxRecDepth 100000 in
set_option maxHeartbeats 1000000 in
theorem c_nums (l : List Int) (A : Option Addr) (c : Nat) (w : World) (S : Nat → Prop) (hl : (Rp.int .i64).slice.R w S [.slice A l.length c] l) (hn : l.length ≤ 1000000) :
    Calls Try.prog 82 #[.slice A l.length c] w fun e w' => e = .returned (.string (bs (numsB l))) ∧ Kp No w w' := by
  have HL := Lib.hid hl
  have hall : ∀ n ∈ l, -9223372036854775808 ≤ n ∧ n < 9223372036854775808 := by
    intro n hn
    obtain ⟨i, hi⟩ := List.mem_iff_getElem?.1 hn
    obtain ⟨_, _, _, _, hw⟩ := Rp.at_int hl hi
    exact wf_bounds hw
  have HALL := Lib.hid hall
  clear hl hall
  go_enter Try.func82, Try.ntmps82
  go_wp2_with fail
  have HB0 : Hid (Lib.IsBuilder 172 5 w.heap.size w.heap.size (Lib.byteCells (numsB (l.take 0))) (w.alloc (.cells #[.pointer none, .slice none 0 0] 172))) := Lib.hid (Lib.fresh_isBuilder _ _ w)
  go_loopw [8] (fun iv wr => ∃ k : Nat, k ≤ l.length ∧ iv = .int .i64 (k : Int) ∧ Lib.IsBuilder 172 5 w.heap.size w.heap.size (Lib.byteCells (numsB (l.take k))) wr ∧ Below w.heap.size w wr) (fun iv _ => l.length - (intOf iv).toNat)
  case atStart => exact ⟨0, Nat.zero_le _, rfl, HB0.out, (Below.refl _ _).alloc (Nat.le_refl _) _⟩
  case round =>
    obtain ⟨k, hk, rfl, hbb, hbl⟩ := hrel
    have HB := Lib.hid hbb
    have HK := Lib.hid hbl
    clear HB0 hbb hbl
    by_cases hlt : k < l.length
    · obtain ⟨x, hx⟩ : ∃ x, l[k]? = some x := ⟨_, List.getElem?_eq_getElem hlt⟩
      obtain ⟨ad, rfl, _, hcell, _⟩ := Rp.at_int ((Rp.slice _).keptNo HL.out (Kp.ofBelow HK.out (Nat.le_refl _))) hx
      have hxb := HALL.out x (List.mem_of_getElem? hx)
      have hst : numsB (l.take (k + 1)) = numsB (l.take k) ++ numB x := by
        obtain ⟨h, rfl⟩ := List.getElem?_eq_some_iff.1 hx
        rw [List.take_succ_eq_append_getElem h, numsB_append]
        simp [numsB]
      have hml : (numsB (l.take k)).length ≤ 10000000 := by
        have h1 := numsB_length (l.take k) (fun n hn => HALL.out n (List.mem_of_mem_take hn))
        rw [List.length_take] at h1; omega
      have HST := Lib.hid hst
      have HML := Lib.hid hml
      clear hst hml hx
      go_wp2_with fail
      refine (c_put w.heap.size w.heap.size (numsB (l.take k)) x _ hxb.1 hxb.2 HB.out (by have := HML.out; omega) HK.out.size).mono ?_
      rintro e w2 ⟨rfl, hb2, hk2⟩
      rw [← HST.out] at hb2
      have HB2 := Lib.hid hb2
      have HK2 := Lib.hid (HK.out.trans hk2)
      clear hb2 hk2
      go_wp2_with fail
      go_roundw
      case rel => exact ⟨k + 1, by omega, by go_num, HB2.out, HK2.out⟩
      case measure => simp [intOf]; omega
    · obtain rfl : k = l.length := by omega
      rw [List.take_length] at HB
      go_wp2_with fail
      refine (sh_Builder_String_any w.heap.size w.heap.size (numsB l) _ HB.out HK.out.size).mono ?_
      rintro e w2 ⟨rfl, hk2⟩
      have HK2 := Lib.hid (HK.out.trans hk2)
      clear hk2
      go_wp2_with fail
      go_ret
      exact ⟨rfl, Kp.ofBelow HK2.out (Nat.le_refl _)⟩

theorem textB_length (s : ByteArray) (hs : s.size ≤ 1048576) : (textB s).length ≤ 10 + s.size := by
  unfold textB
  have := numB_length (s.size : Int) (by omega) (by omega)
  rw [List.length_append, data_length]; omega
theorem textsB_length (l : List ByteArray) (h : ∀ s ∈ l, s.size ≤ 1048576) : (textsB l).length ≤ 1048586 * l.length := by
  induction l with
  | nil => simp [textsB]
  | cons s l ih =>
    have h1 := ih (fun x hx => h x (List.mem_cons_of_mem _ hx))
    have h2 := h s (List.mem_cons_self ..)
    have h3 := textB_length s h2
    show (textB s ++ textsB l).length ≤ _
    rw [List.length_append, List.length_cons]; omega

set_option maxRecDepth 100000 in
set_option maxHeartbeats 1000000 in
theorem c_text (l : List ByteArray) (A : Option Addr) (c : Nat) (w : World) (S : Nat → Prop) (hl : Rp.str.slice.R w S [.slice A l.length c] l) (hn : ∀ s ∈ l, s.size ≤ 1048576) (hln : (textsB l).length ≤ 1073741824) :
    Calls Try.prog 84 #[.slice A l.length c] w fun e w' => e = .returned (.string (bs (textsB l))) ∧ Kp No w w' := by
  have HL := Lib.hid hl
  have HALL := Lib.hid hn
  have hlen : l.length ≤ maxLen := by obtain ⟨_, _, _, h1, h2, _⟩ := hl; omega
  unfold maxLen at hlen
  clear hl hn
  go_enter Try.func84, Try.ntmps84
  go_wp2_with fail
  have HB0 : Hid (Lib.IsBuilder 172 5 w.heap.size w.heap.size (Lib.byteCells (textsB (l.take 0))) (w.alloc (.cells #[.pointer none, .slice none 0 0] 172))) := Lib.hid (Lib.fresh_isBuilder _ _ w)
  go_loopw [8] (fun iv wr => ∃ k : Nat, k ≤ l.length ∧ iv = .int .i64 (k : Int) ∧ Lib.IsBuilder 172 5 w.heap.size w.heap.size (Lib.byteCells (textsB (l.take k))) wr ∧ Below w.heap.size w wr) (fun iv _ => l.length - (intOf iv).toNat)
  case atStart => exact ⟨0, Nat.zero_le _, rfl, HB0.out, (Below.refl _ _).alloc (Nat.le_refl _) _⟩
  case round =>
    obtain ⟨k, hk, rfl, hbb, hbl⟩ := hrel
    have HB := Lib.hid hbb
    have HK := Lib.hid hbl
    clear HB0 hbb hbl
    by_cases hlt : k < l.length
    · obtain ⟨x, hx⟩ : ∃ x, l[k]? = some x := ⟨_, List.getElem?_eq_getElem hlt⟩
      obtain ⟨ad, rfl, _, hcell, _⟩ := Rp.at_str ((Rp.slice _).keptNo HL.out (Kp.ofBelow HK.out (Nat.le_refl _))) hx
      have hxb := HALL.out x (List.mem_of_getElem? hx)
      have hst : textsB (l.take (k + 1)) = textsB (l.take k) ++ numB x.size ++ x.data.toList := by
        obtain ⟨h, rfl⟩ := List.getElem?_eq_some_iff.1 hx
        rw [List.take_succ_eq_append_getElem h, textsB_append]
        simp [textsB, textB, List.append_assoc]
      have hml : (textsB (l.take k)).length + (textB x).length ≤ 1073741824 := by
        have h1 : textsB l = textsB (l.take (k + 1)) ++ textsB (l.drop (k + 1)) := by rw [← textsB_append, List.take_append_drop]
        rw [h1, hst, List.length_append, List.length_append, List.length_append] at hln
        unfold textB
        rw [List.length_append]; omega
      have hnb : (numB x.size).length + x.size = (textB x).length := by unfold textB; rw [List.length_append, data_length]
      have HST := Lib.hid hst
      have HML := Lib.hid hml
      have HNB := Lib.hid hnb
      clear hst hml hx hnb
      go_wp2_with fail
      refine (c_put w.heap.size w.heap.size (textsB (l.take k)) (x.size : Int) _ (by omega) (by omega) HB.out (by have := HML.out; omega) HK.out.size).mono ?_
      rintro e w2 ⟨rfl, hb2, hk2⟩
      have HB2 := Lib.hid hb2
      have HK2 := Lib.hid (HK.out.trans hk2)
      clear hb2 hk2
      go_wp2_with fail
      refine (sh_Builder_WriteString w.heap.size w.heap.size (Lib.byteCells (textsB (l.take k) ++ numB x.size)) x _ HB2.out (by rw [Lib.byteCells_length, List.length_append]; have := HML.out; have := HNB.out; omega) HK2.out.size).mono ?_
      rintro e w3 ⟨rfl, hb3, hk3⟩
      rw [show Lib.strCells x = Lib.byteCells x.data.toList from rfl, ← byteCells_append, ← HST.out] at hb3
      have HB3 := Lib.hid hb3
      have HK3 := Lib.hid (HK2.out.trans hk3)
      clear hb3 hk3
      go_wp2_with fail
      go_roundw
      case rel => exact ⟨k + 1, by omega, by go_num, .inr HB3.out, HK3.out⟩
      case measure => simp [intOf]; omega
    · obtain rfl : k = l.length := by omega
      rw [List.take_length] at HB
      go_wp2_with fail
      refine (sh_Builder_String_any w.heap.size w.heap.size (textsB l) _ HB.out HK.out.size).mono ?_
      rintro e w2 ⟨rfl, hk2⟩
      have HK2 := Lib.hid (HK.out.trans hk2)
      clear hk2
      go_wp2_with fail
      go_ret
      exact ⟨rfl, Kp.ofBelow HK2.out (Nat.le_refl _)⟩
end Go.Proofs.Ytobgnklebfdbnaa
