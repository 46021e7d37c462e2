/-
  The reference's less: x^3 against p times 2^96, by parts of 16 bits, walked.
-/
import Derived.Test.YtejmbbnndagejaaCubL
import Derived.Test.YtejmbbnndagejaaS1
namespace Go.Proofs.Ytejmbbnndagejaa
open Go.RowKit Go.ChangeShapes Go.WideShapes Go.ChangeAt

def nv (n : Nat) : Value := .int .u64 (n : Int)
/-- amid: the parts and the three digits stand -/
def LessAt (w0 : World) (ga go : Nat) (x : Nat) (a : List Nat) (w : World) : Prop :=
  (a.length = 12 ∧ ∀ v ∈ a, v < 18446744073709551616) ∧ Blk w ga 101 (a.map nv) ∧ Blk w go 102 [nv (one3 x 0), nv (one3 x 1), nv (one3 x 2)] ∧ Kp No w0 w
theorem LessAt.set {w0 w : World} {ga go x : Nat} {a : List Nat} (h : LessAt w0 ga go x a w) (hg : w0.heap.size ≤ ga) (hne : ga ≠ go) (n z : Nat) (hz : z < 18446744073709551616) : LessAt w0 ga go x (a.set n z) (w.setCell ⟨ga, n, none⟩ (nv z)) := by
  obtain ⟨⟨h1, h1'⟩, h2, h3, h4⟩ := h
  refine ⟨⟨by rw [List.length_set]; exact h1, fun v hv => ?_⟩, by rw [List.map_set]; exact h2.set n (nv z), ?_, h4.setCell (fun hlt => absurd hlt (by show ¬ ga < _; omega)) _⟩
  · rcases List.mem_or_eq_of_mem_set hv with hv | rfl
    · exact h1' v hv
    · exact hz
  · exact h3.kept (S := (· = ga)) ((Kp.refl (· = ga) w).setCell (p := ⟨ga, n, none⟩) (fun _ => rfl) _) (fun e => hne e.symm)
theorem LessAt.drew {w0 w : World} {ga go x : Nat} {a : List Nat} (h : LessAt w0 ga go x a w) : LessAt w0 ga go x a w.drew := ⟨h.1, h.2.1.drew, h.2.2.1.drew, h.2.2.2.drew⟩
theorem LessAt.one {w0 w : World} {ga go x : Nat} {a : List Nat} (h : LessAt w0 ga go x a w) {i : Nat} (hi : i < 3) : w.cell? ⟨go, i, none⟩ = some (.int .u64 ((one3 x i : Nat) : Int)) := by
  rcases (by omega : i = 0 ∨ i = 1 ∨ i = 2) with rfl | rfl | rfl <;> exact h.2.2.1.cell rfl
theorem LessAt.at {w0 w : World} {ga go x : Nat} {a : List Nat} (h : LessAt w0 ga go x a w) {i : Nat} (hi : i < 12) : w.cell? ⟨ga, i, none⟩ = some (.int .u64 ((a.getD i 0 : Nat) : Int)) := by
  refine h.2.1.cell ?_
  rw [List.getElem?_map, List.getD_eq_getElem?_getD, List.getElem?_eq_getElem (by rw [h.1.1]; exact hi)]; rfl
theorem LessAt.lt {w0 w : World} {ga go x : Nat} {a : List Nat} (h : LessAt w0 ga go x a w) (i : Nat) : a.getD i 0 < 18446744073709551616 := by
  rw [List.getD_eq_getElem?_getD]
  rcases Nat.lt_or_ge i a.length with hi | hi
  · rw [List.getElem?_eq_getElem hi]; exact h.1.2 _ (List.getElem_mem hi)
  · rw [List.getElem?_eq_none hi]; decide
theorem LessAt.fr {w0 w : World} {ga go x : Nat} {a : List Nat} (h : LessAt w0 ga go x a w) (i : Nat) : w.frozen? ⟨ga, i, none⟩ = false := h.2.1.fr i
theorem getD_set_ne {a : List Nat} {n m z : Nat} (h : n ≠ m) : (a.set n z).getD m 0 = a.getD m 0 := by rw [List.getD_eq_getElem?_getD, List.getD_eq_getElem?_getD, List.getElem?_set_ne h]
theorem wrap_add (a b : Nat) : IntKind.u64.wrap ((a : Int) + (b : Int)) = (((a + b) % 18446744073709551616 : Nat) : Int) := by simp [IntKind.wrap, IntKind.signed, IntKind.bits]
theorem wrap_mul (a b : Nat) : IntKind.u64.wrap ((a : Int) * (b : Int)) = (((a * b) % 18446744073709551616 : Nat) : Int) := by simp [IntKind.wrap, IntKind.signed, IntKind.bits]
theorem and16b (a : Nat) (h : a < 18446744073709551616) : bits .and .u64 (a : Int) 65535 = ((a % 65536 : Nat) : Int) := by
  have h1 := u64_and_nat a 65535 h (by omega)
  rw [show ((65535 : Nat) : Int) = 65535 from rfl] at h1
  rw [h1]
  have h2 := Nat.and_two_pow_sub_one_eq_mod a 16
  rw [show 2 ^ 16 - 1 = 65535 from rfl, show 2 ^ 16 = 65536 from rfl] at h2
  rw [h2]

set_option maxRecDepth 100000 in
set_option maxHeartbeats 4000000 in
theorem r_less (x p : Nat) (b : Bool) (hx : x < 18446744073709551616) (hr : lessR x p = some b) (w : World) : Calls Try.prog 66 #[.int .u64 (x : Int), .int .u64 (p : Int)] w fun e w' => e = .returned (.bool b) ∧ Kp No w w' := by
  obtain ⟨A, hA, hb⟩ : ∃ A, igo x 3 0 (List.replicate 12 0) = some A ∧ lessOf (carryGo 11 0 A) p = b := by
    unfold lessR at hr
    split at hr
    · cases hr
    · rename_i A hA; exact ⟨A, hA, by injection hr⟩
  have HA := Lib.hid hA
  have HB := Lib.hid hb
  clear hr hA hb
  obtain ⟨x0, hx0⟩ : ∃ z, x % 65536 = z := ⟨_, rfl⟩
  obtain ⟨x1, hx1⟩ : ∃ z, x / 65536 % 65536 = z := ⟨_, rfl⟩
  obtain ⟨x2, hx2⟩ : ∃ z, x / 4294967296 = z := ⟨_, rfl⟩
  obtain ⟨xq, hxq⟩ : ∃ z, x / 65536 = z := ⟨_, rfl⟩
  have e0 : bits .and .u64 (x : Int) 65535 = (x0 : Int) := by rw [and16b x hx, hx0]
  have e1 : (x : Int) / 65536 = (xq : Int) := by rw [← hxq]; omega
  have e2 : bits .and .u64 (xq : Int) 65535 = (x1 : Int) := by rw [and16b xq (by omega), ← hx1, hxq]
  have e3 : (x : Int) / 4294967296 = (x2 : Int) := by rw [← hx2]; omega
  have HX : Hid (one3 x 0 = x0 ∧ one3 x 1 = x1 ∧ one3 x 2 = x2) := Lib.hid ⟨hx0, hx1, hx2⟩
  clear hx0 hx1 hx2 hxq
  go_enter Try.func66, Try.ntmps66
  go_wp2_with fail
  clear e0 e1 e2 e3
  have HS : Hid (LessAt w w.heap.size (w.heap.size + 1) x (List.replicate 12 0) ((w.alloc (.cells (List.replicate 12 (nv 0)).toArray 101)).alloc (.cells [nv x0, nv x1, nv x2].toArray 102))) := Lib.hid (by
    refine ⟨⟨rfl, by decide⟩, ?_, ?_, ((Kp.refl _ _).alloc _).alloc _⟩
    · exact (Blk.new w (List.replicate 12 (nv 0)) _).kept (S := No) ((Kp.refl _ _).alloc _) (fun x => x)
    · rw [HX.out.1, HX.out.2.1, HX.out.2.2]
      have h := Blk.new (w.alloc (.cells (List.replicate 12 (nv 0)).toArray 101)) [nv x0, nv x1, nv x2] 102
      simpa using h)
  go_loopw [7] (fun iv wr => ∃ (i : Nat) (a : List Nat), i ≤ 3 ∧ iv = .int .i64 (i : Int) ∧ LessAt w w.heap.size (w.heap.size + 1) x a wr ∧ Hid (igo x (3 - i) i a = some A)) (fun iv _ => 3 - (intOf iv).toNat)
  case atStart => exact ⟨0, _, by omega, rfl, HS.out, HA⟩
  case round =>
    obtain ⟨i, a, hi, rfl, hl, ha⟩ := hrel
    have HL := Lib.hid hl
    clear hl HA HS HX
    by_cases hlt : i < 3
    · obtain ⟨A1, hA1, hA2⟩ := igo_step hlt ha.out
      have HA1 := Lib.hid hA1
      have HA2 := Lib.hid hA2
      clear hA1 hA2 ha
      have Bi : (i : Int) < 3 := by omega
      go_wp2_with fail
      obtain ⟨wo, hwo⟩ : ∃ wo : World, wo = wr := ⟨_, rfl⟩
      go_loopw [8] (fun jv wr => ∃ (j : Nat) (a : List Nat), j ≤ 3 ∧ jv = .int .i64 (j : Int) ∧ LessAt w w.heap.size (w.heap.size + 1) x a wr ∧ Hid (jgo x i (3 - j) j a = some A1)) (fun jv _ => 3 - (intOf jv).toNat)
      case atStart => exact ⟨0, _, by omega, rfl, HL.out, HA1⟩
      case round =>
        clear hwo HL HA1
        obtain ⟨j, a, hj, rfl, hl, ha⟩ := hrel
        have HL := Lib.hid hl
        clear hl
        by_cases hjlt : j < 3
        · obtain ⟨B1, hB1, hB2⟩ := jgo_step hjlt ha.out
          have HB1 := Lib.hid hB1
          have HB2 := Lib.hid hB2
          clear hB1 hB2 ha
          have Bj : (j : Int) < 3 := by omega
          go_wp2_with fail
          obtain ⟨wo, hwo⟩ : ∃ wo : World, wo = wr := ⟨_, rfl⟩
          go_loopw [9] (fun kv wr => ∃ (k : Nat) (a : List Nat), k ≤ 3 ∧ kv = .int .i64 (k : Int) ∧ LessAt w w.heap.size (w.heap.size + 1) x a wr ∧ Hid (kgo x i j (3 - k) k a = some B1)) (fun kv _ => 3 - (intOf kv).toNat)
          case atStart => exact ⟨0, _, by omega, rfl, HL.out, HB1⟩
          case round =>
            clear hwo HL HB1
            obtain ⟨k, a, hk, rfl, hl, ha⟩ := hrel
            have HL := Lib.hid hl
            clear hl
            by_cases hklt : k < 3
            · obtain ⟨C1, hC1, hC2⟩ := kgo_step hklt ha.out
              have Bk : (k : Int) < 3 := by omega
              have ci := HL.out.one hlt
              have cj := HL.out.one hjlt
              have ck := HL.out.one hklt
              obtain ⟨oi, hoi⟩ : ∃ z, one3 x i = z := ⟨_, rfl⟩
              obtain ⟨oj, hoj⟩ : ∃ z, one3 x j = z := ⟨_, rfl⟩
              obtain ⟨ok, hok⟩ : ∃ z, one3 x k = z := ⟨_, rfl⟩
              rw [hoi] at ci hC1
              rw [hoj] at cj hC1
              rw [hok] at ck hC1
              obtain ⟨m1, hm1⟩ : ∃ z, oi * oj % 18446744073709551616 = z := ⟨_, rfl⟩
              obtain ⟨y0, hy0⟩ : ∃ z, m1 * ok % 18446744073709551616 = z := ⟨_, rfl⟩
              rw [hm1, hy0] at hC1
              have e1 : IntKind.u64.wrap ((oi : Int) * (oj : Int)) = (m1 : Int) := by rw [wrap_mul, hm1]
              have e2 : IntKind.u64.wrap ((m1 : Int) * (ok : Int)) = (y0 : Int) := by rw [wrap_mul, hy0]
              have e3 : IntKind.i64.wrap ((i : Int) + (j : Int)) = (i : Int) + (j : Int) := by rw [IntKind.wrap_i64]; omega
              have e4 : IntKind.i64.wrap ((i : Int) + (j : Int) + (k : Int)) = ((i + j + k : Nat) : Int) := by rw [IntKind.wrap_i64]; omega
              have hy0l : y0 < 18446744073709551616 := by rw [← hy0]; exact Nat.mod_lt _ (by omega)
              have HC1 := Lib.hid hC1
              have HC2 := Lib.hid hC2
              clear hC1 hC2 ha hoi hoj hok hm1 hy0
              go_wp2_with fail
              refine Reg.wp_region_plan [⟨0, false, []⟩, ⟨1, false, []⟩, ⟨2, false, []⟩, ⟨3, false, []⟩, ⟨4, false, []⟩, ⟨5, false, []⟩, ⟨6, false, []⟩, ⟨7, false, []⟩, ⟨8, false, []⟩, ⟨9, false, []⟩, ⟨10, false, []⟩, ⟨11, false, []⟩] rfl (by kernel_rfl) ?_
              repeat (first | (refine Reg.look rfl rfl rfl (by go_simp; rfl) rfl ?_; go_simp) | (refine Reg.skip rfl rfl rfl ?_; go_simp))
              (refine Reg.done ?_; simp only [Exit.then])
              clear e1 e2 ci cj ck
              go_wp2_with fail
              obtain ⟨wo, hwo⟩ : ∃ wo : World, wo = wr := ⟨_, rfl⟩
              go_loopw [10, 11] (fun yv nv wr => ∃ (f y n : Nat) (a : List Nat), y < 18446744073709551616 ∧ n ≤ 12 ∧ yv = .int .u64 (y : Int) ∧ nv = .int .i64 (n : Int) ∧ LessAt w w.heap.size (w.heap.size + 1) x a wr ∧ Hid (digits f y n a = some C1)) (fun yv _ _ => (intOf yv).toNat)
              case atStart => exact ⟨5, y0, i + j + k, a, hy0l, by omega, rfl, by congr 1, HL.out.drew, HC1⟩
              case round =>
                clear hwo HL HC1 hy0l e3 e4
                obtain ⟨f, y, n, a, hyl, hn, rfl, rfl, hl, ha⟩ := hrel
                have HL := Lib.hid hl
                clear hl
                by_cases hy : 0 < y
                · obtain ⟨hn12, hd⟩ := digits_pos ha.out hy
                  have hyi : (0 : Int) < (y : Int) := by omega
                  have Bn : (n : Int) < 12 := by omega
                  have cn := HL.out.at hn12
                  have fr := HL.out.fr n
                  obtain ⟨v, hv⟩ : ∃ z, a.getD n 0 = z := ⟨_, rfl⟩
                  obtain ⟨lo, hlo⟩ : ∃ z, y % 65536 = z := ⟨_, rfl⟩
                  obtain ⟨yq, hyq⟩ : ∃ z, y / 65536 = z := ⟨_, rfl⟩
                  obtain ⟨z, hz⟩ : ∃ z, (v + lo) % 18446744073709551616 = z := ⟨_, rfl⟩
                  have e1 : bits .and .u64 (y : Int) 65535 = (lo : Int) := by rw [and16b y hyl, hlo]
                  have e2 : IntKind.u64.wrap ((v : Int) + (lo : Int)) = (z : Int) := by rw [wrap_add, hz]
                  have e3 : (y : Int) / 65536 = (yq : Int) := by rw [← hyq]; omega
                  have e4 : IntKind.i64.wrap ((n : Int) + 1) = (n : Int) + 1 := by rw [IntKind.wrap_i64]; omega
                  have hlt2 : yq < y := by omega
                  have hzl : z < 18446744073709551616 := by rw [← hz]; exact Nat.mod_lt _ (by omega)
                  rw [hv] at cn
                  rw [hv, hlo, hz, hyq] at hd
                  have HD := Lib.hid hd
                  clear hd ha hv hlo hyq hz
                  go_wp2_with fail
                  go_roundw
                  case rel => exact ⟨f - 1, yq, n + 1, a.set n z, by omega, by omega, rfl, by go_num, HL.out.set (Nat.le_refl _) (by omega) n z hzl, HD⟩
                  case measure => simp [intOf]; omega
                · obtain rfl : y = 0 := by omega
                  obtain rfl := digits_zero ha.out
                  go_wp2_with fail
                  go_roundw
                  case rel => exact ⟨k + 1, a, by omega, by go_num, HL.out, HC2⟩
                  case measure => simp [intOf]; omega
            · obtain rfl : k = 3 := by omega
              have hab : a = B1 := by have := ha.out; simpa [kgo] using this
              subst hab
              clear ha
              go_wp2_with fail
              go_roundw
              case rel => exact ⟨j + 1, a, by omega, by go_num, HL.out, HB2⟩
              case measure => simp [intOf]; omega
        · obtain rfl : j = 3 := by omega
          have hab : a = A1 := by have := ha.out; simpa [jgo] using this
          subst hab
          clear ha
          go_wp2_with fail
          go_roundw
          case rel => exact ⟨i + 1, a, by omega, by go_num, HL.out, HA2⟩
          case measure => simp [intOf]; omega
    · obtain rfl : i = 3 := by omega
      rw [show (((3 : Nat)) : Int) = 3 from rfl]
      have hab : a = A := by have := ha.out; simpa [igo] using this
      subst hab
      clear ha
      obtain ⟨b0, hb0⟩ : ∃ z, carryGo 11 0 a = z := ⟨_, rfl⟩
      rw [hb0] at HB
      have HC0 := Lib.hid hb0
      clear hb0
      go_wp2_with fail
      obtain ⟨wo, hwo⟩ : ∃ wo : World, wo = wr := ⟨_, rfl⟩
      go_loopw [12] (fun nv wr => ∃ (n : Nat) (a : List Nat), n ≤ 11 ∧ nv = .int .i64 (n : Int) ∧ LessAt w w.heap.size (w.heap.size + 1) x a wr ∧ Hid (carryGo (11 - n) n a = b0)) (fun nv _ => 11 - (intOf nv).toNat)
      case atStart => exact ⟨0, a, by omega, rfl, HL.out, HC0⟩
      case round =>
        clear hwo HL HC0
        obtain ⟨n, a, hn, rfl, hl, ha⟩ := hrel
        have HL := Lib.hid hl
        clear hl
        by_cases hlt2 : n < 11
        · have hc := ha.out
          rw [carry_step hlt2] at hc
          have c0 := HL.out.at (i := n) (by omega)
          have c1 := HL.out.at (i := n + 1) (by omega)
          have f0 := HL.out.fr n
          have f1 := HL.out.fr (n + 1)
          obtain ⟨v0, hv0⟩ : ∃ z, a.getD n 0 = z := ⟨_, rfl⟩
          obtain ⟨v1, hv1⟩ : ∃ z, a.getD (n + 1) 0 = z := ⟨_, rfl⟩
          obtain ⟨q0, hq0⟩ : ∃ z, v0 / 65536 = z := ⟨_, rfl⟩
          obtain ⟨lo, hlo⟩ : ∃ z, v0 % 65536 = z := ⟨_, rfl⟩
          obtain ⟨z, hz⟩ : ∃ z, (v1 + q0) % 18446744073709551616 = z := ⟨_, rfl⟩
          rw [hv0] at c0
          rw [hv1] at c1
          rw [hv0, hv1, hq0, hz, hlo] at hc
          obtain ⟨n1, hn1⟩ : ∃ z, n + 1 = z := ⟨_, rfl⟩
          rw [hn1] at c1 f1 hc
          have hne : n ≠ n1 := by omega
          have hne2 : n1 ≠ n := by omega
          have e1 : IntKind.i64.wrap ((n : Int) + 1) = (n1 : Int) := by rw [IntKind.wrap_i64]; omega
          have e2 : (v0 : Int) / 65536 = (q0 : Int) := by rw [← hq0]; omega
          have e3 : IntKind.u64.wrap ((v1 : Int) + (q0 : Int)) = (z : Int) := by rw [wrap_add, hz]
          have Bn : (n : Int) < 12 := by omega
          have Bn1 : (n1 : Int) < 12 := by omega
          have bn1 : n1 ≤ 11 := by omega
          have hzl : z < 18446744073709551616 := by rw [← hz]; exact Nat.mod_lt _ (by omega)
          have hv0l : v0 < 18446744073709551616 := by rw [← hv0]; exact HL.out.lt n
          have HC := Lib.hid hc
          have HV0 := Lib.hid hv0
          have HLO := Lib.hid hlo
          have HN1 := Lib.hid hn1
          clear hc ha hv0 hv1 hq0 hz hn1 hlo
          go_wp2_with fail
          refine Reg.wp_region_plan [⟨0, false, []⟩, ⟨1, false, []⟩, ⟨2, false, []⟩, ⟨3, false, []⟩, ⟨4, false, []⟩, ⟨5, false, []⟩, ⟨6, false, []⟩, ⟨7, false, []⟩, ⟨8, false, []⟩, ⟨9, false, []⟩, ⟨10, true, []⟩] rfl (by kernel_rfl) ?_
          repeat (first | (refine Reg.look rfl rfl rfl (by go_simp; rfl) rfl ?_; go_simp) | (refine Reg.skip rfl rfl rfl ?_; go_simp))
          refine Reg.act rfl ?_
          go_wp2
          refine ⟨Reg.anew_nil, ?_⟩
          (refine Reg.done ?_; simp only [Exit.then])
          have HL2 : Hid (LessAt w w.heap.size (w.heap.size + 1) x (a.set n1 z) (wr.setCell ⟨w.heap.size, n1, none⟩ (.int .u64 (z : Int))).drew) := Lib.hid ((HL.out.set (Nat.le_refl _) (by omega) n1 z hzl).drew)
          generalize (wr.setCell ⟨w.heap.size, n1, none⟩ (.int .u64 (z : Int))).drew = w5 at *
          have c5 := HL2.out.at (i := n) (by omega)
          rw [getD_set_ne hne2, HV0.out] at c5
          have f5 := HL2.out.fr n
          have e5 : bits .and .u64 (v0 : Int) 65535 = (lo : Int) := by rw [and16b v0 hv0l, HLO.out]
          clear c0 c1 f0 f1 HL e1 e2 e3
          go_wp2_with fail
          go_roundw
          case rel => exact ⟨n + 1, (a.set n1 z).set n lo, by omega, by go_num, HL2.out.set (Nat.le_refl _) (by omega) n lo (by have := HLO.out; omega), by rw [HN1.out]; exact HC⟩
          case measure => simp [intOf]; omega
        · obtain rfl : n = 11 := by omega
          rw [show (((11 : Nat)) : Int) = 11 from rfl]
          have hab : a = b0 := by have := ha.out; simpa [carryGo] using this
          subst hab
          clear ha
          obtain ⟨T, hT⟩ : ∃ z, topGo a 6 0 = z := ⟨_, rfl⟩
          have HT := Lib.hid hT
          have HLE : Hid (b = (decide (T < p) || (decide (T = p) && decide (restOf a = 0)))) := Lib.hid (by rw [← HB.out, ← hT]; rfl)
          clear hT HB
          go_wp2_with fail
          obtain ⟨wo, hwo⟩ : ∃ wo : World, wo = wr := ⟨_, rfl⟩
          go_loopw [13, 14] (fun tv iv w2 => ∃ (f t : Nat), f ≤ 6 ∧ tv = .int .u64 (t : Int) ∧ iv = .int .i64 ((f : Int) + 5) ∧ Hid (topGo a f t = T) ∧ w2 = wr) (fun _ iv _ => (intOf iv).toNat - 5)
          case atStart => exact ⟨6, 0, by omega, rfl, rfl, HT, rfl⟩
          case round =>
            obtain ⟨f, t, hf, rfl, rfl, ht, rfl⟩ := hrel
            clear hwo HT
            cases f with
            | succ f =>
              have c0 := HL.out.at (i := f + 6) (by omega)
              obtain ⟨v, hv⟩ : ∃ z, a.getD (f + 6) 0 = z := ⟨_, rfl⟩
              obtain ⟨t1, ht1⟩ : ∃ z, t * 65536 % 18446744073709551616 = z := ⟨_, rfl⟩
              obtain ⟨t2, ht2⟩ : ∃ z, (t1 + v) % 18446744073709551616 = z := ⟨_, rfl⟩
              have e1 : IntKind.u64.wrap ((t : Int) * 65536) = (t1 : Int) := by rw [← ht1]; exact wrap_mul t 65536
              have e2 : IntKind.u64.wrap ((t1 : Int) + (v : Int)) = (t2 : Int) := by rw [wrap_add, ht2]
              have HT2 : Hid (topGo a f t2 = T) := Lib.hid (by rw [← ht.out, topGo, hv, ht1, ht2])
              obtain ⟨q, hq⟩ : ∃ q, f + 6 = q := ⟨_, rfl⟩
              rw [hv, hq] at c0
              rw [show (((f + 1 : Nat) : Int) + 5) = (q : Int) by omega]
              have Bq : (q : Int) < 12 := by omega
              have Bq6 : (6 : Int) ≤ (q : Int) := by omega
              have bq6 : 6 ≤ q := by omega
              have bq12 : q < 12 := by omega
              have e3 : IntKind.i64.wrap ((q : Int) - 1) = (f : Int) + 5 := by rw [IntKind.wrap_i64]; omega
              have HQ := Lib.hid hq
              clear hv ht1 ht2 ht hq
              go_wp2_with fail
              go_roundw
              case rel => exact ⟨f, t2, by omega, rfl, rfl, HT2, trivial⟩
              case measure => have := HQ.out; simp [intOf]; omega
            | zero =>
              have htT : t = T := ht.out
              subst htT
              have c0 := HL.out.at (i := 0) (by omega)
              have c1 := HL.out.at (i := 1) (by omega)
              have c2 := HL.out.at (i := 2) (by omega)
              have c3 := HL.out.at (i := 3) (by omega)
              have c4 := HL.out.at (i := 4) (by omega)
              have c5 := HL.out.at (i := 5) (by omega)
              have hrest : restOf a = ad (ad (ad (ad (ad (a.getD 0 0) (a.getD 1 0)) (a.getD 2 0)) (a.getD 3 0)) (a.getD 4 0)) (a.getD 5 0) := rfl
              obtain ⟨v0, hv0⟩ : ∃ z, a.getD 0 0 = z := ⟨_, rfl⟩
              obtain ⟨v1, hv1⟩ : ∃ z, a.getD 1 0 = z := ⟨_, rfl⟩
              obtain ⟨v2, hv2⟩ : ∃ z, a.getD 2 0 = z := ⟨_, rfl⟩
              obtain ⟨v3, hv3⟩ : ∃ z, a.getD 3 0 = z := ⟨_, rfl⟩
              obtain ⟨v4, hv4⟩ : ∃ z, a.getD 4 0 = z := ⟨_, rfl⟩
              obtain ⟨v5, hv5⟩ : ∃ z, a.getD 5 0 = z := ⟨_, rfl⟩
              rw [hv0, hv1, hv2, hv3, hv4, hv5] at hrest
              rw [hv0] at c0
              rw [hv1] at c1
              rw [hv2] at c2
              rw [hv3] at c3
              rw [hv4] at c4
              rw [hv5] at c5
              obtain ⟨s1, hs1⟩ : ∃ z, ad v0 v1 = z := ⟨_, rfl⟩
              obtain ⟨s2, hs2⟩ : ∃ z, ad s1 v2 = z := ⟨_, rfl⟩
              obtain ⟨s3, hs3⟩ : ∃ z, ad s2 v3 = z := ⟨_, rfl⟩
              obtain ⟨s4, hs4⟩ : ∃ z, ad s3 v4 = z := ⟨_, rfl⟩
              obtain ⟨s5, hs5⟩ : ∃ z, ad s4 v5 = z := ⟨_, rfl⟩
              rw [hs1, hs2, hs3, hs4, hs5] at hrest
              rw [hrest] at HLE
              have e1 : IntKind.u64.wrap ((v0 : Int) + (v1 : Int)) = (s1 : Int) := by rw [wrap_add, ← hs1]; rfl
              have e2 : IntKind.u64.wrap ((s1 : Int) + (v2 : Int)) = (s2 : Int) := by rw [wrap_add, ← hs2]; rfl
              have e3 : IntKind.u64.wrap ((s2 : Int) + (v3 : Int)) = (s3 : Int) := by rw [wrap_add, ← hs3]; rfl
              have e4 : IntKind.u64.wrap ((s3 : Int) + (v4 : Int)) = (s4 : Int) := by rw [wrap_add, ← hs4]; rfl
              have e5 : IntKind.u64.wrap ((s4 : Int) + (v5 : Int)) = (s5 : Int) := by rw [wrap_add, ← hs5]; rfl
              clear hv0 hv1 hv2 hv3 hv4 hv5 hs1 hs2 hs3 hs4 hs5 hrest ht
              by_cases q1 : t < p
              · have hbb : b = true := by rw [HLE.out]; simp [q1]
                subst hbb
                clear HLE
                go_wp2_with fail
                go_ret
                exact ⟨rfl, HL.out.2.2.2⟩
              · by_cases q2 : t = p
                · have d2 : ((t : Int) == (p : Int)) = true := by simp [q2]
                  by_cases q3 : s5 = 0
                  · have hbb : b = true := by rw [HLE.out]; simp [q2, q3]
                    have d3 : ((s5 : Int) == 0) = true := by simp [q3]
                    subst hbb
                    clear HLE q2 q3
                    go_wp2_with fail
                    go_ret
                    exact ⟨rfl, HL.out.2.2.2⟩
                  · have hbb : b = false := by rw [HLE.out]; simp [q2, q3]
                    have d3 : ((s5 : Int) == 0) = false := by simp [q3]
                    subst hbb
                    clear HLE q2 q3
                    go_wp2_with fail
                    go_ret
                    exact ⟨rfl, HL.out.2.2.2⟩
                · have d2 : ((t : Int) == (p : Int)) = false := by simp; omega
                  have hbb : b = false := by rw [HLE.out]; simp [q1, q2]
                  subst hbb
                  clear HLE q2
                  go_wp2_with fail
                  go_ret
                  exact ⟨rfl, HL.out.2.2.2⟩
end Go.Proofs.Ytejmbbnndagejaa
