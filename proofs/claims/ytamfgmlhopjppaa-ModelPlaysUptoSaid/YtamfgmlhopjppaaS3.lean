/-
  The walk of take.
-/
import Derived.Test.YtamfgmlhopjppaaS2
namespace Go.Proofs.Ytamfgmlhopjppaa
open Go.RowKit Go.ChangeShapes Go.WideShapes Go.ChangeAt

/-- A byte of a slice of bytes. -/
theorem Rp.at_byte {w : World} {S : Nat → Prop} {A : Option Addr} {c : Nat} {l : List UInt8} (h : Rp.byte.slice.R w S [.slice A l.length c] l) {i : Nat} (hi : i < l.length) : ∃ ad, A = some ad ∧ S ad.block ∧ w.cell? (ad.add i) = some (.int .u8 (byteN l i)) := by
  obtain ⟨ad, u, h1, h2, h3, h4⟩ := Rp.at_ rfl h (List.getElem?_eq_getElem hi)
  refine ⟨ad, h1, h2, ?_⟩
  rw [h3]
  have h4 : [u] = [byteOf l[i]] := h4
  injection h4 with h4
  rw [h4]
  unfold byteOf byteN
  rw [List.getD_eq_getElem?_getD, List.getElem?_eq_getElem hi]; rfl

theorem byteN_lt (b : List UInt8) (i : Nat) : byteN b i < 256 := UInt8.toNat_lt _
def zeros (n : Nat) : List Value := List.replicate n (.int .u32 0)
/-- w amid its making -/
def wlist (b : List UInt8) (t : Nat) : List Value := (wpre b t).map uv ++ zeros (64 - t)
theorem wlist_zero (b : List UInt8) : wlist b 0 = zeros 64 := rfl
theorem wlist_full (b : List UInt8) : wlist b 64 = (wpre b 64).map uv := by simp [wlist, zeros]
theorem wlist_set (b : List UInt8) (t : Nat) (h : t < 64) : (wlist b t).set t (uv (wnext b (wpre b t) t)) = wlist b (t + 1) := by
  unfold wlist
  have hl : ((wpre b t).map uv).length = t := by rw [List.length_map, wpre_length]
  rw [List.set_append_right _ _ (by omega), hl, Nat.sub_self, wpre, List.map_append, List.append_assoc]
  congr 1
  unfold zeros
  rw [show 64 - t = (64 - (t + 1)) + 1 by omega, List.replicate_succ]
  rfl
theorem wlist_at (b : List UInt8) (t i : Nat) (h : i < t) : (wlist b t)[i]? = some (uv ((wpre b t).getD i 0)) := by
  unfold wlist
  rw [List.getElem?_append_left (by rw [List.length_map, wpre_length]; exact h), List.getElem?_map, List.getD_eq_getElem?_getD, List.getElem?_eq_getElem (by rw [wpre_length]; exact h)]
  rfl

theorem un_not (x : W) : bits .xor .u32 IntKind.u32.max (un x) = un (~~~x) := by
  have h := un_xor (BitVec.allOnes 32) x
  rw [BitVec.allOnes_xor] at h
  exact h
/-- the state amid the adding -/
def mix (s r : S8) (k : Nat) : List W := (s.add r).l.take k ++ s.l.drop k
theorem un_shr3 (x : W) : un x / (8 : Int) = un (x >>> 3) := un_shr x 3
theorem un_shr10 (x : W) : un x / (1024 : Int) = un (x >>> 10) := un_shr x 10
theorem t_rotk (x : W) (r : Nat) (k : Int) (hk : k = -(r : Int)) (h0 : 0 < r) (h1 : r < 32) (w : World) : Calls Try.prog 93 #[.int .u32 (un x), .int .i64 k] w fun e w' => e = .returned (.int .u32 (un (rotr x r))) ∧ w = w' := by
  subst hk; exact t_rot x r h0 h1 w
theorem word_eq {n0 n1 n2 n3 : Nat} (l0 : n0 < 256) (l1 : n1 < 256) (l2 : n2 < 256) (l3 : n3 < 256) :
    bits .or .u32 (bits .or .u32 (bits .or .u32 ((n0 : Int) * 16777216) ((n1 : Int) * 65536)) ((n2 : Int) * 256)) (n3 : Int) = un (BitVec.ofNat 32 (n0 * 16777216 + n1 * 65536 + n2 * 256 + n3)) := by
  have h1 : bits .or .u32 ((n0 : Int) * 16777216) ((n1 : Int) * 65536) = ((n0 * 16777216 + n1 * 65536 : Nat) : Int) := by
    have h := u32_or_nat (n0 * 16777216) (n1 * 65536) (by omega) (by omega)
    have e := Nat.two_pow_add_eq_or_of_lt (i := 24) (b := n1 * 65536) (by omega) n0
    rw [show 2 ^ 24 * n0 = n0 * 16777216 by omega] at e
    rw [← e] at h
    rw [show ((n0 : Int) * 16777216) = ((n0 * 16777216 : Nat) : Int) by omega, show ((n1 : Int) * 65536) = ((n1 * 65536 : Nat) : Int) by omega]
    exact h
  have h2 : bits .or .u32 ((n0 * 16777216 + n1 * 65536 : Nat) : Int) ((n2 : Int) * 256) = ((n0 * 16777216 + n1 * 65536 + n2 * 256 : Nat) : Int) := by
    have h := u32_or_nat (n0 * 16777216 + n1 * 65536) (n2 * 256) (by omega) (by omega)
    have e := Nat.two_pow_add_eq_or_of_lt (i := 16) (b := n2 * 256) (by omega) (n0 * 256 + n1)
    rw [show 2 ^ 16 * (n0 * 256 + n1) = n0 * 16777216 + n1 * 65536 by omega] at e
    rw [← e] at h
    rw [show ((n2 : Int) * 256) = ((n2 * 256 : Nat) : Int) by omega]
    exact h
  have h3 : bits .or .u32 ((n0 * 16777216 + n1 * 65536 + n2 * 256 : Nat) : Int) (n3 : Int) = ((n0 * 16777216 + n1 * 65536 + n2 * 256 + n3 : Nat) : Int) := by
    have h := u32_or_nat (n0 * 16777216 + n1 * 65536 + n2 * 256) n3 (by omega) (by omega)
    have e := Nat.two_pow_add_eq_or_of_lt (i := 8) (b := n3) (by omega) (n0 * 65536 + n1 * 256 + n2)
    rw [show 2 ^ 8 * (n0 * 65536 + n1 * 256 + n2) = n0 * 16777216 + n1 * 65536 + n2 * 256 by omega] at e
    rw [← e] at h
    exact h
  rw [h1, h2, h3, un_lit _ (by omega)]


set_option maxRecDepth 100000 in
set_option maxHeartbeats 8000000 in
theorem t_take (st : S8) (g : Nat) (b : List UInt8) (hb : b.length = 64) (A : Option Addr) (c : Nat) (w : World) (S : Nat → Prop) (hg : Blk w g 130 (st.l.map uv)) (hl : Rp.byte.slice.R w S [.slice A b.length c] b) (_hS : ¬ S g) (hS2 : ∀ k, S k → k < w.heap.size) :
    Calls Try.prog 81 #[.pointer (some ⟨g, 0, none⟩), .slice A 64 c] w fun e w' => e = .returned (.tuple #[]) ∧ Blk w' g 130 ((comp st b).l.map uv) ∧ Kp (· = g) w w' := by
  have HG := Lib.hid hg
  obtain ⟨ad, rfl, hSb, _⟩ := Rp.at_byte hl (i := 0) (by omega)
  have hcap : 64 ≤ c := by
    obtain ⟨_, _, he, h1, _⟩ := id hl
    simp only [List.cons.injEq, Value.slice.injEq, and_true, true_and] at he; omega
  have hby : ∀ i, i < 64 → w.cell? (ad.add i) = some (.int .u8 (byteN b i)) := fun i hi => by
    obtain ⟨ad', he, _, h⟩ := Rp.at_byte hl (i := i) (by omega)
    injection he with he
    subst he; exact h
  have HB := Lib.hid hby
  have hgl := hg.lt
  have hadl : ad.block < w.heap.size := hS2 _ hSb
  clear hg hl hby
  go_enter Try.func81, Try.ntmps81
  go_wp2
  go_loopw [22] (fun iv wr => ∃ t : Nat, t ≤ 64 ∧ iv = .int .i64 t ∧ Blk wr w.heap.size 135 (wlist b t) ∧ Kp No w wr) (fun iv _ => 64 - (intOf iv).toNat)
  case atStart => exact ⟨0, Nat.zero_le _, rfl, Blk.new w (zeros 64) 135, (Kp.refl _ _).alloc _⟩
  case round =>
    obtain ⟨t, ht, rfl, hbk, hkp⟩ := hrel
    have HBK := Lib.hid hbk
    have HK := Lib.hid hkp
    have hgw := hkp.size
    clear hbk hkp
    by_cases hlt : t < 64
    · by_cases h16 : t < 16
      · obtain ⟨q, hq⟩ : ∃ q, 4 * t = q := ⟨_, rfl⟩
        have cells : ∀ i, i < 64 → wr.cell? (ad.add i) = some (.int .u8 (byteN b i)) := fun i hi => by
          rw [HK.out.cell (p := ad.add i) (by simpa [Addr.add, apply_ite] using hadl) (fun x => x)]; exact HB.out i hi
        obtain ⟨n0, hn0⟩ : ∃ n, byteN b q = n := ⟨_, rfl⟩
        obtain ⟨n1, hn1⟩ : ∃ n, byteN b (q + 1) = n := ⟨_, rfl⟩
        obtain ⟨n2, hn2⟩ : ∃ n, byteN b (q + 2) = n := ⟨_, rfl⟩
        obtain ⟨n3, hn3⟩ : ∃ n, byteN b (q + 3) = n := ⟨_, rfl⟩
        have hc0 := cells q (by omega)
        have hc1 := cells (q + 1) (by omega)
        have hc2 := cells (q + 2) (by omega)
        have hc3 := cells (q + 3) (by omega)
        rw [hn0] at hc0
        rw [hn1] at hc1
        rw [hn2] at hc2
        rw [hn3] at hc3
        obtain ⟨q1, hq1⟩ : ∃ n, q + 1 = n := ⟨_, rfl⟩
        obtain ⟨q2, hq2⟩ : ∃ n, q + 2 = n := ⟨_, rfl⟩
        obtain ⟨q3, hq3⟩ : ∃ n, q + 3 = n := ⟨_, rfl⟩
        rw [hq1] at hc1
        rw [hq2] at hc2
        rw [hq3] at hc3
        have l0 : n0 < 256 := by rw [← hn0]; exact byteN_lt _ _
        have l1 : n1 < 256 := by rw [← hn1]; exact byteN_lt _ _
        have l2 : n2 < 256 := by rw [← hn2]; exact byteN_lt _ _
        have l3 : n3 < 256 := by rw [← hn3]; exact byteN_lt _ _
        have i0 : IntKind.i64.wrap (4 * (t : Int)) = (q : Int) := by rw [IntKind.wrap_i64]; omega
        have i0' : wrap64 (4 * (t : Int)) = (q : Int) := by unfold wrap64; omega
        have i1 : IntKind.i64.wrap ((q : Int) + 1) = (q1 : Int) := by rw [IntKind.wrap_i64]; omega
        have i2 : IntKind.i64.wrap ((q : Int) + 2) = (q2 : Int) := by rw [IntKind.wrap_i64]; omega
        have i3 : IntKind.i64.wrap ((q : Int) + 3) = (q3 : Int) := by rw [IntKind.wrap_i64]; omega
        have b0 : q < 64 := by omega
        have b1 : q1 < 64 := by omega
        have b2 : q2 < 64 := by omega
        have b3 : q3 < 64 := by omega
        have B0 : (q : Int) < 64 := by omega
        have B1 : (q1 : Int) < 64 := by omega
        have B2 : (q2 : Int) < 64 := by omega
        have B3 : (q3 : Int) < 64 := by omega
        have hfz := HBK.out.fr t
        obtain ⟨u0, hu0⟩ : ∃ u, wr.cell? ⟨w.heap.size, t, none⟩ = some u := ⟨_, HBK.out.cell (List.getElem?_eq_getElem (by simp [wlist, wpre_length, zeros]; omega))⟩
        have HWD : Hid (BitVec.ofNat 32 (n0 * 16777216 + n1 * 65536 + n2 * 256 + n3) = word b t) := Lib.hid (by unfold word; rw [← hn0, ← hn1, ← hn2, ← hn3, ← hq])
        clear cells hq hn0 hn1 hn2 hn3 hq1 hq2 hq3
        go_wp2
        refine Reg.wp_region_plan [⟨0, false, []⟩, ⟨1, false, []⟩, ⟨2, false, []⟩, ⟨3, false, []⟩, ⟨4, false, []⟩, ⟨5, false, []⟩, ⟨6, false, []⟩, ⟨7, false, []⟩, ⟨8, false, []⟩, ⟨9, false, []⟩, ⟨10, false, []⟩, ⟨11, false, []⟩, ⟨12, false, []⟩, ⟨13, false, []⟩, ⟨14, false, []⟩, ⟨15, false, []⟩, ⟨16, false, []⟩, ⟨17, false, []⟩, ⟨18, false, []⟩, ⟨19, false, []⟩, ⟨20, false, []⟩, ⟨21, false, []⟩, ⟨22, false, []⟩, ⟨23, false, []⟩, ⟨24, false, []⟩, ⟨25, false, []⟩, ⟨26, false, []⟩, ⟨27, false, []⟩, ⟨28, false, []⟩, ⟨29, false, []⟩, ⟨30, false, []⟩, ⟨31, false, []⟩, ⟨32, false, []⟩, ⟨33, false, []⟩, ⟨34, false, []⟩, ⟨35, true, []⟩] rfl (by kernel_rfl) ?_
        repeat (first | (refine Reg.look rfl rfl rfl (by go_simp; rfl) rfl ?_; go_simp) | (refine Reg.skip rfl rfl rfl ?_; go_simp))
        refine Reg.act rfl ?_
        go_wp2
        refine ⟨Reg.anew_nil, ?_⟩
        (refine Reg.done ?_; simp only [Exit.then])
        rw [word_eq l0 l1 l2 l3]
        go_wp2
        go_roundw
        case rel =>
          refine ⟨t + 1, by omega, by go_num, ?_, ?_⟩
          · have h := HBK.out.set t (uv (wnext b (wpre b t) t))
            rw [wlist_set b t (by omega)] at h
            rw [HWD.out]
            rw [show wnext b (wpre b t) t = word b t from if_pos h16] at h
            exact h.drew
          · exact (HK.out.setCell (fun h => absurd h (by simp)) _).drew
        case measure => simp [intOf]; omega
      · obtain ⟨w0, hw0⟩ : ∃ x, (wpre b t).getD (t - 16) 0 = x := ⟨_, rfl⟩
        obtain ⟨w7, hw7⟩ : ∃ x, (wpre b t).getD (t - 7) 0 = x := ⟨_, rfl⟩
        obtain ⟨w15, hw15⟩ : ∃ x, (wpre b t).getD (t - 15) 0 = x := ⟨_, rfl⟩
        obtain ⟨w2, hw2⟩ : ∃ x, (wpre b t).getD (t - 2) 0 = x := ⟨_, rfl⟩
        obtain ⟨t16, h16e⟩ : ∃ n, t - 16 = n := ⟨_, rfl⟩
        obtain ⟨t7, h7e⟩ : ∃ n, t - 7 = n := ⟨_, rfl⟩
        obtain ⟨t15, h15e⟩ : ∃ n, t - 15 = n := ⟨_, rfl⟩
        obtain ⟨t2, h2e⟩ : ∃ n, t - 2 = n := ⟨_, rfl⟩
        have c16 := HBK.out.cell (wlist_at b t (t - 16) (by omega))
        have c7 := HBK.out.cell (wlist_at b t (t - 7) (by omega))
        have c15 := HBK.out.cell (wlist_at b t (t - 15) (by omega))
        have c2 := HBK.out.cell (wlist_at b t (t - 2) (by omega))
        rw [hw0, h16e] at c16
        rw [hw7, h7e] at c7
        rw [hw15, h15e] at c15
        rw [hw2, h2e] at c2
        unfold uv at c16 c7 c15 c2
        have i16 : IntKind.i64.wrap ((t : Int) - 16) = (t16 : Int) := by rw [IntKind.wrap_i64]; omega
        have i7 : IntKind.i64.wrap ((t : Int) - 7) = (t7 : Int) := by rw [IntKind.wrap_i64]; omega
        have i15 : IntKind.i64.wrap ((t : Int) - 15) = (t15 : Int) := by rw [IntKind.wrap_i64]; omega
        have i2 : IntKind.i64.wrap ((t : Int) - 2) = (t2 : Int) := by rw [IntKind.wrap_i64]; omega
        have b16 : t16 < 64 := by omega
        have b7 : t7 < 64 := by omega
        have b15 : t15 < 64 := by omega
        have b2 : t2 < 64 := by omega
        have B16 : (t16 : Int) < 64 := by omega
        have B7 : (t7 : Int) < 64 := by omega
        have B15 : (t15 : Int) < 64 := by omega
        have B2 : (t2 : Int) < 64 := by omega
        have HX : Hid (w0 + w7 + sig0 w15 + sig1 w2 = wnext b (wpre b t) t) := Lib.hid (by unfold wnext; rw [if_neg h16, hw0, hw7, hw15, hw2])
        have hfz := HBK.out.fr t
        obtain ⟨u0, hu0⟩ : ∃ u, wr.cell? ⟨w.heap.size, t, none⟩ = some u := ⟨_, HBK.out.cell (List.getElem?_eq_getElem (by simp [wlist, wpre_length, zeros]; omega))⟩
        have s3 : un w15 / (8 : Int) = un (w15 >>> 3) := un_shr3 w15
        have s10 : un w2 / (1024 : Int) = un (w2 >>> 10) := un_shr10 w2
        have a1 := un_add w0 w7
        have x1 := un_xor (rotr w15 7) (rotr w15 18)
        have x2 := un_xor (rotr w15 7 ^^^ rotr w15 18) (w15 >>> 3)
        have x3 := un_xor (rotr w2 17) (rotr w2 19)
        have x4 := un_xor (rotr w2 17 ^^^ rotr w2 19) (w2 >>> 10)
        have a2 := un_add (w0 + w7) (rotr w15 7 ^^^ rotr w15 18 ^^^ (w15 >>> 3))
        have a3 := un_add (w0 + w7 + (rotr w15 7 ^^^ rotr w15 18 ^^^ (w15 >>> 3))) (rotr w2 17 ^^^ rotr w2 19 ^^^ (w2 >>> 10))
        clear hw0 hw7 hw15 hw2 h16e h7e h15e h2e
        go_wp2
        refine Reg.wp_region_plan [⟨0, false, []⟩, ⟨1, false, []⟩, ⟨2, false, []⟩, ⟨3, false, []⟩, ⟨4, false, []⟩, ⟨5, false, []⟩, ⟨6, false, []⟩, ⟨7, false, []⟩, ⟨8, false, []⟩, ⟨9, false, []⟩] rfl (by kernel_rfl) ?_
        repeat (first | (refine Reg.look rfl rfl rfl (by go_simp; rfl) rfl ?_; go_simp) | (refine Reg.skip rfl rfl rfl ?_; go_simp))
        (refine Reg.done ?_; simp only [Exit.then])
        go_wp2
        refine Reg.wp_region_plan [⟨0, false, []⟩, ⟨1, false, []⟩, ⟨2, false, []⟩, ⟨3, false, []⟩, ⟨4, false, []⟩, ⟨5, false, []⟩, ⟨6, false, []⟩, ⟨7, false, []⟩, ⟨8, false, []⟩, ⟨9, false, []⟩, ⟨10, false, []⟩, ⟨12, false, []⟩, ⟨15, false, []⟩, ⟨16, false, []⟩, ⟨19, false, []⟩, ⟨21, false, []⟩, ⟨24, false, []⟩, ⟨25, false, []⟩, ⟨11, true, [2, 3, 4, 6, 7, 8, 9, 16, 25]⟩, ⟨13, true, [2, 3, 4, 6, 7, 8, 9, 16, 25]⟩, ⟨14, false, []⟩, ⟨17, false, []⟩, ⟨18, false, []⟩, ⟨20, true, [2, 3, 4, 6, 7, 8, 9, 14, 16, 17, 18, 25]⟩, ⟨22, true, [2, 3, 4, 6, 7, 8, 9, 14, 16, 17, 18, 25]⟩, ⟨23, false, []⟩, ⟨26, false, []⟩, ⟨27, false, []⟩, ⟨28, false, []⟩, ⟨29, true, []⟩] rfl (by kernel_rfl) ?_
        repeat (first | (refine Reg.look rfl rfl rfl (by go_simp; rfl) rfl ?_; go_simp) | (refine Reg.skip rfl rfl rfl ?_; go_simp))
        refine Reg.act rfl ?_
        go_wp2_with fail
        refine (t_rotk w15 7 (-7) rfl (by omega) (by omega) _).mono ?_
        rintro e w' ⟨rfl, rfl⟩
        go_wp2_with fail
        (refine ⟨?anew, ?_⟩; case anew => ((repeat (refine Reg.anew_cons rfl rfl (fun _ => by go_simp) ?_)); exact Reg.anew_nil))
        repeat (first | (refine Reg.look rfl rfl rfl (by go_simp; rfl) rfl ?_; go_simp) | (refine Reg.skip rfl rfl rfl ?_; go_simp))
        refine Reg.act rfl ?_
        go_wp2_with fail
        refine (t_rotk w15 18 (-18) rfl (by omega) (by omega) _).mono ?_
        rintro e w' ⟨rfl, rfl⟩
        go_wp2_with fail
        (refine ⟨?anew, ?_⟩; case anew => ((repeat (refine Reg.anew_cons rfl rfl (fun _ => by go_simp) ?_)); exact Reg.anew_nil))
        repeat (first | (refine Reg.look rfl rfl rfl (by go_simp; rfl) rfl ?_; go_simp) | (refine Reg.skip rfl rfl rfl ?_; go_simp))
        refine Reg.act rfl ?_
        go_wp2_with fail
        refine (t_rotk w2 17 (-17) rfl (by omega) (by omega) _).mono ?_
        rintro e w' ⟨rfl, rfl⟩
        go_wp2_with fail
        (refine ⟨?anew, ?_⟩; case anew => ((repeat (refine Reg.anew_cons rfl rfl (fun _ => by go_simp) ?_)); exact Reg.anew_nil))
        repeat (first | (refine Reg.look rfl rfl rfl (by go_simp; rfl) rfl ?_; go_simp) | (refine Reg.skip rfl rfl rfl ?_; go_simp))
        refine Reg.act rfl ?_
        go_wp2_with fail
        refine (t_rotk w2 19 (-19) rfl (by omega) (by omega) _).mono ?_
        rintro e w' ⟨rfl, rfl⟩
        go_wp2_with fail
        (refine ⟨?anew, ?_⟩; case anew => ((repeat (refine Reg.anew_cons rfl rfl (fun _ => by go_simp) ?_)); exact Reg.anew_nil))
        repeat (first | (refine Reg.look rfl rfl rfl (by go_simp; rfl) rfl ?_; go_simp) | (refine Reg.skip rfl rfl rfl ?_; go_simp))
        refine Reg.act rfl ?_
        go_wp2
        refine ⟨Reg.anew_nil, ?_⟩
        (refine Reg.done ?_; simp only [Exit.then])
        go_wp2
        go_roundw
        case rel =>
          refine ⟨t + 1, by omega, by go_num, ?_, ?_⟩
          · have h := HBK.out.set t (uv (wnext b (wpre b t) t))
            rw [wlist_set b t (by omega), ← HX.out] at h
            exact (h.drew).drew
          · exact ((HK.out.setCell (fun h => absurd h (by simp)) _).drew).drew
        case measure => simp [intOf]; omega
    · obtain rfl : t = 64 := by omega
      rw [wlist_full] at HBK
      have HG1 := Lib.hid (HG.out.kept HK.out (fun x => x))
      clear HB
      go_wp2_with fail
      refine (t_numbers _).mono ?_
      rintro e w2 ⟨rfl, hk2, hkp2⟩
      have HKB := Lib.hid hk2
      have HWB := Lib.hid (HBK.out.kept hkp2 (fun x => x))
      have HG2 := Lib.hid (HG1.out.kept hkp2 (fun x => x))
      have HK2 := Lib.hid (HK.out.trans' hkp2)
      clear hk2 hkp2 HBK HK HG1
      generalize wr.heap.size = gk at *
      generalize w.heap.size = gw at *
      obtain ⟨sa, sb, sc, sd, se, sf, sg, sh⟩ := st
      have c0 : w2.cell? ⟨g, 0, none⟩ = some (.int .u32 (un sa)) := HG2.out.cell rfl
      have c1 : w2.cell? ⟨g, 1, none⟩ = some (.int .u32 (un sb)) := HG2.out.cell rfl
      have c2 : w2.cell? ⟨g, 2, none⟩ = some (.int .u32 (un sc)) := HG2.out.cell rfl
      have c3 : w2.cell? ⟨g, 3, none⟩ = some (.int .u32 (un sd)) := HG2.out.cell rfl
      have c4 : w2.cell? ⟨g, 4, none⟩ = some (.int .u32 (un se)) := HG2.out.cell rfl
      have c5 : w2.cell? ⟨g, 5, none⟩ = some (.int .u32 (un sf)) := HG2.out.cell rfl
      have c6 : w2.cell? ⟨g, 6, none⟩ = some (.int .u32 (un sg)) := HG2.out.cell rfl
      have c7 : w2.cell? ⟨g, 7, none⟩ = some (.int .u32 (un sh)) := HG2.out.cell rfl
      go_wp2_with fail
      refine Reg.wp_region_plan [⟨0, false, []⟩, ⟨1, false, []⟩, ⟨2, false, []⟩, ⟨3, false, []⟩, ⟨4, false, []⟩, ⟨5, false, []⟩, ⟨6, false, []⟩, ⟨7, false, []⟩, ⟨8, false, []⟩, ⟨9, false, []⟩, ⟨10, false, []⟩, ⟨11, false, []⟩, ⟨12, false, []⟩, ⟨13, false, []⟩, ⟨14, false, []⟩, ⟨15, false, []⟩, ⟨16, false, []⟩, ⟨17, false, []⟩, ⟨18, false, []⟩, ⟨19, false, []⟩, ⟨20, false, []⟩, ⟨21, false, []⟩, ⟨22, false, []⟩, ⟨23, false, []⟩, ⟨24, false, []⟩, ⟨25, false, []⟩, ⟨26, false, []⟩, ⟨27, false, []⟩, ⟨28, false, []⟩, ⟨29, false, []⟩, ⟨30, false, []⟩, ⟨31, false, []⟩, ⟨32, false, []⟩, ⟨33, false, []⟩, ⟨34, false, []⟩, ⟨35, false, []⟩, ⟨36, false, []⟩, ⟨37, false, []⟩, ⟨38, false, []⟩, ⟨39, false, []⟩] rfl (by kernel_rfl) ?_
      repeat (first | (refine Reg.look rfl rfl rfl (by go_simp; rfl) rfl ?_; go_simp) | (refine Reg.skip rfl rfl rfl ?_; go_simp))
      (refine Reg.done ?_; simp only [Exit.then])
      go_wp2
      clear c0 c1 c2 c3 c4 c5 c6 c7
      obtain ⟨wx, hwx⟩ : ∃ wx : World, w2.drew = wx := ⟨_, rfl⟩
      have hkx : Kp No w2 wx := by rw [← hwx]; exact (Kp.refl _ _).drew
      have HKB3 := Lib.hid (HKB.out.kept hkx (fun x => x))
      have HWB3 := Lib.hid (HWB.out.kept hkx (fun x => x))
      have HG3 := Lib.hid (HG2.out.kept hkx (fun x => x))
      have HK3 := Lib.hid (HK2.out.trans' hkx)
      clear HKB HWB HG2 HK2 hkx
      rw [hwx]
      clear hwx
      have HINIT : Hid (rnds b ⟨sa, sb, sc, sd, se, sf, sg, sh⟩ 0 = ⟨sa, sb, sc, sd, se, sf, sg, sh⟩) := Lib.hid rfl
      go_loopw [9, 10, 11, 12, 13, 14, 15, 16, 133] (fun va vb vc vd ve vf vg vh iv wr => ∃ (t : Nat) (r : S8), t ≤ 64 ∧ iv = .int .i64 t ∧ Hid (rnds b ⟨sa, sb, sc, sd, se, sf, sg, sh⟩ t = r) ∧ va = .int .u32 (un r.a) ∧ vb = .int .u32 (un r.b) ∧ vc = .int .u32 (un r.c) ∧ vd = .int .u32 (un r.d) ∧ ve = .int .u32 (un r.e) ∧ vf = .int .u32 (un r.f) ∧ vg = .int .u32 (un r.g) ∧ vh = .int .u32 (un r.h) ∧ Kp No wx wr) (fun _ _ _ _ _ _ _ _ iv _ => 64 - (intOf iv).toNat)
      case atStart => exact ⟨0, ⟨sa, sb, sc, sd, se, sf, sg, sh⟩, Nat.zero_le _, rfl, HINIT, rfl, rfl, rfl, rfl, rfl, rfl, rfl, rfl, Kp.refl _ _⟩
      case round =>
        obtain ⟨t, ⟨ra, rb, rc, rd, re, rf, rg, rh⟩, ht, rfl, hr, rfl, rfl, rfl, rfl, rfl, rfl, rfl, rfl, hkr⟩ := hrel
        have HKR := Lib.hid hkr
        clear hkr HINIT
        by_cases hlt : t < 64
        · obtain ⟨kt, hkt⟩ : ∃ x, K64.getD t 0 = x := ⟨_, rfl⟩
          obtain ⟨wt, hwt⟩ : ∃ x, (wpre b 64).getD t 0 = x := ⟨_, rfl⟩
          have ck : wr.cell? ⟨gk, t, none⟩ = some (.int .u32 (un kt)) := by
            have h := (HKB3.out.kept HKR.out (fun x => x)).cell (i := t) (u := uv kt) (by rw [List.getElem?_map, List.getElem?_eq_getElem (show t < K64.length from hlt), ← hkt, List.getD_eq_getElem?_getD, List.getElem?_eq_getElem (show t < K64.length from hlt)]; rfl)
            exact h
          have cw : wr.cell? ⟨gw, t, none⟩ = some (.int .u32 (un wt)) := by
            have h := (HWB3.out.kept HKR.out (fun x => x)).cell (i := t) (u := uv wt) (by rw [List.getElem?_map, List.getElem?_eq_getElem (by rw [wpre_length]; exact hlt), ← hwt, List.getD_eq_getElem?_getD, List.getElem?_eq_getElem (by rw [wpre_length]; exact hlt)]; rfl)
            exact h
          have hnext : Hid (rnds b ⟨sa, sb, sc, sd, se, sf, sg, sh⟩ (t + 1) = rnd ⟨ra, rb, rc, rd, re, rf, rg, rh⟩ kt wt) := Lib.hid (by rw [rnds, hr.out, hkt, hwt])
          have B0 : (t : Int) < 64 := by omega
          have m1 := un_add rh (big1 re)
          have m2 := un_and re rf
          have m3 := un_not re
          have m4 := un_and (~~~re) rg
          have m5 : bits .xor .u32 (un (re &&& rf)) (un (~~~re &&& rg)) = un (ch re rf rg) := un_xor _ _
          have m6 := un_add (rh + big1 re) (ch re rf rg)
          have m7 := un_add (rh + big1 re + ch re rf rg) kt
          obtain ⟨one, hone⟩ : ∃ x, rh + big1 re + ch re rf rg + kt + wt = x := ⟨_, rfl⟩
          have m8 := un_add (rh + big1 re + ch re rf rg + kt) wt
          rw [hone] at m8
          have m9 := un_and ra rb
          have m10 := un_and ra rc
          have m11 := un_and rb rc
          have m12 := un_xor (ra &&& rb) (ra &&& rc)
          have m13 : bits .xor .u32 (un ((ra &&& rb) ^^^ (ra &&& rc))) (un (rb &&& rc)) = un (maj ra rb rc) := un_xor _ _
          obtain ⟨two, htwo⟩ : ∃ x, big0 ra + maj ra rb rc = x := ⟨_, rfl⟩
          have m14 := un_add (big0 ra) (maj ra rb rc)
          rw [htwo] at m14
          have m15 := un_add one two
          have m16 := un_add rd one
          have hnext2 : Hid (rnds b ⟨sa, sb, sc, sd, se, sf, sg, sh⟩ (t + 1) = ⟨one + two, ra, rb, rc, rd + one, re, rf, rg⟩) := Lib.hid (by rw [hnext.out]; unfold rnd; simp only [hone, htwo])
          clear hnext hone htwo hkt hwt
          go_wp2_with fail
          refine Reg.wp_region_plan [⟨0, false, []⟩, ⟨1, false, []⟩, ⟨4, false, []⟩, ⟨5, false, []⟩, ⟨6, false, []⟩, ⟨7, false, []⟩, ⟨8, false, []⟩, ⟨9, false, []⟩, ⟨10, false, []⟩, ⟨11, false, []⟩, ⟨13, false, []⟩, ⟨14, false, []⟩, ⟨15, false, []⟩, ⟨16, false, []⟩, ⟨17, false, []⟩, ⟨19, false, []⟩, ⟨20, false, []⟩, ⟨21, false, []⟩, ⟨2, true, [6, 8, 10, 11, 15, 16, 17, 20, 21]⟩, ⟨3, false, []⟩, ⟨12, false, []⟩, ⟨18, false, []⟩, ⟨22, false, []⟩, ⟨23, false, []⟩] rfl (by kernel_rfl) ?_
          repeat (first | (refine Reg.look rfl rfl rfl (by go_simp; rfl) rfl ?_; go_simp) | (refine Reg.skip rfl rfl rfl ?_; go_simp))
          refine Reg.act rfl ?_
          go_wp2_with fail
          refine (t_turned re 6 11 25 (by omega) (by omega) (by omega) _).mono ?_
          rintro e w' ⟨rfl, rfl⟩
          rw [show rotr re 6 ^^^ rotr re 11 ^^^ rotr re 25 = big1 re from rfl]
          go_wp2_with fail
          (refine ⟨?anew, ?_⟩; case anew => ((repeat (refine Reg.anew_cons rfl rfl (fun _ => by go_simp) ?_)); exact Reg.anew_nil))
          repeat (first | (refine Reg.look rfl rfl rfl (by go_simp; rfl) rfl ?_; go_simp) | (refine Reg.skip rfl rfl rfl ?_; go_simp))
          (refine Reg.done ?_; simp only [Exit.then])
          go_wp2_with fail
          refine (t_turned ra 2 13 22 (by omega) (by omega) (by omega) _).mono ?_
          rintro e w' ⟨rfl, rfl⟩
          rw [show rotr ra 2 ^^^ rotr ra 13 ^^^ rotr ra 22 = big0 ra from rfl]
          go_wp2_with fail
          go_roundw
          case rel => exact ⟨t + 1, ⟨one + two, ra, rb, rc, rd + one, re, rf, rg⟩, by omega, by go_num, hnext2, rfl, rfl, rfl, rfl, rfl, rfl, rfl, rfl, HKR.out.drew⟩
          case measure => simp [intOf]; omega
        · obtain rfl : t = 64 := by omega
          rw [show ((64 : Nat) : Int) = 64 from rfl]
          have HR := hr
          have HMIX : Hid (Blk wr g 130 ((mix ⟨sa, sb, sc, sd, se, sf, sg, sh⟩ ⟨ra, rb, rc, rd, re, rf, rg, rh⟩ 0).map uv)) := Lib.hid (HG3.out.kept HKR.out (fun x => x))
          have HK4 := Lib.hid ((HK3.out.trans' HKR.out).any (S := (· = g)))
          clear HKB3 HWB3 HG3 HKR hr HK3
          go_wp2_with fail
          go_loopw [195] (fun iv wr => ∃ k : Nat, k ≤ 8 ∧ iv = .int .i64 k ∧ Blk wr g 130 ((mix ⟨sa, sb, sc, sd, se, sf, sg, sh⟩ ⟨ra, rb, rc, rd, re, rf, rg, rh⟩ k).map uv) ∧ Kp (· = g) w wr) (fun iv _ => 8 - (intOf iv).toNat)
          case atStart => exact ⟨0, Nat.zero_le _, rfl, HMIX.out, HK4.out⟩
          case round =>
            obtain ⟨k, hk, rfl, hb5, hk5⟩ := hrel
            have HB5 := Lib.hid hb5
            have HK5 := Lib.hid hk5
            clear hb5 hk5 HMIX HK4
            by_cases hlt : k < 8
            · have hcases : k = 0 ∨ k = 1 ∨ k = 2 ∨ k = 3 ∨ k = 4 ∨ k = 5 ∨ k = 6 ∨ k = 7 := by omega
              rcases hcases with rfl | rfl | rfl | rfl | rfl | rfl | rfl | rfl
              · skip
                have cc : wr.cell? ⟨g, 0, none⟩ = some (.int .u32 (un sa)) := HB5.out.cell (i := 0) (u := uv sa) rfl
                have hfz := HB5.out.fr 0
                have mm := un_add sa ra
                have hidx : (Instr.index 129 (.agg #[.int .u32 (un ra), .int .u32 (un rb), .int .u32 (un rc), .int .u32 (un rd), .int .u32 (un re), .int .u32 (un rf), .int .u32 (un rg), .int .u32 (un rh)]) (.int .i64 0)).run Try.prog wr = .ok (.int .u32 (un ra)) wr := by kernel_rfl
                go_wp2_with fail
                refine Reg.wp_region_plan [⟨0, false, []⟩, ⟨1, false, []⟩, ⟨2, false, []⟩, ⟨3, false, []⟩, ⟨4, false, []⟩, ⟨5, false, []⟩, ⟨6, false, []⟩, ⟨7, false, []⟩, ⟨8, false, []⟩, ⟨9, true, []⟩] rfl (by kernel_rfl) ?_
                repeat (first | (refine Reg.look rfl rfl rfl (by go_simp; rfl) rfl ?_; go_simp) | (refine Reg.skip rfl rfl rfl ?_; go_simp))
                refine Reg.act rfl ?_
                go_wp2
                refine ⟨Reg.anew_nil, ?_⟩
                (refine Reg.done ?_; simp only [Exit.then])
                go_wp2
                go_roundw
                case rel =>
                  refine ⟨1, by omega, by go_num, ?_, (HK5.out.setCell (fun _ => rfl) _).drew⟩
                  have h := HB5.out.set 0 (uv (sa + ra))
                  exact h.drew
                case measure => simp [intOf]
              · skip
                have cc : wr.cell? ⟨g, 1, none⟩ = some (.int .u32 (un sb)) := HB5.out.cell (i := 1) (u := uv sb) rfl
                have hfz := HB5.out.fr 1
                have mm := un_add sb rb
                have hidx : (Instr.index 129 (.agg #[.int .u32 (un ra), .int .u32 (un rb), .int .u32 (un rc), .int .u32 (un rd), .int .u32 (un re), .int .u32 (un rf), .int .u32 (un rg), .int .u32 (un rh)]) (.int .i64 1)).run Try.prog wr = .ok (.int .u32 (un rb)) wr := by kernel_rfl
                go_wp2_with fail
                refine Reg.wp_region_plan [⟨0, false, []⟩, ⟨1, false, []⟩, ⟨2, false, []⟩, ⟨3, false, []⟩, ⟨4, false, []⟩, ⟨5, false, []⟩, ⟨6, false, []⟩, ⟨7, false, []⟩, ⟨8, false, []⟩, ⟨9, true, []⟩] rfl (by kernel_rfl) ?_
                repeat (first | (refine Reg.look rfl rfl rfl (by go_simp; rfl) rfl ?_; go_simp) | (refine Reg.skip rfl rfl rfl ?_; go_simp))
                refine Reg.act rfl ?_
                go_wp2
                refine ⟨Reg.anew_nil, ?_⟩
                (refine Reg.done ?_; simp only [Exit.then])
                go_wp2
                go_roundw
                case rel =>
                  refine ⟨2, by omega, by go_num, ?_, (HK5.out.setCell (fun _ => rfl) _).drew⟩
                  have h := HB5.out.set 1 (uv (sb + rb))
                  exact h.drew
                case measure => simp [intOf]
              · skip
                have cc : wr.cell? ⟨g, 2, none⟩ = some (.int .u32 (un sc)) := HB5.out.cell (i := 2) (u := uv sc) rfl
                have hfz := HB5.out.fr 2
                have mm := un_add sc rc
                have hidx : (Instr.index 129 (.agg #[.int .u32 (un ra), .int .u32 (un rb), .int .u32 (un rc), .int .u32 (un rd), .int .u32 (un re), .int .u32 (un rf), .int .u32 (un rg), .int .u32 (un rh)]) (.int .i64 2)).run Try.prog wr = .ok (.int .u32 (un rc)) wr := by kernel_rfl
                go_wp2_with fail
                refine Reg.wp_region_plan [⟨0, false, []⟩, ⟨1, false, []⟩, ⟨2, false, []⟩, ⟨3, false, []⟩, ⟨4, false, []⟩, ⟨5, false, []⟩, ⟨6, false, []⟩, ⟨7, false, []⟩, ⟨8, false, []⟩, ⟨9, true, []⟩] rfl (by kernel_rfl) ?_
                repeat (first | (refine Reg.look rfl rfl rfl (by go_simp; rfl) rfl ?_; go_simp) | (refine Reg.skip rfl rfl rfl ?_; go_simp))
                refine Reg.act rfl ?_
                go_wp2
                refine ⟨Reg.anew_nil, ?_⟩
                (refine Reg.done ?_; simp only [Exit.then])
                go_wp2
                go_roundw
                case rel =>
                  refine ⟨3, by omega, by go_num, ?_, (HK5.out.setCell (fun _ => rfl) _).drew⟩
                  have h := HB5.out.set 2 (uv (sc + rc))
                  exact h.drew
                case measure => simp [intOf]
              · skip
                have cc : wr.cell? ⟨g, 3, none⟩ = some (.int .u32 (un sd)) := HB5.out.cell (i := 3) (u := uv sd) rfl
                have hfz := HB5.out.fr 3
                have mm := un_add sd rd
                have hidx : (Instr.index 129 (.agg #[.int .u32 (un ra), .int .u32 (un rb), .int .u32 (un rc), .int .u32 (un rd), .int .u32 (un re), .int .u32 (un rf), .int .u32 (un rg), .int .u32 (un rh)]) (.int .i64 3)).run Try.prog wr = .ok (.int .u32 (un rd)) wr := by kernel_rfl
                go_wp2_with fail
                refine Reg.wp_region_plan [⟨0, false, []⟩, ⟨1, false, []⟩, ⟨2, false, []⟩, ⟨3, false, []⟩, ⟨4, false, []⟩, ⟨5, false, []⟩, ⟨6, false, []⟩, ⟨7, false, []⟩, ⟨8, false, []⟩, ⟨9, true, []⟩] rfl (by kernel_rfl) ?_
                repeat (first | (refine Reg.look rfl rfl rfl (by go_simp; rfl) rfl ?_; go_simp) | (refine Reg.skip rfl rfl rfl ?_; go_simp))
                refine Reg.act rfl ?_
                go_wp2
                refine ⟨Reg.anew_nil, ?_⟩
                (refine Reg.done ?_; simp only [Exit.then])
                go_wp2
                go_roundw
                case rel =>
                  refine ⟨4, by omega, by go_num, ?_, (HK5.out.setCell (fun _ => rfl) _).drew⟩
                  have h := HB5.out.set 3 (uv (sd + rd))
                  exact h.drew
                case measure => simp [intOf]
              · skip
                have cc : wr.cell? ⟨g, 4, none⟩ = some (.int .u32 (un se)) := HB5.out.cell (i := 4) (u := uv se) rfl
                have hfz := HB5.out.fr 4
                have mm := un_add se re
                have hidx : (Instr.index 129 (.agg #[.int .u32 (un ra), .int .u32 (un rb), .int .u32 (un rc), .int .u32 (un rd), .int .u32 (un re), .int .u32 (un rf), .int .u32 (un rg), .int .u32 (un rh)]) (.int .i64 4)).run Try.prog wr = .ok (.int .u32 (un re)) wr := by kernel_rfl
                go_wp2_with fail
                refine Reg.wp_region_plan [⟨0, false, []⟩, ⟨1, false, []⟩, ⟨2, false, []⟩, ⟨3, false, []⟩, ⟨4, false, []⟩, ⟨5, false, []⟩, ⟨6, false, []⟩, ⟨7, false, []⟩, ⟨8, false, []⟩, ⟨9, true, []⟩] rfl (by kernel_rfl) ?_
                repeat (first | (refine Reg.look rfl rfl rfl (by go_simp; rfl) rfl ?_; go_simp) | (refine Reg.skip rfl rfl rfl ?_; go_simp))
                refine Reg.act rfl ?_
                go_wp2
                refine ⟨Reg.anew_nil, ?_⟩
                (refine Reg.done ?_; simp only [Exit.then])
                go_wp2
                go_roundw
                case rel =>
                  refine ⟨5, by omega, by go_num, ?_, (HK5.out.setCell (fun _ => rfl) _).drew⟩
                  have h := HB5.out.set 4 (uv (se + re))
                  exact h.drew
                case measure => simp [intOf]
              · skip
                have cc : wr.cell? ⟨g, 5, none⟩ = some (.int .u32 (un sf)) := HB5.out.cell (i := 5) (u := uv sf) rfl
                have hfz := HB5.out.fr 5
                have mm := un_add sf rf
                have hidx : (Instr.index 129 (.agg #[.int .u32 (un ra), .int .u32 (un rb), .int .u32 (un rc), .int .u32 (un rd), .int .u32 (un re), .int .u32 (un rf), .int .u32 (un rg), .int .u32 (un rh)]) (.int .i64 5)).run Try.prog wr = .ok (.int .u32 (un rf)) wr := by kernel_rfl
                go_wp2_with fail
                refine Reg.wp_region_plan [⟨0, false, []⟩, ⟨1, false, []⟩, ⟨2, false, []⟩, ⟨3, false, []⟩, ⟨4, false, []⟩, ⟨5, false, []⟩, ⟨6, false, []⟩, ⟨7, false, []⟩, ⟨8, false, []⟩, ⟨9, true, []⟩] rfl (by kernel_rfl) ?_
                repeat (first | (refine Reg.look rfl rfl rfl (by go_simp; rfl) rfl ?_; go_simp) | (refine Reg.skip rfl rfl rfl ?_; go_simp))
                refine Reg.act rfl ?_
                go_wp2
                refine ⟨Reg.anew_nil, ?_⟩
                (refine Reg.done ?_; simp only [Exit.then])
                go_wp2
                go_roundw
                case rel =>
                  refine ⟨6, by omega, by go_num, ?_, (HK5.out.setCell (fun _ => rfl) _).drew⟩
                  have h := HB5.out.set 5 (uv (sf + rf))
                  exact h.drew
                case measure => simp [intOf]
              · skip
                have cc : wr.cell? ⟨g, 6, none⟩ = some (.int .u32 (un sg)) := HB5.out.cell (i := 6) (u := uv sg) rfl
                have hfz := HB5.out.fr 6
                have mm := un_add sg rg
                have hidx : (Instr.index 129 (.agg #[.int .u32 (un ra), .int .u32 (un rb), .int .u32 (un rc), .int .u32 (un rd), .int .u32 (un re), .int .u32 (un rf), .int .u32 (un rg), .int .u32 (un rh)]) (.int .i64 6)).run Try.prog wr = .ok (.int .u32 (un rg)) wr := by kernel_rfl
                go_wp2_with fail
                refine Reg.wp_region_plan [⟨0, false, []⟩, ⟨1, false, []⟩, ⟨2, false, []⟩, ⟨3, false, []⟩, ⟨4, false, []⟩, ⟨5, false, []⟩, ⟨6, false, []⟩, ⟨7, false, []⟩, ⟨8, false, []⟩, ⟨9, true, []⟩] rfl (by kernel_rfl) ?_
                repeat (first | (refine Reg.look rfl rfl rfl (by go_simp; rfl) rfl ?_; go_simp) | (refine Reg.skip rfl rfl rfl ?_; go_simp))
                refine Reg.act rfl ?_
                go_wp2
                refine ⟨Reg.anew_nil, ?_⟩
                (refine Reg.done ?_; simp only [Exit.then])
                go_wp2
                go_roundw
                case rel =>
                  refine ⟨7, by omega, by go_num, ?_, (HK5.out.setCell (fun _ => rfl) _).drew⟩
                  have h := HB5.out.set 6 (uv (sg + rg))
                  exact h.drew
                case measure => simp [intOf]
              · skip
                have cc : wr.cell? ⟨g, 7, none⟩ = some (.int .u32 (un sh)) := HB5.out.cell (i := 7) (u := uv sh) rfl
                have hfz := HB5.out.fr 7
                have mm := un_add sh rh
                have hidx : (Instr.index 129 (.agg #[.int .u32 (un ra), .int .u32 (un rb), .int .u32 (un rc), .int .u32 (un rd), .int .u32 (un re), .int .u32 (un rf), .int .u32 (un rg), .int .u32 (un rh)]) (.int .i64 7)).run Try.prog wr = .ok (.int .u32 (un rh)) wr := by kernel_rfl
                go_wp2_with fail
                refine Reg.wp_region_plan [⟨0, false, []⟩, ⟨1, false, []⟩, ⟨2, false, []⟩, ⟨3, false, []⟩, ⟨4, false, []⟩, ⟨5, false, []⟩, ⟨6, false, []⟩, ⟨7, false, []⟩, ⟨8, false, []⟩, ⟨9, true, []⟩] rfl (by kernel_rfl) ?_
                repeat (first | (refine Reg.look rfl rfl rfl (by go_simp; rfl) rfl ?_; go_simp) | (refine Reg.skip rfl rfl rfl ?_; go_simp))
                refine Reg.act rfl ?_
                go_wp2
                refine ⟨Reg.anew_nil, ?_⟩
                (refine Reg.done ?_; simp only [Exit.then])
                go_wp2
                go_roundw
                case rel =>
                  refine ⟨8, by omega, by go_num, ?_, (HK5.out.setCell (fun _ => rfl) _).drew⟩
                  have h := HB5.out.set 7 (uv (sh + rh))
                  exact h.drew
                case measure => simp [intOf]
            · obtain rfl : k = 8 := by omega
              go_wp2_with fail
              go_end0
              refine ⟨rfl, ?_, HK5.out⟩
              unfold comp
              rw [HR.out]
              exact HB5.out
end Go.Proofs.Ytamfgmlhopjppaa
