/-
  pack.Reader: Num.
-/
import Derived.Test.YtejmbbnndagejaaRdL
import Derived.Test.YtejmbbnndagejaaP1
import Derived.Test.YtejmbbnndagejaaW32
namespace Go.Proofs.Ytejmbbnndagejaa
open Go.RowKit Go.ChangeShapes Go.WideShapes Go.ChangeAt

theorem Blk.ne {w : World} {a b : Nat} {e e' : TypeId} {v v' : List Value} (h : Blk w a e v) (h' : Blk w b e' v') (hne : e ≠ e') : a ≠ b := by
  rintro rfl
  unfold Blk at h h'
  rw [h] at h'
  injection h' with h'
  injection h' with _ h'
  exact hne h'
theorem bs_tail (s : ByteArray) (k : Nat) : s.extract k s.size = bs (s.data.toList.drop k) := by
  have h := bs_extract s.data.toList k s.size
  rw [bs_of] at h
  rw [h, List.take_of_length_le (by rw [List.length_drop, data_length]; omega)]
/-- a pack.Reader at a block -/
def IsRd (w : World) (g : Nat) (s : ByteArray) (bad : Bool) : Prop := Blk w g 99 [.string s, .bool bad]
/-- what the reading of a number leaves -/
def NumEnd (g m : Nat) (w : World) (R : Option (Int × List UInt8)) (e : Ending) (w' : World) : Prop :=
  match R with
  | none => e = .returned (.bool false) ∧ Kp No w w'
  | some p => e = .returned (.bool true) ∧ IsRd w' g (bs p.2) false ∧ Blk w' m 3 [.int .i64 p.1] ∧ Kp (fun k => k = g ∨ k = m) w w'
theorem and127 (N : Nat) (h : N < 256) : bits .and .u8 (N : Int) 127 = ((N % 128 : Nat) : Int) := by
  have : ∀ N : Fin 256, bits .and .u8 (N.val : Int) 127 = ((N.val % 128 : Nat) : Int) := by decide +kernel
  exact this ⟨N, h⟩
theorem and128 (N : Nat) (h : N < 256) : bits .and .u8 (N : Int) 128 = if N < 128 then 0 else 128 := by
  have : ∀ N : Fin 256, bits .and .u8 (N.val : Int) 128 = if N.val < 128 then 0 else 128 := by decide +kernel
  exact this ⟨N, h⟩

theorem xor_unzz (Z : Nat) (h : Z < 18446744073709551616) : bits .xor .i64 ((Z : Int) / 2) (-((Z % 2 : Nat) : Int)) = unzz Z := by
  obtain ⟨a, ha⟩ : ∃ a, Z / 2 = a := ⟨_, rfl⟩
  have hal : a < 9223372036854775808 := by omega
  rw [show (Z : Int) / 2 = (a : Int) by omega]
  show IntKind.i64.wrap ((BitVec.ofInt 64 (a : Int) ^^^ BitVec.ofInt 64 (-((Z % 2 : Nat) : Int))).toNat : Int) = _
  have hb : BitVec.ofInt 64 (a : Int) = BitVec.ofNat 64 a := by rw [BitVec.ofInt_natCast]
  unfold unzz
  rw [ha]
  by_cases h1 : Z % 2 = 1
  · rw [if_pos h1, h1, hb, show BitVec.ofInt 64 (-((1 : Nat) : Int)) = BitVec.allOnes 64 from by decide, BitVec.xor_allOnes, BitVec.toNat_not, BitVec.toNat_ofNat, Nat.mod_eq_of_lt (by omega)]
    simp [IntKind.wrap, IntKind.signed, IntKind.bits]; omega
  · rw [if_neg h1, show Z % 2 = 0 by omega, hb, show BitVec.ofInt 64 (-((0 : Nat) : Int)) = 0#64 from by decide, BitVec.xor_zero, BitVec.toNat_ofNat, Nat.mod_eq_of_lt (by omega)]
    simp [IntKind.wrap, IntKind.signed, IntKind.bits]; omega

set_option maxRecDepth 100000 in
set_option maxHeartbeats 1000000 in
theorem c_Num1 (b m g : Nat) (s : ByteArray) (R : Option (Int × List UInt8)) (hR : rdNum s.data.toList = R) (w : World) (hb : Blk w b 75 [.pointer (some ⟨g, 0, none⟩)]) (hm : Blk w m 3 [.int .i64 0]) (hg : IsRd w g s false) (hs : s.size ≤ 1073741824) :
    Calls Try.prog 72 #[.pointer (some ⟨b, 0, none⟩), .pointer (some ⟨m, 0, none⟩)] w fun e w' => NumEnd g m w R e w' := by
  have HB := Lib.hid hb
  have HM := Lib.hid hm
  have HG0 := Lib.hid hg
  clear hb hm hg
  have hbm : b ≠ m := HB.out.ne HM.out (by decide)
  have hbg : b ≠ g := Blk.ne HB.out HG0.out (by decide)
  have hgm : g ≠ m := Blk.ne HG0.out HM.out (by decide)
  have b0 : w.cell? ⟨b, 0, none⟩ = some (.pointer (some ⟨g, 0, none⟩)) := HB.out.cell rfl
  have g0 : w.cell? ⟨g, 0, none⟩ = some (.string s) := Blk.cell HG0.out rfl
  have H0 : Hid ((rdAt 0 0 s.data.toList).map (fun p => (unzz p.1, p.2)) = R) := Lib.hid hR
  clear hR
  go_enter Try.func72, Try.ntmps72
  go_wp2_with fail
  go_loop [3, 4, 5] (fun zv hv iv => ∃ (Z i : Nat), zv = .int .u64 (Z : Int) ∧ hv = .int .i64 (7 * i : Int) ∧ iv = .int .i64 (i : Int) ∧ i ≤ 9 ∧ i ≤ s.size ∧ Z < 128 ^ i ∧ Hid ((rdAt i Z (s.data.toList.drop i)).map (fun p => (unzz p.1, p.2)) = R)) (fun _ _ iv => s.size - (intOf iv).toNat)
  case atStart => exact ⟨0, 0, rfl, rfl, rfl, by omega, by omega, by decide, H0⟩
  case round =>
    clear H0
    obtain ⟨Z, i, rfl, rfl, rfl, hi9, his, hZ, HR⟩ := hrel
    by_cases hlt : i < s.size
    · have hdrop : s.data.toList.drop i = s[i] :: s.data.toList.drop (i + 1) := List.drop_eq_getElem_cons (by rw [data_length]; exact hlt)
      obtain ⟨N, hN⟩ : ∃ N, s[i].toNat = N := ⟨_, rfl⟩
      have hN256 : N < 256 := by rw [← hN]; exact UInt8.toNat_lt _
      have HST : Hid (rdAt i Z (s.data.toList.drop i) = if i = 9 ∧ 1 < N then none else if N < 128 then (if N = 0 ∧ 0 < i then none else some (Z + N % 128 * 128 ^ i, s.data.toList.drop (i + 1))) else rdAt (i + 1) (Z + N % 128 * 128 ^ i) (s.data.toList.drop (i + 1))) := Lib.hid (by rw [hdrop]; conv => lhs; unfold rdAt; rw [hN])
      clear hdrop
      by_cases hover : i = 9 ∧ 1 < N
      · have h63 : (7 * (i : Int) == 63) = true := by simp; omega
        have h1 : (1 : Int) < (N : Int) := by omega
        have HF : Hid (R = none) := Lib.hid (by rw [← HR.out, HST.out, if_pos hover]; rfl)
        clear HST HR hover
        go_wp2_with fail
        go_ret
        rw [HF.out]; exact ⟨rfl, Kp.refl _ _⟩
      · have hand := and127 N hN256
        have hand2 := and128 N hN256
        obtain ⟨P, hP⟩ : ∃ P, 128 ^ i = P := ⟨_, rfl⟩
        rw [hP] at hZ HST
        have hPb : P ≤ 9223372036854775808 := by
          rw [← hP]
          have h1 : (128 : Nat) ^ i ≤ 128 ^ 9 := Nat.pow_le_pow_right (by omega) hi9
          have h2 : (128 : Nat) ^ 9 = 9223372036854775808 := by decide
          omega
        have hNP : N % 128 * P + P ≤ 18446744073709551616 := by
          rcases Nat.lt_or_ge i 9 with h | h
          · have h1 : (128 : Nat) ^ (i + 1) ≤ 9223372036854775808 := pow128 (by omega)
            rw [Nat.pow_succ, hP] at h1
            have h2 : N % 128 + 1 ≤ 128 := by omega
            have h3 := Nat.mul_le_mul_right P h2
            rw [Nat.add_mul] at h3
            omega
          · have h2 : N % 128 ≤ 1 := by omega
            have h3 := Nat.mul_le_mul_right P h2
            omega
        have hsh : (2 : Int) ^ (7 * (i : Int)).toNat = (P : Int) := by
          rw [show (7 * (i : Int)).toNat = 7 * i by omega, ← hP, show (128 : Nat) ^ i = 2 ^ (7 * i) by rw [Nat.pow_mul]]
          simp
        have hgrow : Z + N % 128 * P < 128 ^ (i + 1) := by rw [← hP]; exact rd_grow (by rw [hP]; exact hZ)
        obtain ⟨D, hD⟩ : ∃ D, N % 128 * P = D := ⟨_, rfl⟩
        have hDi : (N : Int) % 128 * (P : Int) = (D : Int) := by rw [← hD]; push_cast; rfl
        have hor : bits .or .u64 (Z : Int) (D : Int) = ((Z + D : Nat) : Int) := by
          rw [u64_or_nat _ _ (by omega) (by omega)]
          congr 1
          have h1 : P = 2 ^ (7 * i) := by rw [← hP, Nat.pow_mul]
          rw [← hD, Nat.or_comm, Nat.mul_comm, h1, ← Nat.two_pow_add_eq_or_of_lt (by rw [← h1]; exact hZ), Nat.add_comm]
        rw [hD] at hgrow hNP HST
        obtain ⟨Z2, hZ2⟩ : ∃ Z2, Z + D = Z2 := ⟨_, rfl⟩
        rw [hZ2] at hgrow hor HST
        have hZ2l : Z2 < 18446744073709551616 := by omega
        have HG := Lib.hid hgrow
        have hDl : D < 18446744073709551616 := by omega
        clear hgrow hP hD hNP
        by_cases hmore : N < 128
        · rw [if_pos hmore] at hand2
          by_cases hz : N = 0 ∧ 0 < i
          · have HF : Hid (R = none) := Lib.hid (by rw [← HR.out, HST.out, if_neg hover, if_pos hmore, if_pos hz]; rfl)
            have hz1 : ((N : Int) == 0) = true := by simp; omega
            have hz2 : (0 : Int) < (i : Int) := by omega
            clear HST HR
            by_cases h9 : i = 9
            · have h63 : (7 * (i : Int) == 63) = true := by simp; omega
              have h1 : ¬ (1 : Int) < (N : Int) := by omega
              clear hover h9 hz
              go_wp2_with fail
              go_ret
              rw [HF.out]; exact ⟨rfl, Kp.refl _ _⟩
            · have h63 : (7 * (i : Int) == 63) = false := by simp; omega
              clear hover h9 hz
              go_wp2_with fail
              go_ret
              rw [HF.out]; exact ⟨rfl, Kp.refl _ _⟩
          · have HF : Hid (R = some (unzz Z2, s.data.toList.drop (i + 1))) := Lib.hid (by rw [← HR.out, HST.out, if_neg hover, if_pos hmore, if_neg hz]; rfl)
            clear HST HR
            obtain ⟨q, hq⟩ : ∃ q, Z2 % 2 = q := ⟨_, rfl⟩
            have hq1 : q ≤ 1 := by omega
            have hand1 : bits .and .u64 (Z2 : Int) 1 = (q : Int) := by
              rw [show (1 : Int) = ((1 : Nat) : Int) from rfl, u64_and_nat _ _ (by omega) (by omega), Nat.and_one_is_mod, hq]
            obtain ⟨U, hU⟩ : ∃ U, unzz Z2 = U := ⟨_, rfl⟩
            have hxor : bits .xor .i64 ((Z2 : Int) / 2) (-(q : Int)) = U := by rw [← hU, ← hq]; exact xor_unzz Z2 hZ2l
            rw [hU] at HF
            have m0 : w.cell? ⟨m, 0, none⟩ = some (.int .i64 0) := HM.out.cell rfl
            have fm := HM.out.fr 0
            have fg := Blk.fr HG0.out 0
            by_cases h0 : N = 0
            · have hz1 : ((N : Int) == 0) = true := by simp; omega
              have hz2 : ¬ (0 : Int) < (i : Int) := by omega
              have h63 : (7 * (i : Int) == 63) = false := by simp; omega
              clear hover h0 hz hU hq
              have hli : (i : Int) + 1 ≤ (s.size : Int) := by omega
              have hli0 : (0 : Int) ≤ (i : Int) + 1 := by omega
              have hlw : IntKind.i64.wrap ((i : Int) + 1) = (i : Int) + 1 := by rw [IntKind.wrap_i64]; omega
              have hlt1 : ((i : Int) + 1).toNat = i + 1 := by omega
              go_wp2_with fail
              refine Reg.wp_region_plan [⟨0, false, []⟩, ⟨1, false, []⟩, ⟨2, false, []⟩, ⟨3, false, []⟩, ⟨4, false, []⟩, ⟨5, false, []⟩, ⟨6, false, []⟩, ⟨7, false, []⟩, ⟨8, false, []⟩, ⟨9, false, []⟩, ⟨10, false, []⟩, ⟨11, false, []⟩, ⟨12, false, []⟩, ⟨13, false, []⟩, ⟨14, false, []⟩, ⟨15, false, []⟩, ⟨16, true, [0, 9, 10, 11, 12, 14, 15]⟩, ⟨17, false, []⟩, ⟨18, false, []⟩, ⟨19, true, []⟩] rfl (by kernel_rfl) ?_
              repeat (first | (refine Reg.look rfl rfl rfl (by go_simp; rfl) rfl ?_; go_simp) | (refine Reg.skip rfl rfl rfl ?_; go_simp))
              refine Reg.act rfl ?_
              go_wp2
              (refine ⟨?anew, ?_⟩; case anew => ((repeat (refine Reg.anew_cons rfl rfl (fun _ => by go_simp) ?_)); exact Reg.anew_nil))
              repeat (first | (refine Reg.look rfl rfl rfl (by go_simp; rfl) rfl ?_; go_simp) | (refine Reg.skip rfl rfl rfl ?_; go_simp))
              refine Reg.act rfl ?_
              go_wp2
              refine ⟨Reg.anew_nil, ?_⟩
              (refine Reg.done ?_; simp only [Exit.then])
              go_wp2_with fail
              go_ret
              rw [HF.out]
              have hw1 : Blk (w.setCell ⟨m, 0, none⟩ (.int .i64 U)) g 99 [.string s, .bool false] := HG0.out.kept (S := (· = m)) ((Kp.refl (· = m) w).setCell (p := ⟨m, 0, none⟩) (fun _ => rfl) _) hgm
              have hw2 := hw1.set 0 (.string (bs (s.data.toList.drop (i + 1))))
              have hm1 := (HM.out.set 0 (.int .i64 U)).kept (S := (· = g)) ((Kp.refl (· = g) _).setCell (p := ⟨g, 0, none⟩) (fun _ => rfl) (.string (bs (s.data.toList.drop (i + 1))))) (fun e => hgm e.symm)
              rw [bs_tail]
              exact ⟨rfl, hw2.drew, hm1.drew, (((Kp.refl _ w).setCell (p := ⟨m, 0, none⟩) (fun _ => .inr rfl) _).setCell (p := ⟨g, 0, none⟩) (fun _ => .inl rfl) _).drew⟩
            · have hz1 : ((N : Int) == 0) = false := by simp; omega
              by_cases h9 : i = 9
              · have h63 : (7 * (i : Int) == 63) = true := by simp; omega
                have h1 : ¬ (1 : Int) < (N : Int) := by omega
                clear hover h0 h9 hz hU hq
                have hli : (i : Int) + 1 ≤ (s.size : Int) := by omega
                have hli0 : (0 : Int) ≤ (i : Int) + 1 := by omega
                have hlw : IntKind.i64.wrap ((i : Int) + 1) = (i : Int) + 1 := by rw [IntKind.wrap_i64]; omega
                have hlt1 : ((i : Int) + 1).toNat = i + 1 := by omega
                go_wp2_with fail
                refine Reg.wp_region_plan [⟨0, false, []⟩, ⟨1, false, []⟩, ⟨2, false, []⟩, ⟨3, false, []⟩, ⟨4, false, []⟩, ⟨5, false, []⟩, ⟨6, false, []⟩, ⟨7, false, []⟩, ⟨8, false, []⟩, ⟨9, false, []⟩, ⟨10, false, []⟩, ⟨11, false, []⟩, ⟨12, false, []⟩, ⟨13, false, []⟩, ⟨14, false, []⟩, ⟨15, false, []⟩, ⟨16, true, [0, 9, 10, 11, 12, 14, 15]⟩, ⟨17, false, []⟩, ⟨18, false, []⟩, ⟨19, true, []⟩] rfl (by kernel_rfl) ?_
                repeat (first | (refine Reg.look rfl rfl rfl (by go_simp; rfl) rfl ?_; go_simp) | (refine Reg.skip rfl rfl rfl ?_; go_simp))
                refine Reg.act rfl ?_
                go_wp2
                (refine ⟨?anew, ?_⟩; case anew => ((repeat (refine Reg.anew_cons rfl rfl (fun _ => by go_simp) ?_)); exact Reg.anew_nil))
                repeat (first | (refine Reg.look rfl rfl rfl (by go_simp; rfl) rfl ?_; go_simp) | (refine Reg.skip rfl rfl rfl ?_; go_simp))
                refine Reg.act rfl ?_
                go_wp2
                refine ⟨Reg.anew_nil, ?_⟩
                (refine Reg.done ?_; simp only [Exit.then])
                go_wp2_with fail
                go_ret
                rw [HF.out]
                have hw1 : Blk (w.setCell ⟨m, 0, none⟩ (.int .i64 U)) g 99 [.string s, .bool false] := HG0.out.kept (S := (· = m)) ((Kp.refl (· = m) w).setCell (p := ⟨m, 0, none⟩) (fun _ => rfl) _) hgm
                have hw2 := hw1.set 0 (.string (bs (s.data.toList.drop (i + 1))))
                have hm1 := (HM.out.set 0 (.int .i64 U)).kept (S := (· = g)) ((Kp.refl (· = g) _).setCell (p := ⟨g, 0, none⟩) (fun _ => rfl) (.string (bs (s.data.toList.drop (i + 1))))) (fun e => hgm e.symm)
                rw [bs_tail]
                exact ⟨rfl, hw2.drew, hm1.drew, (((Kp.refl _ w).setCell (p := ⟨m, 0, none⟩) (fun _ => .inr rfl) _).setCell (p := ⟨g, 0, none⟩) (fun _ => .inl rfl) _).drew⟩
              · have h63 : (7 * (i : Int) == 63) = false := by simp; omega
                clear hover h0 h9 hz hU hq
                have hli : (i : Int) + 1 ≤ (s.size : Int) := by omega
                have hli0 : (0 : Int) ≤ (i : Int) + 1 := by omega
                have hlw : IntKind.i64.wrap ((i : Int) + 1) = (i : Int) + 1 := by rw [IntKind.wrap_i64]; omega
                have hlt1 : ((i : Int) + 1).toNat = i + 1 := by omega
                go_wp2_with fail
                refine Reg.wp_region_plan [⟨0, false, []⟩, ⟨1, false, []⟩, ⟨2, false, []⟩, ⟨3, false, []⟩, ⟨4, false, []⟩, ⟨5, false, []⟩, ⟨6, false, []⟩, ⟨7, false, []⟩, ⟨8, false, []⟩, ⟨9, false, []⟩, ⟨10, false, []⟩, ⟨11, false, []⟩, ⟨12, false, []⟩, ⟨13, false, []⟩, ⟨14, false, []⟩, ⟨15, false, []⟩, ⟨16, true, [0, 9, 10, 11, 12, 14, 15]⟩, ⟨17, false, []⟩, ⟨18, false, []⟩, ⟨19, true, []⟩] rfl (by kernel_rfl) ?_
                repeat (first | (refine Reg.look rfl rfl rfl (by go_simp; rfl) rfl ?_; go_simp) | (refine Reg.skip rfl rfl rfl ?_; go_simp))
                refine Reg.act rfl ?_
                go_wp2
                (refine ⟨?anew, ?_⟩; case anew => ((repeat (refine Reg.anew_cons rfl rfl (fun _ => by go_simp) ?_)); exact Reg.anew_nil))
                repeat (first | (refine Reg.look rfl rfl rfl (by go_simp; rfl) rfl ?_; go_simp) | (refine Reg.skip rfl rfl rfl ?_; go_simp))
                refine Reg.act rfl ?_
                go_wp2
                refine ⟨Reg.anew_nil, ?_⟩
                (refine Reg.done ?_; simp only [Exit.then])
                go_wp2_with fail
                go_ret
                rw [HF.out]
                have hw1 : Blk (w.setCell ⟨m, 0, none⟩ (.int .i64 U)) g 99 [.string s, .bool false] := HG0.out.kept (S := (· = m)) ((Kp.refl (· = m) w).setCell (p := ⟨m, 0, none⟩) (fun _ => rfl) _) hgm
                have hw2 := hw1.set 0 (.string (bs (s.data.toList.drop (i + 1))))
                have hm1 := (HM.out.set 0 (.int .i64 U)).kept (S := (· = g)) ((Kp.refl (· = g) _).setCell (p := ⟨g, 0, none⟩) (fun _ => rfl) (.string (bs (s.data.toList.drop (i + 1))))) (fun e => hgm e.symm)
                rw [bs_tail]
                exact ⟨rfl, hw2.drew, hm1.drew, (((Kp.refl _ w).setCell (p := ⟨m, 0, none⟩) (fun _ => .inr rfl) _).setCell (p := ⟨g, 0, none⟩) (fun _ => .inl rfl) _).drew⟩
        · have HN : Hid ((rdAt (i + 1) Z2 (s.data.toList.drop (i + 1))).map (fun p => (unzz p.1, p.2)) = R) := Lib.hid (by rw [← HR.out, HST.out, if_neg hover, if_neg hmore])
          have hi8 : i ≤ 8 := by omega
          rw [if_neg hmore] at hand2
          have h63 : (7 * (i : Int) == 63) = false := by simp; omega
          clear HST HR hover
          go_wp2_with fail
          go_round
          case rel => exact ⟨Z2, i + 1, by go_num, by go_num, by go_num, by omega, by omega, HG.out, HN⟩
          case measure => simp [intOf]; omega
    · obtain rfl : i = s.size := by omega
      have HF : Hid (R = none) := Lib.hid (by rw [← HR.out, show s.data.toList.drop s.size = [] from by rw [← data_length, List.drop_length]]; rfl)
      go_wp2_with fail
      go_ret
      rw [HF.out]; exact ⟨rfl, Kp.refl _ _⟩
end Go.Proofs.Ytejmbbnndagejaa
