/-
  The reference's Sum, walked.
-/
import Derived.Test.YtamfgmlhopjppaaRAll
namespace Go.Proofs.Ytamfgmlhopjppaa
open Go.RowKit Go.ChangeShapes Go.WideShapes Go.ChangeAt

theorem r_rotk (x : W) (r : Nat) (k : Int) (hk : k = (r : Int)) (h0 : 0 < r) (h1 : r < 32) (w : World) : Calls Try.prog 86 #[.int .u32 (un x), .int .i64 k] w fun e w' => e = .returned (.int .u32 (un (rotr x r))) ∧ ∃ n, w' = w.drewN n := by
  subst hk; exact r_rot x r h0 h1 w
theorem r_square2 (p : Nat) (F : Int) (h : sqGo p 36 0 % 4294967296 = F) (w : World) : Calls Try.prog 82 #[.int .u64 (p : Int)] w fun e w' => e = .returned (.int .u32 F) ∧ w' = w := by
  subst h; exact r_square p w
/-- between the blocks: the state, the constants, the message -/
structure RS (w0 : World) (gh gk : Nat) (vm : Value) (PM : List UInt8) (hl : List W) (wr : World) : Prop where
  h : Blk wr gh 129 (hl.map uv)
  k : Blk wr gk 135 (K64.map uv)
  m : OwnM wr w0.heap.size 5 vm PM
  kp : Kp No w0 wr
theorem RS.kept {w0 : World} {gh gk : Nat} {vm : Value} {PM : List UInt8} {hl : List W} {wr wr' : World} {T : Nat → Prop} (h : RS w0 gh gk vm PM hl wr) (hk : Kp T wr wr') (h1 : ¬ T gh) (h2 : ¬ T gk) (h3 : ∀ k, vm.ownBlock = some k → ¬ T k) (h4 : ∀ i, i < w0.heap.size → ¬ T i) : RS w0 gh gk vm PM hl wr' :=
  ⟨h.h.kept hk h1, h.k.kept hk h2, h.m.kept hk h3, h.kp.trans hk (fun i hi ht => absurd ht (h4 i hi))⟩
theorem RS.keptNo {w0 : World} {gh gk : Nat} {vm : Value} {PM : List UInt8} {hl : List W} {wr wr' : World} (h : RS w0 gh gk vm PM hl wr) (hk : Kp No wr wr') : RS w0 gh gk vm PM hl wr' := h.kept hk (fun x => x) (fun x => x) (fun _ _ x => x) (fun _ _ x => x)
/-- a new block's turnings don't touch it -/
theorem RS.new {w0 : World} {gh gk g : Nat} {vm : Value} {PM : List UInt8} {hl : List W} {wr wr' : World} (h : RS w0 gh gk vm PM hl wr) (hk : Kp (· = g) wr wr') (hg : w0.heap.size ≤ g) (h1 : g ≠ gh) (h2 : g ≠ gk) (h3 : vm.ownBlock ≠ some g) : RS w0 gh gk vm PM hl wr' :=
  h.kept hk (fun e => h1 e.symm) (fun e => h2 e.symm) (fun k hk e => h3 (by rw [hk, e])) (fun i hi e => by omega)
theorem RS.byte {w0 : World} {gh gk : Nat} {A : Option Addr} {n c : Nat} {PM : List UInt8} {hl : List W} {wr : World} (h : RS w0 gh gk (.slice A n c) PM hl wr) {i : Nat} (hi : i < PM.length) : ∃ g o, A = some ⟨g, o, none⟩ ∧ wr.cell? ⟨g, o + i, none⟩ = some (.int .u8 (byteN PM i : Int)) := by
  obtain ⟨g, o, h1, _, _, h2⟩ := h.m.cell hi
  exact ⟨g, o, h1, h2⟩
/-- the block at a place -/
def blkAt (PM : List UInt8) (a : Nat) : List UInt8 := (PM.drop a).take 64
theorem blkAt_byte {PM : List UInt8} {a i : Nat} (hi : i < 64) : byteN (blkAt PM a) i = byteN PM (a + i) := by
  unfold byteN blkAt
  rw [List.getD_eq_getElem?_getD, List.getElem?_take_of_lt hi, List.getElem?_drop, ← List.getD_eq_getElem?_getD]
theorem comps_next (PM : List UInt8) (q : Nat) : comps PM H0 (q + 1) = comp (comps PM H0 q) (blkAt PM (64 * q)) := rfl





set_option maxRecDepth 100000 in
set_option maxHeartbeats 100000000 in
theorem r_sum (s : ByteArray) (w : World) (hs : s.size ≤ 1048576) : Calls Try.prog 67 #[.string s] w fun e w' => e = .returned (.string (bs (Go.Proofs.Ytamfgmlhopjppaa.sha s.data.toList))) ∧ Kp No w w' := by
  go_enter Try.func67, Try.ntmps67
  go_wp2_with fail
  go_loopw [4] (fun iv wr => ∃ i : Nat, i ≤ 8 ∧ iv = .int .i64 (i : Int) ∧ Blk wr w.heap.size 129 (fillR H0.l 8 i) ∧ Kp No w wr) (fun iv _ => 8 - (intOf iv).toNat)
  case atStart => exact ⟨0, by omega, rfl, (by rw [fillR_zero]; exact Blk.new w (zerosR 8) 129), (Kp.refl _ _).alloc _⟩
  case round =>
    obtain ⟨i, hi, rfl, hb, hkp⟩ := hrel
    have HB := Lib.hid hb
    have HK := Lib.hid hkp
    clear hb hkp
    by_cases hlt : i < 8
    · have hp := pgo_P64 i (by omega)
      have hq := sq_P64 i hlt
      obtain ⟨P, hP⟩ : ∃ P, P64.getD i 0 = P := ⟨_, rfl⟩
      rw [hP] at hp hq
      have HP := Lib.hid hp
      have HQ := Lib.hid hq
      have Bi : (i : Int) < 8 := by omega
      have hold : ∃ u, wr.cell? ⟨w.heap.size, i, none⟩ = some u := ⟨_, HB.out.cell (List.getElem?_eq_getElem (by rw [fillR_length (show H0.l.length = 8 from rfl) hi]; exact hlt))⟩
      obtain ⟨uo, hold⟩ := hold
      have hfz := HB.out.fr i
      clear hp hq hP
      go_wp2_with fail
      refine (r_prime i P HP.out (by omega) _).mono ?_
      rintro e w2 ⟨rfl, rfl⟩
      go_wp2_with fail
      refine (r_square2 P _ HQ.out _).mono ?_
      rintro e w3 ⟨rfl, rfl⟩
      go_wp2_with fail
      go_roundw
      case rel =>
        refine ⟨i + 1, by omega, by go_num, ?_, HK.out.setCell (fun h => absurd h (by simp)) _⟩
        have h := HB.out.set i (uv (H0.l.getD i 0))
        rw [fillR_set (show H0.l.length = 8 from rfl) hlt] at h
        exact h
      case measure => simp [intOf]; omega
    · obtain rfl : i = 8 := by omega
      rw [show ((8 : Nat) : Int) = 8 from rfl]
      rw [fillR_full (show H0.l.length = 8 from rfl)] at HB
      go_wp2_with (refine wpList_store_new rfl wr 135 (.tmp 5) (.tmp 33) rfl rfl (zerosR 64).toArray _ rfl ?s1 ?s2 ?s3 ?_)
      case s1 => kernel_rfl
      case s2 => rfl
      case s3 => kernel_rfl
      have HKB : Hid (Blk (wr.alloc (.cells (zerosR 64).toArray 135)) wr.heap.size 135 (zerosR 64)) := Lib.hid (Blk.new wr (zerosR 64) _)
      have HB2 : Hid (Blk (wr.alloc (.cells (zerosR 64).toArray 135)) w.heap.size 129 (H0.l.map uv)) := Lib.hid (HB.out.kept (S := No) ((Kp.refl _ _).alloc _) (fun x => x))
      have HK2 : Hid (Kp No w (wr.alloc (.cells (zerosR 64).toArray 135))) := Lib.hid (HK.out.alloc _)
      have hgk : w.heap.size < wr.heap.size := HB.out.lt
      obtain ⟨gk, hgke⟩ : ∃ g, g = wr.heap.size := ⟨_, rfl⟩
      rw [← hgke] at HKB hgk ⊢
      clear HB HK hgke
      obtain ⟨wo, hwo⟩ : ∃ wo : World, wo = wr := ⟨_, rfl⟩
      go_loopw [6] (fun iv wr => ∃ i : Nat, i ≤ 64 ∧ iv = .int .i64 (i : Int) ∧ Blk wr gk 135 (fillR K64 64 i) ∧ Blk wr w.heap.size 129 (H0.l.map uv) ∧ Kp No w wr) (fun iv _ => 64 - (intOf iv).toNat)
      case atStart => exact ⟨0, by omega, rfl, (by rw [fillR_zero]; exact HKB.out), HB2.out, HK2.out⟩
      case round =>
        clear hwo HKB HB2 HK2
        obtain ⟨i, hi, rfl, hkb, hhb, hkp⟩ := hrel
        have HKB := Lib.hid hkb
        have HHB := Lib.hid hhb
        have HK := Lib.hid hkp
        clear hkb hhb hkp
        by_cases hlt : i < 64
        · have hp := pgo_P64 i (by omega)
          obtain ⟨F, hF1, hF2⟩ := cube_P64 i hlt
          obtain ⟨P, hP⟩ : ∃ P, P64.getD i 0 = P := ⟨_, rfl⟩
          rw [hP] at hp hF1
          have HP := Lib.hid hp
          have HF1 := Lib.hid hF1
          have HF2 := Lib.hid hF2
          have Bi : (i : Int) < 64 := by omega
          clear hp hF1 hF2 hP
          go_wp2_with fail
          refine (r_prime i P HP.out (by omega) _).mono ?_
          rintro e w2 ⟨rfl, rfl⟩
          go_wp2_with fail
          refine (r_cube P F HF1.out _).mono ?_
          rintro e w3 ⟨rfl, hk3⟩
          rw [HF2.out]
          have HKB3 := Lib.hid (HKB.out.kept hk3 (fun x => x))
          have HHB3 := Lib.hid (HHB.out.kept hk3 (fun x => x))
          have HK3 := Lib.hid (HK.out.trans' hk3)
          clear hk3 HKB HHB HK
          have hold : ∃ u, w3.cell? ⟨gk, i, none⟩ = some u := ⟨_, HKB3.out.cell (List.getElem?_eq_getElem (by rw [fillR_length (show K64.length = 64 from rfl) hi]; exact hlt))⟩
          obtain ⟨uo, hold⟩ := hold
          have hfz := HKB3.out.fr i
          go_wp2_with fail
          go_roundw
          case rel =>
            refine ⟨i + 1, by omega, by go_num, ?_, ?_, HK3.out.setCell (fun h => absurd h (by show ¬ gk < _; omega)) _⟩
            · have h := HKB3.out.set i (uv (K64.getD i 0))
              rw [fillR_set (show K64.length = 64 from rfl) hlt] at h
              exact h
            · exact HHB3.out.kept (S := (· = gk)) ((Kp.refl (· = gk) _).setCell (p := ⟨gk, i, none⟩) (fun _ => rfl) _) (fun e => by omega)
          case measure => simp [intOf]; omega
        · obtain rfl : i = 64 := by omega
          rw [show ((64 : Nat) : Int) = 64 from rfl]
          rw [fillR_full (show K64.length = 64 from rfl)] at HKB
          go_wp2_with fail
          refine (r_message s _ hs).mono ?_
          rintro e w2 ⟨A2, cm2, rfl, hm2, hk2⟩
          have hgkw : gk < wr.heap.size := HKB.out.lt
          have hrs : RS w w.heap.size gk (.slice A2 (padded s.data.toList).length cm2) (padded s.data.toList) (comps (padded s.data.toList) H0 0).l w2 := ⟨HHB.out.kept hk2 (fun x => x), HKB.out.kept hk2 (fun x => x), hm2.mono HK.out.size, HK.out.trans' hk2⟩
          have hmod : (padded s.data.toList).length % 64 = 0 := padded_mod _
          have hlen : (padded s.data.toList).length ≤ 2097152 := by rw [padded_length, data_length]; have := (padN_mod s.size).2; omega
          have hfin : Hid (Go.Proofs.Ytamfgmlhopjppaa.sha s.data.toList = ((comps (padded s.data.toList) H0 ((padded s.data.toList).length / 64)).l.map bytes4).flatten) := Lib.hid rfl
          obtain ⟨PM, hPM⟩ : ∃ PM, padded s.data.toList = PM := ⟨_, rfl⟩
          rw [hPM] at hrs hmod hlen hfin ⊢
          have HRS := Lib.hid hrs
          clear hrs hm2 hk2 HKB HHB HK hPM
          go_wp2_with fail
          obtain ⟨wo, hwo⟩ : ∃ wo : World, wo = w2 := ⟨_, rfl⟩
          go_loopw [8] (fun av wr => ∃ (q a : Nat), av = .int .i64 (a : Int) ∧ Hid (a = 64 * q) ∧ a ≤ PM.length ∧ a % 64 = 0 ∧ RS w w.heap.size gk (.slice A2 PM.length cm2) PM (comps PM H0 q).l wr) (fun av _ => PM.length - (intOf av).toNat)
          case atStart => exact ⟨0, 0, rfl, Lib.hid rfl, by omega, by omega, HRS.out⟩
          case round =>
            clear hwo HRS
            obtain ⟨q, a, rfl, HA, hal, ha64, hrs⟩ := hrel
            have HRS := Lib.hid hrs
            have hkpw := hrs.kp.size
            have hghl := hrs.h.lt
            have hgkl := hrs.k.lt
            have hmlt : ∀ k, (Value.slice A2 PM.length cm2).ownBlock = some k → k < wr.heap.size := fun k hk => (hrs.m.lt k hk).2
            have HMLT := Lib.hid hmlt
            clear hrs hmlt
            by_cases hlt : a < PM.length
            · have hB64 : a + 64 ≤ PM.length := by omega
              have hnext : (comps PM H0 (q + 1)) = comp (comps PM H0 q) (blkAt PM a) := by rw [comps_next, HA.out]
              have hby : ∀ i, i < 64 → byteN (blkAt PM a) i = byteN PM (a + i) := fun i hi => blkAt_byte hi
              obtain ⟨B, hB⟩ : ∃ B, blkAt PM a = B := ⟨_, rfl⟩
              rw [hB] at hnext hby
              obtain ⟨st, hst⟩ : ∃ st, comps PM H0 q = st := ⟨_, rfl⟩
              rw [hst] at hnext HRS
              have HNX := Lib.hid hnext
              have HBY := Lib.hid hby
              have e64 : IntKind.i64.wrap ((a : Int) + 64) = (a : Int) + 64 := by rw [IntKind.wrap_i64]; omega
              clear hnext hby hB hst
              go_wp2_with (refine wpList_store_new rfl wr 135 (.tmp 9) (.tmp 51) rfl rfl (zerosR 64).toArray _ rfl ?s1 ?s2 ?s3 ?_)
              case s1 => kernel_rfl
              case s2 => rfl
              case s3 => kernel_rfl
              obtain ⟨gw, hgw⟩ : ∃ g, wr.heap.size = g := ⟨_, rfl⟩
              have HBW : Hid (Blk (wr.alloc (.cells (zerosR 64).toArray 135)) gw 135 (fillR (wall B) 64 0)) := Lib.hid (by rw [fillR_zero, ← hgw]; exact Blk.new wr (zerosR 64) _)
              have HRA : Hid (RS w w.heap.size gk (.slice A2 PM.length cm2) PM st.l (wr.alloc (.cells (zerosR 64).toArray 135))) := Lib.hid (HRS.out.keptNo ((Kp.refl _ _).alloc _))
              have HGM : Hid ((Value.slice A2 PM.length cm2).ownBlock ≠ some gw) := Lib.hid (fun h => by have := HMLT.out _ h; omega)
              rw [hgw] at hkpw hghl hgkl ⊢
              generalize (wr.alloc (.cells (zerosR 64).toArray 135)) = wA at *
              clear HRS HMLT hgw
              have hgw1 : gw ≠ w.heap.size := by omega
              have hgw2 : gw ≠ gk := by omega
              obtain ⟨wo, hwo⟩ : ∃ wo : World, wo = wA := ⟨_, rfl⟩
              go_loopw [10] (fun iv wr => ∃ t : Nat, t ≤ 64 ∧ iv = .int .i64 (t : Int) ∧ Blk wr gw 135 (fillR (wall B) 64 t) ∧ Kp (· = gw) wA wr) (fun iv _ => 64 - (intOf iv).toNat)
              case atStart => exact ⟨0, by omega, rfl, HBW.out, Kp.refl _ _⟩
              case round =>
                clear hwo HBW
                obtain ⟨t, ht, rfl, hbw, hka⟩ := hrel
                have HBW := Lib.hid hbw
                have HKA := Lib.hid hka
                clear hbw hka
                by_cases htl : t < 64
                · have Bt : (t : Int) < 64 := by omega
                  by_cases h16 : t < 16
                  · have HP0 : Hid (Blk wr gw 135 (fillP (wall B) 64 t (pacc B t 0))) := Lib.hid (by rw [show pacc B t 0 = 0 from rfl, fillP_zero (wall_length B) htl]; exact HBW.out)
                    have T16 : (t : Int) < 16 := by omega
                    go_wp2_with fail
                    obtain ⟨wo, hwo⟩ : ∃ wo : World, wo = wr := ⟨_, rfl⟩
                    go_loopw [11] (fun jv wr => ∃ j : Nat, j ≤ 4 ∧ jv = .int .i64 (j : Int) ∧ Blk wr gw 135 (fillP (wall B) 64 t (pacc B t j)) ∧ Kp (· = gw) wA wr) (fun jv _ => 4 - (intOf jv).toNat)
                    case atStart => exact ⟨0, by omega, rfl, HP0.out, HKA.out⟩
                    case round =>
                      clear hwo HP0 HBW HKA
                      obtain ⟨j, hj, rfl, hbw, hka⟩ := hrel
                      have HBW := Lib.hid hbw
                      have HKA := Lib.hid hka
                      clear hbw hka
                      by_cases hjl : j < 4
                      · have Bj : (j : Int) < 4 := by omega
                        have hRS2 := HRA.out.new HKA.out hkpw hgw1 hgw2 HGM.out
                        obtain ⟨gm, om, hA2, cm⟩ := hRS2.byte (i := a + (4 * t + j)) (by omega)
                        rw [← HBY.out (4 * t + j) (by omega)] at cm
                        have cw := HBW.out.cell (fillP_at (wall_length B) htl)
                        have hfz := HBW.out.fr t
                        have hpl : pacc B t j < 16777216 := by
                          have h1 := pacc_lt B t j
                          have h2 : 256 ^ j ≤ 256 ^ 3 := Nat.pow_le_pow_right (by omega) (by omega)
                          omega
                        have hbl := byteN_ltR B (4 * t + j)
                        have hst : pacc B t (j + 1) = pacc B t j * 256 + byteN B (4 * t + j) := rfl
                        obtain ⟨bv, hbv⟩ : ∃ z, byteN B (4 * t + j) = z := ⟨_, rfl⟩
                        obtain ⟨pv, hpv⟩ : ∃ z, pacc B t j = z := ⟨_, rfl⟩
                        obtain ⟨nv, hnv⟩ : ∃ z, pv * 256 + bv = z := ⟨_, rfl⟩
                        rw [hbv, hpv, hnv] at hst
                        rw [hbv] at cm hbl
                        rw [hpv] at cw hpl HBW
                        obtain ⟨ix, hix⟩ : ∃ z, a + (4 * t + j) = z := ⟨_, rfl⟩
                        rw [hix] at cm
                        obtain ⟨t4, ht4⟩ : ∃ z, 4 * t = z := ⟨_, rfl⟩
                        obtain ⟨a4, ha4⟩ : ∃ z, a + t4 = z := ⟨_, rfl⟩
                        have e1 : IntKind.i64.wrap (4 * (t : Int)) = (t4 : Int) := by rw [IntKind.wrap_i64]; omega
                        have e2 : IntKind.i64.wrap ((a : Int) + (t4 : Int)) = (a4 : Int) := by rw [IntKind.wrap_i64]; omega
                        have e3 : IntKind.i64.wrap ((a4 : Int) + (j : Int)) = (ix : Int) := by rw [IntKind.wrap_i64]; omega
                        have e4 : IntKind.u32.wrap ((pv : Int) * 256) = (pv : Int) * 256 := by simp [IntKind.wrap, IntKind.signed, IntKind.bits]; omega
                        have e5 : IntKind.u32.wrap ((pv : Int) * 256 + (bv : Int)) = (nv : Int) := by simp [IntKind.wrap, IntKind.signed, IntKind.bits]; omega
                        have e6 : IntKind.i64.wrap ((j : Int) + 1) = (j : Int) + 1 := by rw [IntKind.wrap_i64]; omega
                        have Bix : (ix : Int) < (PM.length : Int) := by omega
                        have bix : ix < PM.length := by omega
                        have hz : Value.int .u32 ((pv : Int) * 256 + (bv : Int)) = .int .u32 ((pacc B t (j + 1) : Nat) : Int) := by rw [hst, ← hnv]; congr 1
                        have HZ := Lib.hid hz
                        clear hz
                        subst hA2
                        clear hst hbv hpv hnv hix ht4 ha4 hRS2
                        go_wp2_with fail
                        refine Reg.wp_region_plan [⟨0, false, []⟩, ⟨1, false, []⟩, ⟨2, false, []⟩, ⟨3, false, []⟩, ⟨4, false, []⟩, ⟨5, false, []⟩, ⟨6, false, []⟩, ⟨7, false, []⟩, ⟨8, false, []⟩, ⟨9, false, []⟩, ⟨10, false, []⟩, ⟨11, false, []⟩, ⟨12, false, []⟩, ⟨13, false, []⟩, ⟨14, false, []⟩, ⟨15, false, []⟩, ⟨16, false, []⟩, ⟨17, true, []⟩] rfl (by kernel_rfl) ?_
                        repeat (first | (refine Reg.look rfl rfl rfl (by go_simp; rfl) rfl ?_; go_simp) | (refine Reg.skip rfl rfl rfl ?_; go_simp))
                        refine Reg.act rfl ?_
                        go_wp2
                        refine ⟨Reg.anew_nil, ?_⟩
                        (refine Reg.done ?_; simp only [Exit.then])
                        go_wp2
                        go_roundw
                        case rel =>
                          refine ⟨j + 1, by omega, by go_num, ?_, (HKA.out.setCell (p := ⟨gw, t, none⟩) (fun _ => rfl) _).drew⟩
                          rw [HZ.out]
                          have h := HBW.out.set t (.int .u32 ((pacc B t (j + 1) : Nat) : Int))
                          rw [fillP_set] at h
                          exact h.drew
                        case measure => simp [intOf]; omega
                      · obtain rfl : j = 4 := by omega
                        rw [fillP_full (wall_length B) htl (by rw [wall_word B t h16]; exact pacc_four B t)] at HBW
                        go_wp2_with fail
                        go_roundw
                        case rel => exact ⟨t + 1, by omega, by go_num, HBW.out, HKA.out⟩
                        case measure => simp [intOf]; omega
                  · have T16 : ¬ (t : Int) < 16 := by omega
                    rename_i z0 z1 z2 z3 z4 z5 z6 z7 z8 z9 z10 z11 z12 z13 z14 z15 z16 z17 z18 z19 z20 z21 z22 z23 z24 z25 z26 z27 z28 z29 z30 z31 z32 z33 z34 z35 z36 z37 z38 z39 z40 z41 z42 z43 z44 z45 z46 z47 z48 z49 z50 z51 z52 z53 z54 z55 z56 z57 z58 z59 z60 z61 z62 z63 z64 z65 z66 z67 z68 z69 z70 z71 z72 z73 z74 z75 z76 z77 z78 z79 z80 z81 z82 z83 z84 z85 z86 z87 z88 z89 z90
                    revert z0 z5 z12 z86
                    as_aux_lemma =>
                      intros
                      have c16 := HBW.out.cell (fillR_at (wall_length B) ht (show t - 16 < t by omega))
                      have c15 := HBW.out.cell (fillR_at (wall_length B) ht (show t - 15 < t by omega))
                      have c7 := HBW.out.cell (fillR_at (wall_length B) ht (show t - 7 < t by omega))
                      have c2 := HBW.out.cell (fillR_at (wall_length B) ht (show t - 2 < t by omega))
                      have hnx := wall_next B t htl h16
                      obtain ⟨w0, hw0⟩ : ∃ x, (wall B).getD (t - 16) 0 = x := ⟨_, rfl⟩
                      obtain ⟨w7, hw7⟩ : ∃ x, (wall B).getD (t - 7) 0 = x := ⟨_, rfl⟩
                      obtain ⟨x, hw15⟩ : ∃ x, (wall B).getD (t - 15) 0 = x := ⟨_, rfl⟩
                      obtain ⟨y, hw2⟩ : ∃ x, (wall B).getD (t - 2) 0 = x := ⟨_, rfl⟩
                      obtain ⟨t16, h16e⟩ : ∃ n, t - 16 = n := ⟨_, rfl⟩
                      obtain ⟨t7, h7e⟩ : ∃ n, t - 7 = n := ⟨_, rfl⟩
                      obtain ⟨t15, h15e⟩ : ∃ n, t - 15 = n := ⟨_, rfl⟩
                      obtain ⟨t2, h2e⟩ : ∃ n, t - 2 = n := ⟨_, rfl⟩
                      rw [hw0, hw7, hw15, hw2] at hnx
                      rw [hw0, h16e] at c16
                      rw [hw7, h7e] at c7
                      rw [hw15, h15e] at c15
                      rw [hw2, h2e] at c2
                      unfold uv at c16 c7 c15 c2
                      have i16 : IntKind.i64.wrap ((t : Int) - 16) = (t16 : Int) := by rw [IntKind.wrap_i64]; omega
                      have i7 : IntKind.i64.wrap ((t : Int) - 7) = (t7 : Int) := by rw [IntKind.wrap_i64]; omega
                      have i15 : IntKind.i64.wrap ((t : Int) - 15) = (t15 : Int) := by rw [IntKind.wrap_i64]; omega
                      have i2 : IntKind.i64.wrap ((t : Int) - 2) = (t2 : Int) := by rw [IntKind.wrap_i64]; omega
                      have b16 : t16 < 64 := by omega
                      have b7 : t7 < 64 := by omega
                      have b15 : t15 < 64 := by omega
                      have b2 : t2 < 64 := by omega
                      have B16 : (t16 : Int) < 64 := by omega
                      have B7 : (t7 : Int) < 64 := by omega
                      have B15 : (t15 : Int) < 64 := by omega
                      have B2 : (t2 : Int) < 64 := by omega
                      have HX := Lib.hid hnx
                      have hfz := HBW.out.fr t
                      obtain ⟨u0, hu0⟩ : ∃ u, wr.cell? ⟨gw, t, none⟩ = some u := ⟨_, HBW.out.cell (List.getElem?_eq_getElem (by rw [fillR_length (wall_length B) ht]; exact htl))⟩
                      have s3 : un x / (8 : Int) = un (x >>> 3) := un_shr x 3
                      have s10 : un y / (1024 : Int) = un (y >>> 10) := un_shr y 10
                      have x1 := un_xor (rotr x 7) (rotr x 18)
                      have x2 := un_xor (rotr x 7 ^^^ rotr x 18) (x >>> 3)
                      have x3 := un_xor (rotr y 17) (rotr y 19)
                      have x4 := un_xor (rotr y 17 ^^^ rotr y 19) (y >>> 10)
                      have a1 := un_add w0 (rotr x 7 ^^^ rotr x 18 ^^^ (x >>> 3))
                      have a2 := un_add (w0 + (rotr x 7 ^^^ rotr x 18 ^^^ (x >>> 3))) w7
                      have a3 := un_add (w0 + (rotr x 7 ^^^ rotr x 18 ^^^ (x >>> 3)) + w7) (rotr y 17 ^^^ rotr y 19 ^^^ (y >>> 10))
                      clear hw0 hw7 hw15 hw2 h16e h7e h15e h2e hnx
                      go_wp2_with fail
                      refine Reg.wp_region_plan [⟨0, false, []⟩, ⟨1, false, []⟩, ⟨2, false, []⟩, ⟨3, false, []⟩, ⟨4, false, []⟩, ⟨5, false, []⟩, ⟨7, false, []⟩, ⟨10, false, []⟩, ⟨11, false, []⟩, ⟨14, false, []⟩, ⟨15, false, []⟩, ⟨16, false, []⟩, ⟨17, false, []⟩, ⟨19, false, []⟩, ⟨21, false, []⟩, ⟨24, false, []⟩, ⟨25, false, []⟩, ⟨6, true, [2, 3, 4, 11, 15, 16, 17, 25]⟩, ⟨8, true, [2, 3, 4, 11, 15, 16, 17, 25]⟩, ⟨9, false, []⟩, ⟨12, false, []⟩, ⟨13, false, []⟩, ⟨18, false, []⟩, ⟨20, true, [2, 3, 4, 9, 11, 12, 13, 15, 16, 17, 18, 25]⟩, ⟨22, true, [2, 3, 4, 9, 11, 12, 13, 15, 16, 17, 18, 25]⟩, ⟨23, false, []⟩, ⟨26, false, []⟩, ⟨27, false, []⟩, ⟨28, false, []⟩, ⟨29, true, []⟩] rfl (by kernel_rfl) ?_
                      repeat (first | (refine Reg.look rfl rfl rfl (by go_simp; rfl) rfl ?_; go_simp) | (refine Reg.skip rfl rfl rfl ?_; go_simp))
                      refine Reg.act rfl ?_
                      go_wp2_with fail
                      refine (r_rotk x 7 7 rfl (by omega) (by omega) _).mono ?_
                      rintro e w' ⟨rfl, n1, rfl⟩
                      go_wp2_with fail
                      (refine ⟨?anew, ?_⟩; case anew => ((repeat (refine Reg.anew_cons rfl rfl (fun _ => by go_simp) ?_)); exact Reg.anew_nil))
                      repeat (first | (refine Reg.look rfl rfl rfl (by go_simp; rfl) rfl ?_; go_simp) | (refine Reg.skip rfl rfl rfl ?_; go_simp))
                      refine Reg.act rfl ?_
                      go_wp2_with fail
                      refine (r_rotk x 18 18 rfl (by omega) (by omega) _).mono ?_
                      rintro e w' ⟨rfl, n2, rfl⟩
                      go_wp2_with fail
                      (refine ⟨?anew, ?_⟩; case anew => ((repeat (refine Reg.anew_cons rfl rfl (fun _ => by go_simp) ?_)); exact Reg.anew_nil))
                      repeat (first | (refine Reg.look rfl rfl rfl (by go_simp; rfl) rfl ?_; go_simp) | (refine Reg.skip rfl rfl rfl ?_; go_simp))
                      refine Reg.act rfl ?_
                      go_wp2_with fail
                      refine (r_rotk y 17 17 rfl (by omega) (by omega) _).mono ?_
                      rintro e w' ⟨rfl, n3, rfl⟩
                      go_wp2_with fail
                      (refine ⟨?anew, ?_⟩; case anew => ((repeat (refine Reg.anew_cons rfl rfl (fun _ => by go_simp) ?_)); exact Reg.anew_nil))
                      repeat (first | (refine Reg.look rfl rfl rfl (by go_simp; rfl) rfl ?_; go_simp) | (refine Reg.skip rfl rfl rfl ?_; go_simp))
                      refine Reg.act rfl ?_
                      go_wp2_with fail
                      refine (r_rotk y 19 19 rfl (by omega) (by omega) _).mono ?_
                      rintro e w' ⟨rfl, n4, rfl⟩
                      go_wp2_with fail
                      (refine ⟨?anew, ?_⟩; case anew => ((repeat (refine Reg.anew_cons rfl rfl (fun _ => by go_simp) ?_)); exact Reg.anew_nil))
                      repeat (first | (refine Reg.look rfl rfl rfl (by go_simp; rfl) rfl ?_; go_simp) | (refine Reg.skip rfl rfl rfl ?_; go_simp))
                      refine Reg.act rfl ?_
                      go_wp2
                      refine ⟨Reg.anew_nil, ?_⟩
                      (refine Reg.done ?_; simp only [Exit.then])
                      go_wp2
                      go_roundw
                      case rel =>
                        refine ⟨t + 1, by omega, by go_num, ?_, ?_⟩
                        · have h := HBW.out.set t (uv ((wall B).getD t 0))
                          rw [fillR_set (wall_length B) htl, HX.out] at h
                          exact h
                        · exact ((HKA.out.drewN _).setCell (p := ⟨gw, t, none⟩) (fun _ => rfl) _)
                      case measure => simp [intOf]; omega
                · obtain rfl : t = 64 := by omega
                  rw [show (((64 : Nat)) : Int) = 64 from rfl]
                  rw [fillR_full (wall_length B)] at HBW
                  have HRB := Lib.hid (HRA.out.new HKA.out hkpw hgw1 hgw2 HGM.out)
                  obtain ⟨sa, sb, sc, sd, se, sf, sg, sh⟩ := st
                  have c0 : wr.cell? ⟨w.heap.size, 0, none⟩ = some (.int .u32 (un sa)) := HRB.out.h.cell rfl
                  have c1 : wr.cell? ⟨w.heap.size, 1, none⟩ = some (.int .u32 (un sb)) := HRB.out.h.cell rfl
                  have c2 : wr.cell? ⟨w.heap.size, 2, none⟩ = some (.int .u32 (un sc)) := HRB.out.h.cell rfl
                  have c3 : wr.cell? ⟨w.heap.size, 3, none⟩ = some (.int .u32 (un sd)) := HRB.out.h.cell rfl
                  have c4 : wr.cell? ⟨w.heap.size, 4, none⟩ = some (.int .u32 (un se)) := HRB.out.h.cell rfl
                  have c5 : wr.cell? ⟨w.heap.size, 5, none⟩ = some (.int .u32 (un sf)) := HRB.out.h.cell rfl
                  have c6 : wr.cell? ⟨w.heap.size, 6, none⟩ = some (.int .u32 (un sg)) := HRB.out.h.cell rfl
                  have c7 : wr.cell? ⟨w.heap.size, 7, none⟩ = some (.int .u32 (un sh)) := HRB.out.h.cell rfl
                  have hgwl : gw < wr.heap.size := HBW.out.lt
                  have hgkl2 : gk < wr.heap.size := HRB.out.k.lt
                  have hghl2 : w.heap.size < wr.heap.size := HRB.out.h.lt
                  have hmlt : ∀ k, (Value.slice A2 PM.length cm2).ownBlock = some k → k < wr.heap.size := fun k hk => (HRB.out.m.lt k hk).2
                  have HMLT := Lib.hid hmlt
                  clear hmlt HRA HKA
                  go_wp2_with (refine wpList_store_new rfl wr 129 (.tmp 14) (.tmp 116) rfl rfl ((⟨sa, sb, sc, sd, se, sf, sg, sh⟩ : S8).l.map uv).toArray _ rfl ?s1 ?s2 ?s3 ?_)
                  case s1 => kernel_rfl
                  case s2 => rfl
                  case s3 => kernel_rfl
                  clear c0 c1 c2 c3 c4 c5 c6 c7
                  obtain ⟨gv, hgv⟩ : ∃ g, wr.heap.size = g := ⟨_, rfl⟩
                  have HVB : Hid (Blk (wr.alloc (.cells ((⟨sa, sb, sc, sd, se, sf, sg, sh⟩ : S8).l.map uv).toArray 129)) gv 129 ((⟨sa, sb, sc, sd, se, sf, sg, sh⟩ : S8).l.map uv)) := Lib.hid (by rw [← hgv]; exact Blk.new wr _ _)
                  have HWB : Hid (Blk (wr.alloc (.cells ((⟨sa, sb, sc, sd, se, sf, sg, sh⟩ : S8).l.map uv).toArray 129)) gw 135 ((wall B).map uv)) := Lib.hid (HBW.out.kept (S := No) ((Kp.refl _ _).alloc _) (fun x => x))
                  have HRC := Lib.hid (HRB.out.keptNo (wr' := wr.alloc (.cells ((⟨sa, sb, sc, sd, se, sf, sg, sh⟩ : S8).l.map uv).toArray 129)) ((Kp.refl _ _).alloc _))
                  have HGM2 : Hid ((Value.slice A2 PM.length cm2).ownBlock ≠ some gv) := Lib.hid (fun h => by have := HMLT.out _ h; omega)
                  rw [hgv] at hgwl hgkl2 hghl2 ⊢
                  generalize (wr.alloc (.cells ((⟨sa, sb, sc, sd, se, sf, sg, sh⟩ : S8).l.map uv).toArray 129)) = wB at *
                  obtain ⟨st, hst⟩ : ∃ st : S8, (⟨sa, sb, sc, sd, se, sf, sg, sh⟩ : S8) = st := ⟨_, rfl⟩
                  rw [hst] at HVB HRC HNX
                  have HR0 : Hid (rnds B st 0 = st) := Lib.hid rfl
                  clear HRB HMLT HBW hst
                  have hgv1 : gv ≠ w.heap.size := by omega
                  have hgv2 : gv ≠ gk := by omega
                  have hgv3 : gv ≠ gw := by omega
                  have hwgv : w.heap.size ≤ gv := by omega
                  clear hgv
                  obtain ⟨wo, hwo⟩ : ∃ wo : World, wo = wB := ⟨_, rfl⟩
                  go_loopw [15] (fun iv wr => ∃ (t : Nat) (r : S8), t ≤ 64 ∧ iv = .int .i64 (t : Int) ∧ Hid (rnds B st t = r) ∧ Blk wr gv 129 (r.l.map uv) ∧ Kp (· = gv) wB wr) (fun iv _ => 64 - (intOf iv).toNat)
                  case atStart => exact ⟨0, st, by omega, rfl, HR0, HVB.out, Kp.refl _ _⟩
                  case round =>
                    clear hwo HVB HR0
                    obtain ⟨t, ⟨ra, rb, rc, rd, re, rf, rg, rh⟩, ht, rfl, HR, hbv, hka⟩ := hrel
                    have HBV := Lib.hid hbv
                    have HKB := Lib.hid hka
                    clear hbv hka
                    by_cases htl : t < 64
                    · skip
                      obtain ⟨kt, hkt⟩ : ∃ x, K64.getD t 0 = x := ⟨_, rfl⟩
                      obtain ⟨wt, hwt⟩ : ∃ x, (wall B).getD t 0 = x := ⟨_, rfl⟩
                      have ck : wr.cell? ⟨gk, t, none⟩ = some (.int .u32 (un kt)) := by
                        have h := (HRC.out.k.kept HKB.out (fun e => hgv2 e.symm)).cell (i := t) (u := uv kt) (by rw [List.getElem?_map, List.getElem?_eq_getElem (show t < K64.length from htl), ← hkt, List.getD_eq_getElem?_getD, List.getElem?_eq_getElem (show t < K64.length from htl)]; rfl)
                        exact h
                      have cw : wr.cell? ⟨gw, t, none⟩ = some (.int .u32 (un wt)) := by
                        have h := (HWB.out.kept HKB.out (fun e => hgv3 e.symm)).cell (i := t) (u := uv wt) (by rw [List.getElem?_map, List.getElem?_eq_getElem (show t < (wall B).length by rw [wall_length]; exact htl), ← hwt, List.getD_eq_getElem?_getD, List.getElem?_eq_getElem (show t < (wall B).length by rw [wall_length]; exact htl)]; rfl)
                        exact h
                      have hnext : Hid (rnds B st (t + 1) = rnd ⟨ra, rb, rc, rd, re, rf, rg, rh⟩ kt wt) := Lib.hid (by rw [rnds, HR.out, hkt, show (wpre B 64).getD t 0 = wt from hwt])
                      have Bt : (t : Int) < 64 := by omega
                      have v0 : wr.cell? ⟨gv, 0, none⟩ = some (.int .u32 (un ra)) := HBV.out.cell rfl
                      have v1 : wr.cell? ⟨gv, 1, none⟩ = some (.int .u32 (un rb)) := HBV.out.cell rfl
                      have v2 : wr.cell? ⟨gv, 2, none⟩ = some (.int .u32 (un rc)) := HBV.out.cell rfl
                      have v3 : wr.cell? ⟨gv, 3, none⟩ = some (.int .u32 (un rd)) := HBV.out.cell rfl
                      have v4 : wr.cell? ⟨gv, 4, none⟩ = some (.int .u32 (un re)) := HBV.out.cell rfl
                      have v5 : wr.cell? ⟨gv, 5, none⟩ = some (.int .u32 (un rf)) := HBV.out.cell rfl
                      have v6 : wr.cell? ⟨gv, 6, none⟩ = some (.int .u32 (un rg)) := HBV.out.cell rfl
                      have v7 : wr.cell? ⟨gv, 7, none⟩ = some (.int .u32 (un rh)) := HBV.out.cell rfl
                      have m1 := un_add rh (big1 re)
                      have m2 := un_and re rf
                      have m3 := un_notR re
                      have m4 := un_and (~~~re) rg
                      have m5 : bits .xor .u32 (un (re &&& rf)) (un (~~~re &&& rg)) = un (ch re rf rg) := un_xor _ _
                      have m6 := un_add (rh + big1 re) (ch re rf rg)
                      have m7 := un_add (rh + big1 re + ch re rf rg) kt
                      obtain ⟨one, hone⟩ : ∃ x, rh + big1 re + ch re rf rg + kt + wt = x := ⟨_, rfl⟩
                      have m8 := un_add (rh + big1 re + ch re rf rg + kt) wt
                      rw [hone] at m8
                      have m9 := un_and ra rb
                      have m10 := un_and ra rc
                      have m11 := un_and rb rc
                      have m12 := un_xor (ra &&& rb) (ra &&& rc)
                      have m13 : bits .xor .u32 (un ((ra &&& rb) ^^^ (ra &&& rc))) (un (rb &&& rc)) = un (maj ra rb rc) := un_xor _ _
                      obtain ⟨two, htwo⟩ : ∃ x, big0 ra + maj ra rb rc = x := ⟨_, rfl⟩
                      have m14 := un_add (big0 ra) (maj ra rb rc)
                      rw [htwo] at m14
                      have m15 := un_add one two
                      have m16 := un_add rd one
                      have x1 := un_xor (rotr re 6) (rotr re 11)
                      have x2 : bits .xor .u32 (un (rotr re 6 ^^^ rotr re 11)) (un (rotr re 25)) = un (big1 re) := un_xor _ _
                      have x3 := un_xor (rotr ra 2) (rotr ra 13)
                      have x4 : bits .xor .u32 (un (rotr ra 2 ^^^ rotr ra 13)) (un (rotr ra 22)) = un (big0 ra) := un_xor _ _
                      have hnext2 : Hid (rnds B st (t + 1) = ⟨one + two, ra, rb, rc, rd + one, re, rf, rg⟩) := Lib.hid (by rw [hnext.out]; unfold rnd; simp only [hone, htwo])
                      clear hnext hone htwo hkt hwt
                      go_wp2_with fail
                      refine Reg.wp_region_plan [⟨0, false, []⟩, ⟨1, false, []⟩, ⟨2, false, []⟩, ⟨4, false, []⟩, ⟨7, false, []⟩, ⟨11, false, []⟩, ⟨12, false, []⟩, ⟨13, false, []⟩, ⟨14, false, []⟩, ⟨15, false, []⟩, ⟨16, false, []⟩, ⟨17, false, []⟩, ⟨18, false, []⟩, ⟨19, false, []⟩, ⟨20, false, []⟩, ⟨22, false, []⟩, ⟨23, false, []⟩, ⟨24, false, []⟩, ⟨26, false, []⟩, ⟨27, false, []⟩, ⟨28, false, []⟩, ⟨3, true, [0, 1, 12, 13, 14, 16, 17, 18, 19, 20, 23, 24, 27, 28]⟩, ⟨5, true, [0, 1, 12, 13, 14, 16, 17, 18, 19, 20, 23, 24, 27, 28]⟩, ⟨6, false, []⟩, ⟨8, true, [0, 1, 6, 12, 13, 14, 16, 17, 18, 19, 20, 23, 24, 27, 28]⟩, ⟨9, false, []⟩, ⟨10, false, []⟩, ⟨21, false, []⟩, ⟨25, false, []⟩, ⟨29, false, []⟩, ⟨30, false, []⟩] rfl (by kernel_rfl) ?_
                      repeat (first | (refine Reg.look rfl rfl rfl (by go_simp; rfl) rfl ?_; go_simp) | (refine Reg.skip rfl rfl rfl ?_; go_simp))
                      refine Reg.act rfl ?_
                      go_wp2_with fail
                      refine (r_rotk re 6 6 rfl (by omega) (by omega) _).mono ?_
                      rintro e w' ⟨rfl, n1, rfl⟩
                      go_wp2_with fail
                      (refine ⟨?anew, ?_⟩; case anew => ((repeat (refine Reg.anew_cons rfl rfl (fun _ => by go_simp) ?_)); exact Reg.anew_nil))
                      repeat (first | (refine Reg.look rfl rfl rfl (by go_simp; rfl) rfl ?_; go_simp) | (refine Reg.skip rfl rfl rfl ?_; go_simp))
                      refine Reg.act rfl ?_
                      go_wp2_with fail
                      refine (r_rotk re 11 11 rfl (by omega) (by omega) _).mono ?_
                      rintro e w' ⟨rfl, n2, rfl⟩
                      go_wp2_with fail
                      (refine ⟨?anew, ?_⟩; case anew => ((repeat (refine Reg.anew_cons rfl rfl (fun _ => by go_simp) ?_)); exact Reg.anew_nil))
                      repeat (first | (refine Reg.look rfl rfl rfl (by go_simp; rfl) rfl ?_; go_simp) | (refine Reg.skip rfl rfl rfl ?_; go_simp))
                      refine Reg.act rfl ?_
                      go_wp2_with fail
                      refine (r_rotk re 25 25 rfl (by omega) (by omega) _).mono ?_
                      rintro e w' ⟨rfl, n3, rfl⟩
                      go_wp2_with fail
                      (refine ⟨?anew, ?_⟩; case anew => ((repeat (refine Reg.anew_cons rfl rfl (fun _ => by go_simp) ?_)); exact Reg.anew_nil))
                      repeat (first | (refine Reg.look rfl rfl rfl (by go_simp; rfl) rfl ?_; go_simp) | (refine Reg.skip rfl rfl rfl ?_; go_simp))
                      (refine Reg.done ?_; simp only [Exit.then])
                      go_wp2_with fail
                      refine Reg.wp_region_plan [⟨0, false, []⟩, ⟨2, false, []⟩, ⟨5, false, []⟩, ⟨8, false, []⟩, ⟨9, false, []⟩, ⟨10, false, []⟩, ⟨11, false, []⟩, ⟨12, false, []⟩, ⟨13, false, []⟩, ⟨14, false, []⟩, ⟨15, false, []⟩, ⟨16, false, []⟩, ⟨17, false, []⟩, ⟨18, false, []⟩, ⟨19, false, []⟩, ⟨20, false, []⟩, ⟨21, false, []⟩, ⟨22, false, []⟩, ⟨1, true, [9, 10, 11, 13, 14, 15, 16, 17, 18, 19, 20, 21, 22]⟩, ⟨3, true, [9, 10, 11, 13, 14, 15, 16, 17, 18, 19, 20, 21, 22]⟩, ⟨4, false, []⟩, ⟨6, true, [4, 9, 10, 11, 13, 14, 15, 16, 17, 18, 19, 20, 21, 22]⟩, ⟨7, false, []⟩, ⟨23, false, []⟩, ⟨24, false, []⟩] rfl (by kernel_rfl) ?_
                      repeat (first | (refine Reg.look rfl rfl rfl (by go_simp; rfl) rfl ?_; go_simp) | (refine Reg.skip rfl rfl rfl ?_; go_simp))
                      refine Reg.act rfl ?_
                      go_wp2_with fail
                      refine (r_rotk ra 2 2 rfl (by omega) (by omega) _).mono ?_
                      rintro e w' ⟨rfl, n4, rfl⟩
                      go_wp2_with fail
                      (refine ⟨?anew, ?_⟩; case anew => ((repeat (refine Reg.anew_cons rfl rfl (fun _ => by go_simp) ?_)); exact Reg.anew_nil))
                      repeat (first | (refine Reg.look rfl rfl rfl (by go_simp; rfl) rfl ?_; go_simp) | (refine Reg.skip rfl rfl rfl ?_; go_simp))
                      refine Reg.act rfl ?_
                      go_wp2_with fail
                      refine (r_rotk ra 13 13 rfl (by omega) (by omega) _).mono ?_
                      rintro e w' ⟨rfl, n5, rfl⟩
                      go_wp2_with fail
                      (refine ⟨?anew, ?_⟩; case anew => ((repeat (refine Reg.anew_cons rfl rfl (fun _ => by go_simp) ?_)); exact Reg.anew_nil))
                      repeat (first | (refine Reg.look rfl rfl rfl (by go_simp; rfl) rfl ?_; go_simp) | (refine Reg.skip rfl rfl rfl ?_; go_simp))
                      refine Reg.act rfl ?_
                      go_wp2_with fail
                      refine (r_rotk ra 22 22 rfl (by omega) (by omega) _).mono ?_
                      rintro e w' ⟨rfl, n6, rfl⟩
                      go_wp2_with fail
                      (refine ⟨?anew, ?_⟩; case anew => ((repeat (refine Reg.anew_cons rfl rfl (fun _ => by go_simp) ?_)); exact Reg.anew_nil))
                      repeat (first | (refine Reg.look rfl rfl rfl (by go_simp; rfl) rfl ?_; go_simp) | (refine Reg.skip rfl rfl rfl ?_; go_simp))
                      (refine Reg.done ?_; simp only [Exit.then])
                      have HB5 : Hid (Blk (wr.drewN (1 + n1 + n2 + n3 + 1 + n4 + n5 + n6)) gv 129 ((⟨ra, rb, rc, rd, re, rf, rg, rh⟩ : S8).l.map uv)) := Lib.hid HBV.out
                      have HK5 : Hid (Kp (· = gv) wB (wr.drewN (1 + n1 + n2 + n3 + 1 + n4 + n5 + n6))) := Lib.hid (HKB.out.drewN _)
                      generalize (wr.drewN (1 + n1 + n2 + n3 + 1 + n4 + n5 + n6)) = w5 at *
                      clear v0 v1 v2 v3 v4 v5 v6 v7 ck cw m1 m2 m3 m4 m5 m6 m7 m8 m9 m10 m11 m12 m13 m14 x1 x2 x3 x4
                      have v0 : w5.cell? ⟨gv, 0, none⟩ = some (.int .u32 (un ra)) := HB5.out.cell rfl
                      have v1 : w5.cell? ⟨gv, 1, none⟩ = some (.int .u32 (un rb)) := HB5.out.cell rfl
                      have v2 : w5.cell? ⟨gv, 2, none⟩ = some (.int .u32 (un rc)) := HB5.out.cell rfl
                      have v3 : w5.cell? ⟨gv, 3, none⟩ = some (.int .u32 (un rd)) := HB5.out.cell rfl
                      have v4 : w5.cell? ⟨gv, 4, none⟩ = some (.int .u32 (un re)) := HB5.out.cell rfl
                      have v5 : w5.cell? ⟨gv, 5, none⟩ = some (.int .u32 (un rf)) := HB5.out.cell rfl
                      have v6 : w5.cell? ⟨gv, 6, none⟩ = some (.int .u32 (un rg)) := HB5.out.cell rfl
                      go_wp2_with (refine wpList_store_row rfl w5 129 (.tmp 14) (.tmp 198) rfl gv rfl ((⟨one + two, ra, rb, rc, rd + one, re, rf, rg⟩ : S8).l.map uv).toArray _ rfl HB5.out ?s1 ?s2 ?s3 ?_)
                      case s1 => kernel_rfl
                      case s2 => rfl
                      case s3 => kernel_rfl
                      go_roundw
                      case rel =>
                        refine ⟨t + 1, ⟨one + two, ra, rb, rc, rd + one, re, rf, rg⟩, by omega, by go_num, hnext2, setRow_heap w5 gv _ _ _ _ HB5.out, ?_⟩
                        exact HK5.out.trans ⟨rfl, rfl, by simp, fun k _ hk => setRow_other w5 gv k _ hk⟩ (fun i hi e => e)
                      case measure => simp [intOf]; omega
                    · rename_i z0 z1 z2 z3 z4 z5 z6 z7 z8 z9 z10 z11 z12 z13 z14 z15 z16 z17 z18 z19 z20 z21 z22 z23 z24 z25 z26 z27 z28 z29 z30 z31 z32 z33 z34 z35 z36 z37 z38 z39 z40 z41 z42 z43 z44 z45 z46 z47 z48 z49 z50 z51 z52 z53 z54 z55 z56 z57 z58 z59 z60 z61 z62 z63 z64 z65 z66 z67 z68 z69 z70 z71 z72 z73 z74 z75 z76 z77 z78 z79 z80 z81 z82 z83 z84 z85 z86 z87 z88 z89 z90 z91 z92 z93 z94 z95 z96 z97 z98 z99 z100 z101 z102 z103 z104 z105 z106 z107 z108 z109 z110 z111 z112 z113 z114 z115 z116 z117 z118 z119 z120 z121 z122 z123 z124 z125 z126 z127 z128 z129 z130 z131 z132 z133 z134 z135 z136 z137 z138 z139 z140 z141 z142 z143 z144 z145 z146 z147 z148 z149 z150 z151 z152 z153 z154 z155 z156 z157 z158 z159 z160 z161 z162 z163 z164 z165 z166 z167 z168 z169 z170 z171 z172 z173 z174 z175 z176 z177 z178 z179 z180 z181 z182 z183 z184
                      revert z0 z5 z12 z172 z180
                      as_aux_lemma =>
                        intros
                        obtain rfl : t = 64 := by omega
                        rw [show (((64 : Nat)) : Int) = 64 from rfl]
                        have HRD := Lib.hid (HRC.out.new HKB.out hwgv hgv1 hgv2 HGM2.out)
                        obtain ⟨sa, sb, sc, sd, se, sf, sg, sh⟩ := st
                        have HMIX : Hid (RS w w.heap.size gk (.slice A2 PM.length cm2) PM (mixR ⟨sa, sb, sc, sd, se, sf, sg, sh⟩ ⟨ra, rb, rc, rd, re, rf, rg, rh⟩ 0) wr) := Lib.hid HRD.out
                        clear HRC HKB HWB HRD
                        go_wp2_with fail
                        obtain ⟨wo, hwo⟩ : ∃ wo : World, wo = wr := ⟨_, rfl⟩
                        go_loopw [20] (fun iv wr => ∃ k : Nat, k ≤ 8 ∧ iv = .int .i64 (k : Int) ∧ RS w w.heap.size gk (.slice A2 PM.length cm2) PM (mixR ⟨sa, sb, sc, sd, se, sf, sg, sh⟩ ⟨ra, rb, rc, rd, re, rf, rg, rh⟩ k) wr ∧ Blk wr gv 129 ((⟨ra, rb, rc, rd, re, rf, rg, rh⟩ : S8).l.map uv)) (fun iv _ => 8 - (intOf iv).toNat)
                        case atStart => exact ⟨0, by omega, rfl, HMIX.out, HBV.out⟩
                        case round =>
                          clear hwo HMIX HBV
                          obtain ⟨k, hk, rfl, hrs, hbv⟩ := hrel
                          have HRS := Lib.hid hrs
                          have HBV := Lib.hid hbv
                          clear hrs hbv
                          by_cases hkl : k < 8
                          · have hcase : ∃ x y : W, wr.cell? ⟨w.heap.size, k, none⟩ = some (.int .u32 (un x)) ∧ wr.cell? ⟨gv, k, none⟩ = some (.int .u32 (un y)) ∧ ((mixR ⟨sa, sb, sc, sd, se, sf, sg, sh⟩ ⟨ra, rb, rc, rd, re, rf, rg, rh⟩ k).map uv).set k (uv (x + y)) = (mixR ⟨sa, sb, sc, sd, se, sf, sg, sh⟩ ⟨ra, rb, rc, rd, re, rf, rg, rh⟩ (k + 1)).map uv := by
                              rcases (by omega : k = 0 ∨ k = 1 ∨ k = 2 ∨ k = 3 ∨ k = 4 ∨ k = 5 ∨ k = 6 ∨ k = 7) with rfl | rfl | rfl | rfl | rfl | rfl | rfl | rfl
                              · exact ⟨sa, ra, HRS.out.h.cell rfl, HBV.out.cell rfl, rfl⟩
                              · exact ⟨sb, rb, HRS.out.h.cell rfl, HBV.out.cell rfl, rfl⟩
                              · exact ⟨sc, rc, HRS.out.h.cell rfl, HBV.out.cell rfl, rfl⟩
                              · exact ⟨sd, rd, HRS.out.h.cell rfl, HBV.out.cell rfl, rfl⟩
                              · exact ⟨se, re, HRS.out.h.cell rfl, HBV.out.cell rfl, rfl⟩
                              · exact ⟨sf, rf, HRS.out.h.cell rfl, HBV.out.cell rfl, rfl⟩
                              · exact ⟨sg, rg, HRS.out.h.cell rfl, HBV.out.cell rfl, rfl⟩
                              · exact ⟨sh, rh, HRS.out.h.cell rfl, HBV.out.cell rfl, rfl⟩
                            obtain ⟨x, y, cx, cy, hset⟩ := hcase
                            have hfz := HRS.out.h.fr k
                            have mm := un_add x y
                            have Bk : (k : Int) < 8 := by omega
                            have hne := HRS.out.m.ne_blk HRS.out.h (by decide)
                            have HNE := Lib.hid hne
                            have HSET := Lib.hid hset
                            clear hset hne
                            go_wp2_with fail
                            refine Reg.wp_region_plan [⟨0, false, []⟩, ⟨1, false, []⟩, ⟨2, false, []⟩, ⟨3, false, []⟩, ⟨4, false, []⟩, ⟨5, false, []⟩, ⟨6, false, []⟩, ⟨7, false, []⟩, ⟨8, true, []⟩] rfl (by kernel_rfl) ?_
                            repeat (first | (refine Reg.look rfl rfl rfl (by go_simp; rfl) rfl ?_; go_simp) | (refine Reg.skip rfl rfl rfl ?_; go_simp))
                            refine Reg.act rfl ?_
                            go_wp2
                            refine ⟨Reg.anew_nil, ?_⟩
                            (refine Reg.done ?_; simp only [Exit.then])
                            go_wp2
                            go_roundw
                            case rel =>
                              have hkk : Kp (· = w.heap.size) wr (wr.setCell ⟨w.heap.size, k, none⟩ (.int .u32 (un (x + y)))) := (Kp.refl (· = w.heap.size) wr).setCell (p := ⟨w.heap.size, k, none⟩) (fun _ => rfl) _
                              refine ⟨k + 1, by omega, by go_num, ⟨?_, ?_, ?_, ?_⟩, ?_⟩
                              · have h := HRS.out.h.set k (uv (x + y))
                                rw [HSET.out] at h
                                exact h.drew
                              · exact (HRS.out.k.kept hkk (fun e => by omega)).drew
                              · exact (HRS.out.m.kept hkk (fun k hk e => HNE.out (by rw [hk, e]))).keptNo ((Kp.refl _ _).drew)
                              · exact (HRS.out.kp.setCell (p := ⟨w.heap.size, k, none⟩) (fun h => absurd h (by show ¬ w.heap.size < _; omega)) _).drew
                              · exact (HBV.out.kept hkk (fun e => hgv1 e)).drew
                            case measure => simp [intOf]; omega
                          · obtain rfl : k = 8 := by omega
                            rw [show (((8 : Nat)) : Int) = 8 from rfl]
                            have hcm : mixR ⟨sa, sb, sc, sd, se, sf, sg, sh⟩ ⟨ra, rb, rc, rd, re, rf, rg, rh⟩ 8 = (comp ⟨sa, sb, sc, sd, se, sf, sg, sh⟩ B).l := by
                              unfold comp; rw [HR.out]; rfl
                            rw [hcm, ← HNX.out] at HRS
                            clear hcm
                            go_wp2_with fail
                            go_roundw
                            case rel => exact ⟨q + 1, a + 64, by go_num, Lib.hid (by have := HA.out; omega), by omega, by omega, HRS.out⟩
                            case measure => simp [intOf]; omega
            · rename_i z0 z1 z2 z3 z4 z5 z6 z7 z8 z9 z10 z11 z12 z13 z14 z15 z16
              revert z0 z5 z12
              as_aux_lemma =>
                intros
                have hq : q = PM.length / 64 := by have := HA.out; omega
                have hfin' := hfin.out
                rw [← hq] at hfin'
                obtain ⟨st, hs8⟩ : ∃ st, comps PM H0 q = st := ⟨_, rfl⟩
                rw [hs8] at hfin' HRS
                obtain ⟨sa, sb, sc, sd, se, sf, sg, sh⟩ := st
                have HB8 := Lib.hid HRS.out.h
                have HK8 := Lib.hid HRS.out.kp
                have HFIN := Lib.hid hfin'
                clear hq hs8 HRS HMLT HA hfin hfin'
                go_wp2_with fail
                obtain ⟨wo, hwo⟩ : ∃ wo : World, wo = wr := ⟨_, rfl⟩
                go_loopw [21, 22] (fun ov iv wr => ∃ j : Nat, j ≤ 8 ∧ iv = .int .i64 (j : Int) ∧ Own Rp.byte wr No w.heap.size 5 ov (((⟨sa, sb, sc, sd, se, sf, sg, sh⟩ : S8).l.take j).map bytes4).flatten ∧ Blk wr w.heap.size 129 ((⟨sa, sb, sc, sd, se, sf, sg, sh⟩ : S8).l.map uv) ∧ Kp No w wr) (fun _ iv _ => 8 - (intOf iv).toNat)
                case atStart => exact ⟨0, by omega, rfl, Own.lit (heap_alloc_new wr _) (by omega), HB8.out.kept (S := No) ((Kp.refl _ _).alloc _) (fun x => x), HK8.out.alloc _⟩
                case round =>
                  clear hwo HB8 HK8
                  obtain ⟨j, hj, rfl, hown, hbk, hkp⟩ := hrel
                  obtain ⟨Av2, cv2, rfl⟩ := hown.shape
                  have HO := Lib.hid hown
                  have HB := Lib.hid hbk
                  have HK := Lib.hid hkp
                  clear hown hbk hkp
                  by_cases hj2 : j < 8
                  · have hd : ∃ X : Nat, X < 4294967296 ∧ wr.cell? ⟨w.heap.size, j, none⟩ = some (.int .u32 (X : Int)) ∧ ((⟨sa, sb, sc, sd, se, sf, sg, sh⟩ : S8).l.take (j + 1)).map bytes4 = ((⟨sa, sb, sc, sd, se, sf, sg, sh⟩ : S8).l.take j).map bytes4 ++ [[UInt8.ofNat (X / 16777216), UInt8.ofNat (X / 65536), UInt8.ofNat (X / 256), UInt8.ofNat X]] := by
                      rcases (by omega : j = 0 ∨ j = 1 ∨ j = 2 ∨ j = 3 ∨ j = 4 ∨ j = 5 ∨ j = 6 ∨ j = 7) with rfl | rfl | rfl | rfl | rfl | rfl | rfl | rfl
                      · exact ⟨sa.toNat, un_lt _, HB.out.cell rfl, rfl⟩
                      · exact ⟨sb.toNat, un_lt _, HB.out.cell rfl, rfl⟩
                      · exact ⟨sc.toNat, un_lt _, HB.out.cell rfl, rfl⟩
                      · exact ⟨sd.toNat, un_lt _, HB.out.cell rfl, rfl⟩
                      · exact ⟨se.toNat, un_lt _, HB.out.cell rfl, rfl⟩
                      · exact ⟨sf.toNat, un_lt _, HB.out.cell rfl, rfl⟩
                      · exact ⟨sg.toNat, un_lt _, HB.out.cell rfl, rfl⟩
                      · exact ⟨sh.toNat, un_lt _, HB.out.cell rfl, rfl⟩
                    obtain ⟨X, hX, hcell, htk⟩ := hd
                    obtain ⟨D, hD⟩ : ∃ D, (((⟨sa, sb, sc, sd, se, sf, sg, sh⟩ : S8).l.take j).map bytes4).flatten = D := ⟨_, rfl⟩
                    have hDl : D.length ≤ 32 := by
                      rw [← hD]
                      rcases (by omega : j = 0 ∨ j = 1 ∨ j = 2 ∨ j = 3 ∨ j = 4 ∨ j = 5 ∨ j = 6 ∨ j = 7) with rfl | rfl | rfl | rfl | rfl | rfl | rfl | rfl <;> simp [S8.l, bytes4]
                    have htk2 : (((⟨sa, sb, sc, sd, se, sf, sg, sh⟩ : S8).l.take (j + 1)).map bytes4).flatten = D ++ [UInt8.ofNat (X / 16777216), UInt8.ofNat (X / 65536), UInt8.ofNat (X / 256), UInt8.ofNat X] := by rw [htk, List.flatten_append, hD]; rfl
                    rw [hD] at HO
                    rw [hD]
                    obtain ⟨b0, hb0⟩ : ∃ b, UInt8.ofNat (X / 16777216) = b := ⟨_, rfl⟩
                    obtain ⟨b1, hb1⟩ : ∃ b, UInt8.ofNat (X / 65536) = b := ⟨_, rfl⟩
                    obtain ⟨b2, hb2⟩ : ∃ b, UInt8.ofNat (X / 256) = b := ⟨_, rfl⟩
                    obtain ⟨b3, hb3⟩ : ∃ b, UInt8.ofNat X = b := ⟨_, rfl⟩
                    have hcs : [Value.int .u8 ((X : Int) / 16777216), Value.int .u8 ((X : Int) / 65536 % 256), Value.int .u8 ((X : Int) / 256 % 256), Value.int .u8 ((X : Int) % 256)] = [b0, b1, b2, b3].map byteOf := by
                      rw [← hb0, ← hb1, ← hb2, ← hb3]
                      simp only [List.map_cons, List.map_nil, byte_nat]
                      rw [show ((X / 16777216 % 256 : Nat) : Int) = (X : Int) / 16777216 by omega]
                      rfl
                    rw [hb0, hb1, hb2, hb3] at htk2
                    have HTK := Lib.hid htk2
                    have HCS := Lib.hid hcs
                    have Bj : (j : Int) < 8 := by omega
                    have hne : (Value.slice Av2 D.length cv2).ownBlock ≠ some w.heap.size := by
                      intro h
                      obtain ⟨cs, h1⟩ := HO.out.block h
                      have h2 := HB.out
                      unfold Blk at h2
                      rw [h1] at h2
                      injection h2 with h2
                      injection h2 with _ h2
                      exact absurd h2 (by decide)
                    have HNE := Lib.hid hne
                    have hblt := HB.out.lt
                    have hnew : w.heap.size ≠ wr.heap.size := by omega
                    clear hcs hb0 hb1 hb2 hb3 hD htk htk2 hne
                    go_wp2_with fail
                    refine Reg.wp_region_plan [⟨0, false, []⟩, ⟨1, false, []⟩, ⟨2, false, []⟩, ⟨3, false, []⟩, ⟨4, false, []⟩, ⟨5, false, []⟩, ⟨6, false, []⟩, ⟨7, false, []⟩, ⟨8, false, []⟩, ⟨9, false, []⟩, ⟨10, false, []⟩, ⟨11, false, []⟩, ⟨12, false, []⟩, ⟨13, false, []⟩, ⟨14, false, []⟩, ⟨15, false, []⟩, ⟨16, false, []⟩, ⟨17, false, []⟩, ⟨18, false, []⟩, ⟨19, false, []⟩, ⟨20, true, []⟩, ⟨21, true, []⟩, ⟨22, false, []⟩] rfl (by kernel_rfl) ?_
                    repeat (first | (refine Reg.look rfl rfl rfl (by go_simp; rfl) rfl ?_; go_simp) | (refine Reg.skip rfl rfl rfl ?_; go_simp))
                    refine Reg.act rfl ?_
                    go_wp2
                    (refine ⟨?anew, ?_⟩; case anew => ((repeat (refine Reg.anew_cons rfl rfl (fun _ => by go_simp) ?_)); exact Reg.anew_nil))
                    refine Reg.act rfl ?_
                    refine wpList_append_lit Rp.byte_by rfl _ (.tmp 216) (.tmp 236) 131 rfl w.heap.size 5 1 bytely.elem (.slice Av2 D.length cv2) D rfl No ?d0 wr.heap.size [b0, b1, b2, b3] rfl _ _ _ (heap_alloc_new wr _) ?d1 ?d2 ?d3 ?d4 ?d5 ?d6 ?_
                    case d0 => exact (HO.out.alloc _).drew
                    case d1 => have h := HCS.out; simpa using h
                    case d2 => exact fun _ _ => trivial
                    case d3 => simp [maxLen]; omega
                    case d4 => simp; omega
                    case d5 => have := HK.out.size; simp; omega
                    case d6 => intro h; have := (HO.out.lt _ h).2; omega
                    intro A3 c3 w3 hown hkr
                    have HO3 := Lib.hid hown
                    have HB3 := Lib.hid (((HB.out.kept (S := No) ((Kp.refl _ _).alloc _) (fun x => x)).drew).kept hkr (fun e => HNE.out e))
                    have HK3 := Lib.hid (((HK.out.alloc _).drew).trans hkr (fun i hi hv => absurd (HO.out.lt i hv).1 (by omega)))
                    clear hown hkr
                    go_wp2
                    (refine ⟨?anew, ?_⟩; case anew => ((repeat (refine Reg.anew_cons rfl rfl (fun _ => by go_simp) ?_)); exact Reg.anew_nil))
                    repeat (first | (refine Reg.look rfl rfl rfl (by go_simp; rfl) rfl ?_; go_simp) | (refine Reg.skip rfl rfl rfl ?_; go_simp))
                    (refine Reg.done ?_; simp only [Exit.then])
                    go_wp2
                    go_roundw
                    case rel =>
                      refine ⟨j + 1, by omega, by go_num, ?_, HB3.out, HK3.out⟩
                      rw [HTK.out]
                      have h := HO3.out
                      rw [show (D ++ [b0, b1, b2, b3]).length = D.length + 4 by simp] at h
                      exact h
                    case measure => simp [intOf]; omega
                  · obtain rfl : j = 8 := by omega
                    have ht := run_text (P := Try.prog) wr 131 9 5 bytely HO.out
                    have hfull : (((⟨sa, sb, sc, sd, se, sf, sg, sh⟩ : S8).l.take 8).map bytes4).flatten = Go.Proofs.Ytamfgmlhopjppaa.sha s.data.toList := by rw [HFIN.out]; rfl
                    rw [hfull] at ht
                    rw [hfull]
                    clear hfull
                    go_wp2_with fail
                    go_ret
                    exact ⟨rfl, HK.out⟩
end Go.Proofs.Ytamfgmlhopjppaa
