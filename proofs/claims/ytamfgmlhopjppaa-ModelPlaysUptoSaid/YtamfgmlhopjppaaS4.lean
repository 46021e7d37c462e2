/-
  The walk of sha.Sum.
-/
import Derived.Test.YtamfgmlhopjppaaS3
import Derived.Test.YtamfgmlhopjppaaOwnB
import Derived.Test.YtamfgmlhopjppaaGA2
namespace Go.Proofs.Ytamfgmlhopjppaa
open Go.RowKit Go.ChangeShapes Go.WideShapes Go.ChangeAt

theorem comps_append (m x : List UInt8) (s : S8) (n : Nat) (h : 64 * n ≤ m.length) : comps (m ++ x) s n = comps m s n := by
  induction n with
  | zero => rfl
  | succ n ih =>
    rw [comps, comps, ih (by omega)]
    congr 1
    rw [List.drop_append_of_le_length (by omega), List.take_append_of_le_length (by rw [List.length_drop]; omega)]

theorem len8_take (n j : Nat) (h : j < 8) : (len8 n).take (j + 1) = (len8 n).take j ++ [UInt8.ofNat (n * 8 / 2 ^ (8 * (7 - j)))] := by
  have : j = 0 ∨ j = 1 ∨ j = 2 ∨ j = 3 ∨ j = 4 ∨ j = 5 ∨ j = 6 ∨ j = 7 := by omega
  rcases this with rfl | rfl | rfl | rfl | rfl | rfl | rfl | rfl <;> rfl
def vlen : Value → Nat | .slice _ n _ => n | _ => 0
/-- amid the digesting: M has come in, q blocks of it are gone over, wait holds the rest -/
def SumAt (base gs : Nat) (M : List UInt8) (q : Nat) (wv : Value) (wr : World) : Prop :=
  64 * q ≤ M.length ∧ OwnB wr base 5 wv (M.drop (64 * q)) ∧ Blk wr gs 130 ((comps M H0 q).l.map uv)
theorem SumAt.more {base gs : Nat} {M x : List UInt8} {q : Nat} {wv wv' : Value} {wr wr' : World} (h : SumAt base gs M q wv wr) (ho : OwnB wr' base 5 wv' (M.drop (64 * q) ++ x)) (hk : Kp (fun k => wv.ownBlock = some k) wr wr') : SumAt base gs (M ++ x) q wv' wr' := by
  obtain ⟨h1, h2, h3⟩ := h
  refine ⟨by rw [List.length_append]; omega, by rw [List.drop_append_of_le_length h1]; exact ho, ?_⟩
  rw [comps_append _ _ _ _ h1]
  exact h3.kept hk (fun hg => h2.ne_blk h3 (by decide) hg)

set_option maxRecDepth 100000 in
set_option maxHeartbeats 8000000 in
theorem t_sum (l : List ByteArray) (A : Option Addr) (c : Nat) (w : World) (S : Nat → Prop) (hl : Rp.str.slice.R w S [.slice A l.length c] l) (_hS : ∀ k, S k → k < w.heap.size) (hn : l.length ≤ 1048576) (hs : (l.map (·.data.toList)).flatten.length ≤ 1048576) :
    Calls Try.prog 64 #[.slice A l.length c] w fun e w' => e = .returned (.string (bs (Go.Proofs.Ytamfgmlhopjppaa.sha (l.map (·.data.toList)).flatten))) ∧ Kp No w w' := by
  have HL := Lib.hid hl
  clear hl
  go_enter Try.func64, Try.ntmps64
  go_wp2
  have hst0 : SumAt w.heap.size w.heap.size [] 0 (.slice none 0 0) (w.alloc (.cells (H0.l.map uv).toArray 130)) := ⟨Nat.zero_le _, OwnB.nil _ _ _, Blk.new w (H0.l.map uv) 130⟩
  go_loopw [4, 5, 15] (fun wv nv iv wr => ∃ k q : Nat, k ≤ l.length ∧ iv = .int .i64 k ∧ nv = .int .i64 (((l.take k).map (·.data.toList)).flatten.length : Nat) ∧ SumAt w.heap.size w.heap.size ((l.take k).map (·.data.toList)).flatten q wv wr ∧ Kp No w wr) (fun _ _ iv _ => l.length - (intOf iv).toNat)
  case atStart => exact ⟨0, 0, Nat.zero_le _, rfl, rfl, hst0, (Kp.refl _ _).alloc _⟩
  case round =>
    clear hst0
    obtain ⟨k, q, hk, rfl, rfl, hst, hkp⟩ := hrel
    obtain ⟨Av, cv, rfl, hcv⟩ := hst.2.1.shape
    by_cases hlt : k < l.length
    · obtain ⟨x, hx⟩ : ∃ x, l[k]? = some x := ⟨_, List.getElem?_eq_getElem hlt⟩
      obtain ⟨ad, rfl, _, hcell, hxm⟩ := Rp.at_str ((Rp.slice _).keptNo HL.out hkp) hx
      have hstep : ((l.take (k + 1)).map (·.data.toList)).flatten = ((l.take k).map (·.data.toList)).flatten ++ x.data.toList := by
        obtain ⟨h, rfl⟩ := List.getElem?_eq_some_iff.1 hx
        rw [List.take_succ_eq_append_getElem h, List.map_append, List.flatten_append]; simp
      have hle : ((l.take (k + 1)).map (·.data.toList)).flatten.length ≤ 1048576 := by
        refine Nat.le_trans ?_ hs
        conv => rhs; rw [← List.take_append_drop (k + 1) l, List.map_append, List.flatten_append, List.length_append]
        omega
      rw [hstep, List.length_append, data_length] at hle
      have HSTEP := Lib.hid hstep
      have HST := Lib.hid hst
      have HK := Lib.hid hkp
      have hdl : (((l.take k).map (·.data.toList)).flatten.drop (64 * q)).length = ((l.take k).map (·.data.toList)).flatten.length - 64 * q := List.length_drop
      clear hstep hst hkp hx
      generalize ((l.take k).map (·.data.toList)).flatten = M at *
      have e1 : IntKind.i64.wrap ((M.length : Int) + (x.size : Int)) = ((M.length + x.size : Nat) : Int) := by rw [IntKind.wrap_i64]; omega
      generalize hD : M.drop (64 * q) = D at *
      have HD := Lib.hid hD
      have HDL := Lib.hid hdl
      have hDle : D.length ≤ 1048576 := by omega
      have hql : 64 * q ≤ M.length := HST.out.1
      clear hD hdl
      go_wp2_with (at_builtin; refine wpList_appendB_text rfl wr (.tmp 23) (.tmp 24) 131 9 rfl w.heap.size 5 bytely (.slice Av D.length cv) D rfl (by rw [← HD.out]; exact HD.out ▸ HST.out.2.1) x rfl ?d1 ?d2 ?_)
      case d1 => omega
      case d2 => have := HK.out.size; omega
      intro v3 w3 hown hgr
      have hkr : Kp (fun k => (Value.slice Av D.length cv).ownBlock = some k) wr w3 := (Kp.refl _ _).grown hgr (fun g hg _ => hg)
      have HS3 := Lib.hid (HST.out.more (x := x.data.toList) (by rw [HD.out]; exact hown) hkr)
      have HK3 := Lib.hid (HK.out.trans hkr (fun i hi hv => absurd (HST.out.2.1.lt i hv).1 (by omega)))
      have hM3 : (M ++ x.data.toList).length = M.length + x.size := by rw [List.length_append, data_length]
      have hM4 : (M ++ x.data.toList).length ≤ 1048576 := by omega
      rw [← hM3] at e1
      have HM3 := Lib.hid hM3
      clear hown hgr hkr hM3 hcell HD HDL HST
      obtain ⟨M2, hM2⟩ : ∃ M2, M ++ x.data.toList = M2 := ⟨_, rfl⟩
      rw [hM2] at HS3 HM3 hM4 e1 HSTEP
      clear hM2
      go_wp2_with fail
      obtain ⟨wo, hwo⟩ : ∃ wo : World, wo = w3 := ⟨_, rfl⟩
      go_loopw [4] (fun wv wr => ∃ q : Nat, SumAt w.heap.size w.heap.size M2 q wv wr ∧ Kp No w wr) (fun wv _ => vlen wv)
      case atStart => exact ⟨q, HS3.out, HK3.out⟩
      case round =>
        obtain ⟨q2, hst, hkp⟩ := hrel
        obtain ⟨A2, c2, rfl, hc2⟩ := hst.2.1.shape
        have hq2 := hst.1
        have hD2 : (M2.drop (64 * q2)).length = M2.length - 64 * q2 := List.length_drop
        have HST := Lib.hid hst
        have HK4 := Lib.hid hkp
        obtain ⟨D2, hD⟩ : ∃ D, M2.drop (64 * q2) = D := ⟨_, rfl⟩
        rw [hD] at hD2 hc2
        rw [hD]
        have hDle2 : D2.length ≤ 1048576 := by omega
        have HD2 := Lib.hid hD2
        have HDD := Lib.hid hD
        clear hst hkp hD2 hD HS3 HK3
        by_cases h64 : 64 ≤ D2.length
        · have i64 : (64 : Int) ≤ (D2.length : Int) := by omega
          have hown2 := HST.out.2.1
          rw [HDD.out] at hown2
          obtain ⟨g, o, rfl, hgb, hgl, _⟩ := hown2.cell (i := 0) (by omega)
          have hc2m : c2 ≤ maxLen := by
            rcases hown2 with ⟨he, _⟩ | ⟨_, _, _, _, he, _, _, _, _, hm, _⟩
            · rw [he] at h64; cases h64
            · injection he with _ _ he; rw [he]; exact hm
          have hread := hown2.read (n := 64) (c2 := c2) h64 (by omega) hc2m
          have hne := hown2.ne_blk HST.out.2.2 (by decide)
          have hl64 : (D2.take 64).length = 64 := by rw [List.length_take]; omega
          have htake := t_take (comps M2 H0 q2) w.heap.size (D2.take 64) hl64 (some ⟨g, o, none⟩) c2 wr _ HST.out.2.2 hread hne (fun k hk => (hown2.lt k hk).2)
          have HT := Lib.hid htake
          have HO2 := Lib.hid hown2
          have HNE := Lib.hid hne
          have i65 : (64 : Int) ≤ (c2 : Int) := by omega
          clear htake hread hne hown2 hl64
          go_wp2_with fail
          refine HT.out.mono ?_
          rintro e w5 ⟨rfl, hb5, hk5⟩
          have HO5 := Lib.hid (HO2.out.kept hk5 (fun k hk e => HNE.out (by rw [hk, e])))
          have HB5 := Lib.hid hb5
          have HK5 := Lib.hid (HK4.out.trans hk5 (fun i hi e => absurd hi (by omega)))
          have hnext : comps M2 H0 (q2 + 1) = comp (comps M2 H0 q2) (D2.take 64) := by rw [comps, HDD.out]
          have hdrop : M2.drop (64 * (q2 + 1)) = D2.drop 64 := by rw [← HDD.out, List.drop_drop]; congr 1
          have HN := Lib.hid hnext
          have HDR := Lib.hid hdrop
          clear hb5 hk5 hnext hdrop HT HO2 HST
          by_cases hc64 : c2 = 64
          · subst hc64
            have hd64 : D2.length = 64 := by omega
            have HD64 := Lib.hid hd64
            clear hd64
            go_wp2_with fail
            go_roundw
            case rel =>
              refine ⟨q2 + 1, ⟨by have := HD2.out; omega, ?_, by rw [HN.out]; exact HB5.out⟩, HK5.out⟩
              have h := HO5.out
              rw [HD64.out] at h
              rw [HDR.out, List.drop_eq_nil_of_le (by have := HD64.out; omega)]
              have h2 := h.cutAll
              exact h2
            case measure => simp [vlen]; omega
          · have hne64 : ¬ (c2 : Int) = 64 := by omega
            go_wp2_with fail
            go_roundw
            case rel =>
              refine ⟨q2 + 1, ⟨by have := HD2.out; omega, ?_, by rw [HN.out]; exact HB5.out⟩, HK5.out⟩
              have h2 := HO5.out.cut h64 (by omega)
              rw [HDR.out]
              rw [List.length_drop] at h2
              exact h2
            case measure => simp [vlen]; omega
        · go_wp2_with fail
          go_roundw
          case rel =>
            refine ⟨k + 1, q2, by omega, by go_num, ?_, by rw [HSTEP.out]; have h := HST.out; rw [HDD.out] at h; exact h, HK4.out⟩
            rw [HSTEP.out, HM3.out]; go_num
          case measure => simp [intOf]; omega
    · obtain rfl : k = l.length := by omega
      rw [List.take_length] at hst
      obtain ⟨M, hM⟩ : ∃ M, (l.map (·.data.toList)).flatten = M := ⟨_, rfl⟩
      rw [hM] at hst hs
      have HM := Lib.hid hM
      have hql := hst.1
      obtain ⟨D, hD⟩ : ∃ D, M.drop (64 * q) = D := ⟨_, rfl⟩
      have hDl : D.length = M.length - 64 * q := by rw [← hD, List.length_drop]
      have hDle : D.length ≤ 1048576 := by omega
      have hown0 := hst.2.1
      rw [hD] at hst
      have HST := Lib.hid hst
      have HK := Lib.hid hkp
      have HDL := Lib.hid hDl
      have HD := Lib.hid hD
      rw [hD] at hown0
      have HO := Lib.hid hown0
      rw [List.take_length, hM, hD]
      clear hst hkp hM hDl hD hown0 hcv
      go_wp2_with (at_builtin; refine wpList_appendB_bytes rfl _ (.tmp 35) (.tmp 36) 131 9 rfl w.heap.size 5 bytely (.slice Av D.length cv) D rfl (HO.out.keptNo ((Kp.refl _ _).alloc _)) ⟨wr.heap.size, 0, none⟩ 1 [128] (by simp) rfl ?d0 ?d1 ?d2 ?_)
      case d0 =>
        intro j y hy
        have hj : j = 0 := by have := (List.getElem?_eq_some_iff.1 hy).1; simp at this; exact this
        subst hj
        have hy : byteOf 128 = y := by simpa using hy
        subst hy
        exact (Blk.new wr [byteOf 128] 5).cell rfl
      case d1 => simp; omega
      case d2 => have := HK.out.size; simp; omega
      intro v3 w3 hown hgr
      have hkr : Kp (fun k => (Value.slice Av D.length cv).ownBlock = some k) wr w3 := ((Kp.refl _ _).alloc _).grown hgr (fun g hg _ => hg)
      have HS3 := Lib.hid (HST.out.more (x := [128]) (by rw [HD.out]; exact hown) hkr)
      have HK3 := Lib.hid (HK.out.trans hkr (fun i hi hv => absurd (HO.out.lt i hv).1 (by omega)))
      clear hown hgr hkr HO HST HK HD HDL
      go_wp2_with fail
      obtain ⟨wo, hwo⟩ : ∃ wo : World, wo = wr := ⟨_, rfl⟩
      go_loopw [4] (fun wv wr => ∃ j : Nat, j ≤ padN M.length ∧ SumAt w.heap.size w.heap.size (M ++ [128] ++ List.replicate j 0) q wv wr ∧ Kp No w wr) (fun wv _ => M.length + 1 + padN M.length - 64 * q - vlen wv)
      case atStart => exact ⟨0, Nat.zero_le _, by simpa using HS3.out, HK3.out⟩
      case round =>
        obtain ⟨j, hj, hst, hkp⟩ := hrel
        obtain ⟨A4, c4, rfl, hc4⟩ := hst.2.1.shape
        obtain ⟨M4, hM4⟩ : ∃ M4, M ++ [128] ++ List.replicate j 0 = M4 := ⟨_, rfl⟩
        have hl4 : M4.length = M.length + 1 + j := by rw [← hM4]; simp; omega
        rw [hM4] at hst hc4
        have hown := hst.2.1
        have hq4 := hst.1
        obtain ⟨D4, hD4⟩ : ∃ D, M4.drop (64 * q) = D := ⟨_, rfl⟩
        have hdl : D4.length = M4.length - 64 * q := by rw [← hD4, List.length_drop]
        rw [hD4] at hst hown hc4
        rw [hM4, hD4]
        have hpad := padN_mod M.length
        have HST := Lib.hid hst
        have HO := Lib.hid hown
        have HK := Lib.hid hkp
        have HD4 := Lib.hid hD4
        have HM4 := Lib.hid hM4
        have HDL := Lib.hid hdl
        have hdle : D4.length ≤ 2097152 := by omega
        by_cases h56 : D4.length % 64 = 56
        · have hjp : j = padN M.length := by omega
          have hd : (((D4.length : Int) % 64) != 56) = false := by simp; omega
          clear hst hown hkp hD4 hM4 hdl hl4 hpad
          subst hjp
          have HS6 : Hid (SumAt w.heap.size w.heap.size (M4 ++ (len8 M.length).take 0) q (.slice A4 D4.length c4) wr) := Lib.hid (by simpa using HST.out)
          go_wp2_with fail
          obtain ⟨wo, hwo⟩ : ∃ wo : World, wo = wr := ⟨_, rfl⟩
          go_loopw [4, 8] (fun wv iv wr => ∃ j : Nat, j ≤ 8 ∧ iv = .int .i64 (7 - (j : Int)) ∧ SumAt w.heap.size w.heap.size (M4 ++ (len8 M.length).take j) q wv wr ∧ Kp No w wr) (fun _ iv _ => ((intOf iv) + 1).toNat)
          case atStart => exact ⟨0, by omega, rfl, HS6.out, HK.out⟩
          case round =>
            obtain ⟨j, hj8, rfl, hst6, hkp6⟩ := hrel
            obtain ⟨A6, c6, rfl, hc6⟩ := hst6.2.1.shape
            by_cases hj : j < 8
            · have i0 : (0 : Int) ≤ 7 - (j : Int) := by omega
              have i1 : IntKind.i64.wrap (8 * (7 - (j : Int))) = 8 * (7 - (j : Int)) := by rw [IntKind.wrap_i64]; omega
              have i2 : (0 : Int) ≤ 8 * (7 - (j : Int)) := by omega
              have i3 : wrap64 (8 * (7 - (j : Int))) = 8 * (7 - (j : Int)) := by unfold wrap64; omega
              obtain ⟨M6, hM6⟩ : ∃ M6, M4 ++ (len8 M.length).take j = M6 := ⟨_, rfl⟩
              rw [hM6] at hst6 hc6
              rw [hM6]
              obtain ⟨D6, hD6⟩ : ∃ D, M6.drop (64 * q) = D := ⟨_, rfl⟩
              have hown6 := hst6.2.1
              have hl6 : M6.length = M4.length + j := by rw [← hM6, List.length_append, List.length_take]; simp [len8]; omega
              have hd6 : D6.length = M6.length - 64 * q := by rw [← hD6, List.length_drop]
              rw [hD6] at hst6 hown6 hc6
              rw [hD6]
              have hml : M4.length ≤ 2097152 := by have := HM4.out; rw [← this]; simp; have := (padN_mod M.length).2; omega
              have hdle6 : D6.length ≤ 4194304 := by omega
              have HST6 := Lib.hid hst6
              have HO6 := Lib.hid hown6
              have HK6 := Lib.hid hkp6
              have HD6 := Lib.hid hD6
              have HM6 := Lib.hid hM6
              obtain ⟨X, hX⟩ : ∃ X, M.length * 8 / 2 ^ (8 * (7 - j)) = X := ⟨_, rfl⟩
              have hbv : Value.int IntKind.u8 ((M.length : Int) * 8 / 2 ^ (8 * (7 - j)) % 256) = byteOf (UInt8.ofNat X) := by
                unfold byteOf
                rw [← hX, UInt8.toNat_ofNat']
                push_cast; rfl
              have HX := Lib.hid hX
              have HBV := Lib.hid hbv
              clear hst6 hown6 hkp6 hD6 hM6 hl6 hd6 hX hbv
              go_wp2_with (at_builtin; rw [HBV.out]; refine wpList_appendB_bytes rfl _ (.tmp 49) (.tmp 57) 131 9 rfl w.heap.size 5 bytely (.slice A6 D6.length c6) D6 rfl (HO6.out.keptNo ((Kp.refl _ _).alloc _)) ⟨wr.heap.size, 0, none⟩ 1 [UInt8.ofNat X] (by simp) rfl ?d0 ?d1 ?d2 ?_)
              case d0 =>
                intro j y hy
                have hj : j = 0 := by have := (List.getElem?_eq_some_iff.1 hy).1; simp at this; exact this
                subst hj
                have hy : byteOf (UInt8.ofNat X) = y := by simpa using hy
                subst hy
                exact (Blk.new wr [byteOf (UInt8.ofNat X)] 5).cell rfl
              case d1 => simp; omega
              case d2 => have := HK6.out.size; simp; omega
              intro v7 w7 hown hgr
              obtain ⟨A7, c7, rfl, _⟩ := hown.shape
              have hkr : Kp (fun k => (Value.slice A6 D6.length c6).ownBlock = some k) wr w7 := ((Kp.refl _ _).alloc _).grown hgr (fun g hg _ => hg)
              have HS7 := Lib.hid (HST6.out.more (x := [UInt8.ofNat X]) (by rw [HD6.out]; exact hown) hkr)
              have HK7 := Lib.hid (HK6.out.trans hkr (fun i hi hv => absurd (HO6.out.lt i hv).1 (by omega)))
              clear hown hgr hkr
              go_wp2_with fail
              go_roundw
              case rel =>
                refine ⟨j + 1, by omega, by congr 1; push_cast; omega, ?_, HK7.out⟩
                have e : M4 ++ (len8 M.length).take (j + 1) = M6 ++ [UInt8.ofNat X] := by rw [len8_take _ _ hj, HX.out, ← List.append_assoc, HM6.out]
                rw [e]
                exact HS7.out
              case measure => simp [intOf]; omega
            · obtain rfl : j = 8 := by omega
              rw [show (7 - ((8 : Nat) : Int)) = (-1 : Int) from rfl]
              have hpd : M4 ++ (len8 M.length).take 8 = padded M := by rw [← HM4.out]; rfl
              rw [hpd] at hst6 hc6
              have hpm : (padded M).length % 64 = 0 := padded_mod M
              have hpl : (padded M).length ≤ 2097152 := by rw [padded_length]; have := (padN_mod M.length).2; omega
              obtain ⟨PM, hPM⟩ : ∃ PM, padded M = PM := ⟨_, rfl⟩
              rw [hPM] at hst6 hc6 hpm hpl
              rw [hpd, hPM]
              have HST6 := Lib.hid hst6
              have HK6 := Lib.hid hkp6
              have HPM := Lib.hid hPM
              clear hst6 hkp6 hpd hPM HS6 HST HO HK HD4 HM4 HDL HS3 HK3
              obtain ⟨D7, hD7⟩ : ∃ D, PM.drop (64 * q) = D := ⟨_, rfl⟩
              have hd7 : D7.length = PM.length - 64 * q := by rw [← hD7, List.length_drop]
              rw [hD7] at hc6 ⊢
              have HD7 := Lib.hid hD7
              clear hD7
              go_wp2_with fail
              obtain ⟨wo, hwo⟩ : ∃ wo : World, wo = wr := ⟨_, rfl⟩
              go_loopw [4] (fun wv wr => ∃ q : Nat, SumAt w.heap.size w.heap.size PM q wv wr ∧ Kp No w wr) (fun wv _ => vlen wv)
              case atStart => exact ⟨q, by have h := HST6.out; rw [HD7.out] at h; exact h, HK6.out⟩
              case round =>
                obtain ⟨q2, hst, hkp⟩ := hrel
                obtain ⟨A2, c2, rfl, hc2⟩ := hst.2.1.shape
                have hq2 := hst.1
                have hD2 : (PM.drop (64 * q2)).length = PM.length - 64 * q2 := List.length_drop
                have HST := Lib.hid hst
                have HK4 := Lib.hid hkp
                obtain ⟨D2, hD⟩ : ∃ D, PM.drop (64 * q2) = D := ⟨_, rfl⟩
                rw [hD] at hD2 hc2
                rw [hD]
                have hDle2 : D2.length ≤ 2097152 := by omega
                have HD2 := Lib.hid hD2
                have HDD := Lib.hid hD
                by_cases h64 : 0 < D2.length
                · have h64' : 64 ≤ D2.length := by omega
                  clear hst hkp hD2 hD
                  have i64 : (64 : Int) ≤ (D2.length : Int) := by omega
                  have hown2 := HST.out.2.1
                  rw [HDD.out] at hown2
                  obtain ⟨g, o, rfl, hgb, hgl, _⟩ := hown2.cell (i := 0) (by omega)
                  have hc2m : c2 ≤ maxLen := by
                    rcases hown2 with ⟨he, _⟩ | ⟨_, _, _, _, he, _, _, _, _, hm, _⟩
                    · rw [he] at h64'; cases h64'
                    · injection he with _ _ he; rw [he]; exact hm
                  have hread := hown2.read (n := 64) (c2 := c2) h64' (by omega) hc2m
                  have hne := hown2.ne_blk HST.out.2.2 (by decide)
                  have hl64 : (D2.take 64).length = 64 := by rw [List.length_take]; omega
                  have htake := t_take (comps PM H0 q2) w.heap.size (D2.take 64) hl64 (some ⟨g, o, none⟩) c2 wr _ HST.out.2.2 hread hne (fun k hk => (hown2.lt k hk).2)
                  have HT := Lib.hid htake
                  have HO2 := Lib.hid hown2
                  have HNE := Lib.hid hne
                  have i65 : (64 : Int) ≤ (c2 : Int) := by omega
                  clear htake hread hne hown2 hl64
                  go_wp2_with fail
                  refine HT.out.mono ?_
                  rintro e w5 ⟨rfl, hb5, hk5⟩
                  have HO5 := Lib.hid (HO2.out.kept hk5 (fun k hk e => HNE.out (by rw [hk, e])))
                  have HB5 := Lib.hid hb5
                  have HK5 := Lib.hid (HK4.out.trans hk5 (fun i hi e => absurd hi (by omega)))
                  have hnext : comps PM H0 (q2 + 1) = comp (comps PM H0 q2) (D2.take 64) := by rw [comps, HDD.out]
                  have hdrop : PM.drop (64 * (q2 + 1)) = D2.drop 64 := by rw [← HDD.out, List.drop_drop]; congr 1
                  have HN := Lib.hid hnext
                  have HDR := Lib.hid hdrop
                  clear hb5 hk5 hnext hdrop HT HO2 HST
                  by_cases hc64 : c2 = 64
                  · subst hc64
                    have hd64 : D2.length = 64 := by omega
                    have HD64 := Lib.hid hd64
                    clear hd64
                    go_wp2_with fail
                    go_roundw
                    case rel =>
                      refine ⟨q2 + 1, ⟨by have := HD2.out; omega, ?_, by rw [HN.out]; exact HB5.out⟩, HK5.out⟩
                      have h := HO5.out
                      rw [HD64.out] at h
                      rw [HDR.out, List.drop_eq_nil_of_le (by have := HD64.out; omega)]
                      have h2 := h.cutAll
                      exact h2
                    case measure => simp [vlen]; omega
                  · have hne64 : ¬ (c2 : Int) = 64 := by omega
                    go_wp2_with fail
                    go_roundw
                    case rel =>
                      refine ⟨q2 + 1, ⟨by have := HD2.out; omega, ?_, by rw [HN.out]; exact HB5.out⟩, HK5.out⟩
                      have h2 := HO5.out.cut h64' (by omega)
                      rw [HDR.out]
                      rw [List.length_drop] at h2
                      exact h2
                    case measure => simp [vlen]; omega
                · have hq : q2 = PM.length / 64 := by omega
                  have hfin : comps PM H0 q2 = comps (padded M) H0 ((padded M).length / 64) := by rw [HPM.out, hq]
                  obtain ⟨st, hs8⟩ : ∃ st, comps PM H0 q2 = st := ⟨_, rfl⟩
                  have hbk := hst.2.2
                  rw [hs8] at hbk hfin
                  have HBK := Lib.hid hbk
                  have HFIN := Lib.hid hfin
                  obtain ⟨w8, hrun, hown8, hk8⟩ := own_make Rp.byte (P := Try.prog) wr No w.heap.size 131 5 bytely.elem .i64 .i64 32 (by omega) (by simp [maxLen]) (by have := HK4.out.size; omega)
                  have HO8 := Lib.hid hown8
                  have HBK8 := Lib.hid (HBK.out.kept hk8 (fun x => x))
                  have HK8 := Lib.hid (HK4.out.trans' hk8)
                  rw [show ((32 : Nat) : Int) = 32 from rfl] at hrun
                  clear hst hkp hD2 hD hq hfin hs8 hbk HST hown8 hk8 HBK HK4
                  obtain ⟨sa, sb, sc, sd, se, sf, sg, sh⟩ := st
                  have c0 : w8.cell? ⟨w.heap.size, 0, none⟩ = some (.int .u32 (un sa)) := HBK8.out.cell rfl
                  have c1 : w8.cell? ⟨w.heap.size, 1, none⟩ = some (.int .u32 (un sb)) := HBK8.out.cell rfl
                  have c2 : w8.cell? ⟨w.heap.size, 2, none⟩ = some (.int .u32 (un sc)) := HBK8.out.cell rfl
                  have c3 : w8.cell? ⟨w.heap.size, 3, none⟩ = some (.int .u32 (un sd)) := HBK8.out.cell rfl
                  have c4 : w8.cell? ⟨w.heap.size, 4, none⟩ = some (.int .u32 (un se)) := HBK8.out.cell rfl
                  have c5 : w8.cell? ⟨w.heap.size, 5, none⟩ = some (.int .u32 (un sf)) := HBK8.out.cell rfl
                  have c6 : w8.cell? ⟨w.heap.size, 6, none⟩ = some (.int .u32 (un sg)) := HBK8.out.cell rfl
                  have c7 : w8.cell? ⟨w.heap.size, 7, none⟩ = some (.int .u32 (un sh)) := HBK8.out.cell rfl
                  go_wp2_with fail
                  clear c0 c1 c2 c3 c4 c5 c6 c7 hrun
                  have hl8 : (⟨sa, sb, sc, sd, se, sf, sg, sh⟩ : S8).l.length = 8 := rfl
                  obtain ⟨wo, hwo⟩ : ∃ wo : World, wo = w8 := ⟨_, rfl⟩
                  go_loopw [9, 69] (fun ov iv wr => ∃ j : Nat, j ≤ 8 ∧ iv = .int .i64 j ∧ Own Rp.byte wr No w.heap.size 5 ov (((⟨sa, sb, sc, sd, se, sf, sg, sh⟩ : S8).l.take j).map bytes4).flatten ∧ Kp No w wr) (fun _ iv _ => 8 - (intOf iv).toNat)
                  case atStart => exact ⟨0, by omega, rfl, HO8.out, HK8.out⟩
                  case round =>
                    obtain ⟨j, hj, rfl, hown, hkp⟩ := hrel
                    obtain ⟨Av2, cv2, rfl⟩ := hown.shape
                    have HO := Lib.hid hown
                    have HK := Lib.hid hkp
                    clear hown hkp HO8 HK8 HBK8 hwo
                    by_cases hj2 : j < 8
                    · have hd : ∃ X : Nat, X < 4294967296 ∧ (Instr.index 130 (.agg #[.int .u32 (un sa), .int .u32 (un sb), .int .u32 (un sc), .int .u32 (un sd), .int .u32 (un se), .int .u32 (un sf), .int .u32 (un sg), .int .u32 (un sh)]) (.int .i64 (j : Int))).run Try.prog wr = .ok (.int .u32 (X : Int)) wr ∧ ((⟨sa, sb, sc, sd, se, sf, sg, sh⟩ : S8).l.take (j + 1)).map bytes4 = ((⟨sa, sb, sc, sd, se, sf, sg, sh⟩ : S8).l.take j).map bytes4 ++ [[UInt8.ofNat (X / 16777216), UInt8.ofNat (X / 65536), UInt8.ofNat (X / 256), UInt8.ofNat X]] := by
                        rcases (by omega : j = 0 ∨ j = 1 ∨ j = 2 ∨ j = 3 ∨ j = 4 ∨ j = 5 ∨ j = 6 ∨ j = 7) with rfl | rfl | rfl | rfl | rfl | rfl | rfl | rfl
                        · exact ⟨sa.toNat, un_lt _, by kernel_rfl, rfl⟩
                        · exact ⟨sb.toNat, un_lt _, by kernel_rfl, rfl⟩
                        · exact ⟨sc.toNat, un_lt _, by kernel_rfl, rfl⟩
                        · exact ⟨sd.toNat, un_lt _, by kernel_rfl, rfl⟩
                        · exact ⟨se.toNat, un_lt _, by kernel_rfl, rfl⟩
                        · exact ⟨sf.toNat, un_lt _, by kernel_rfl, rfl⟩
                        · exact ⟨sg.toNat, un_lt _, by kernel_rfl, rfl⟩
                        · exact ⟨sh.toNat, un_lt _, by kernel_rfl, rfl⟩
                      obtain ⟨X, hX, hidx, htk⟩ := hd
                      obtain ⟨D, hD⟩ : ∃ D, (((⟨sa, sb, sc, sd, se, sf, sg, sh⟩ : S8).l.take j).map bytes4).flatten = D := ⟨_, rfl⟩
                      have hDl : D.length ≤ 32 := by
                        rw [← hD]
                        rcases (by omega : j = 0 ∨ j = 1 ∨ j = 2 ∨ j = 3 ∨ j = 4 ∨ j = 5 ∨ j = 6 ∨ j = 7) with rfl | rfl | rfl | rfl | rfl | rfl | rfl | rfl <;> simp [S8.l, bytes4]
                      have htk2 : (((⟨sa, sb, sc, sd, se, sf, sg, sh⟩ : S8).l.take (j + 1)).map bytes4).flatten = D ++ [UInt8.ofNat (X / 16777216), UInt8.ofNat (X / 65536), UInt8.ofNat (X / 256), UInt8.ofNat X] := by rw [htk, List.flatten_append, hD]; rfl
                      have HTK := Lib.hid htk2
                      rw [hD] at HO
                      rw [hD]
                      clear hD htk htk2
                      obtain ⟨b0, hb0⟩ : ∃ b, UInt8.ofNat (X / 16777216) = b := ⟨_, rfl⟩
                      obtain ⟨b1, hb1⟩ : ∃ b, UInt8.ofNat (X / 65536) = b := ⟨_, rfl⟩
                      obtain ⟨b2, hb2⟩ : ∃ b, UInt8.ofNat (X / 256) = b := ⟨_, rfl⟩
                      obtain ⟨b3, hb3⟩ : ∃ b, UInt8.ofNat X = b := ⟨_, rfl⟩
                      have hcs : [Value.int .u8 ((X : Int) / 16777216), Value.int .u8 ((X : Int) / 65536 % 256), Value.int .u8 ((X : Int) / 256 % 256), Value.int .u8 ((X : Int) % 256)] = [b0, b1, b2, b3].map byteOf := by
                        rw [← hb0, ← hb1, ← hb2, ← hb3]
                        simp only [List.map_cons, List.map_nil, byte_nat]
                        rw [show ((X / 16777216 % 256 : Nat) : Int) = (X : Int) / 16777216 by omega]
                        rfl
                      rw [hb0, hb1, hb2, hb3] at HTK
                      have HCS := Lib.hid hcs
                      clear hcs hb0 hb1 hb2 hb3
                      go_wp2_with (at_builtin; refine wpList_append_lit Rp.byte_by rfl _ (.tmp 72) (.tmp 84) 131 rfl w.heap.size 5 1 bytely.elem (.slice Av2 D.length cv2) D rfl No ?d0 wr.heap.size [b0, b1, b2, b3] rfl _ _ _ (heap_alloc_new _ _) ?d1 ?d2 ?d3 ?d4 ?d5 ?d6 ?_)
                      case d0 => exact HO.out.alloc _
                      case d1 => have h := HCS.out; simpa using h
                      case d2 => exact fun _ _ => trivial
                      case d3 => simp [maxLen]; omega
                      case d4 => simp; omega
                      case d5 => have := HK.out.size; simp; omega
                      case d6 => intro h; have := (HO.out.lt _ h).2; omega
                      intro A3 c3 w3 hown hkr
                      have HO3 := Lib.hid hown
                      have HK3 := Lib.hid ((HK.out.alloc _).trans hkr (fun i hi hv => absurd (HO.out.lt i hv).1 (by omega)))
                      clear hown hkr
                      go_wp2_with fail
                      go_roundw
                      case rel => exact ⟨j + 1, by omega, by go_num, by rw [HTK.out]; exact HO3.out, HK3.out⟩
                      case measure => simp [intOf]; omega
                    · obtain rfl : j = 8 := by omega
                      have ht := run_text (P := Try.prog) wr 131 9 5 bytely HO.out
                      have hfull : (((⟨sa, sb, sc, sd, se, sf, sg, sh⟩ : S8).l.take 8).map bytes4).flatten = Go.Proofs.Ytamfgmlhopjppaa.sha M := by unfold Go.Proofs.Ytamfgmlhopjppaa.sha; rw [← HFIN.out]; rfl
                      rw [hfull] at ht
                      rw [hfull]
                      clear hfull
                      go_wp2_with fail
                      go_ret
                      refine ⟨?_, HK.out⟩
                      rw [HM.out]
                      rfl
        · have hjp : j < padN M.length := by omega
          have hd : (((D4.length : Int) % 64) != 56) = true := by simp; omega
          clear hst hown hkp hD4 hM4 hdl hl4 hpad
          go_wp2_with (at_builtin; refine wpList_appendB_bytes rfl _ (.tmp 42) (.tmp 43) 131 9 rfl w.heap.size 5 bytely (.slice A4 D4.length c4) D4 rfl (HO.out.keptNo ((Kp.refl _ _).alloc _)) ⟨wr.heap.size, 0, none⟩ 1 [0] (by simp) rfl ?d0 ?d1 ?d2 ?_)
          case d0 =>
            intro j y hy
            have hj : j = 0 := by have := (List.getElem?_eq_some_iff.1 hy).1; simp at this; exact this
            subst hj
            have hy : byteOf 0 = y := by simpa using hy
            subst hy
            exact (Blk.new wr [byteOf 0] 5).cell rfl
          case d1 => simp; omega
          case d2 => have := HK.out.size; simp; omega
          intro v5 w5 hown hgr
          obtain ⟨A5, c5, rfl, _⟩ := hown.shape
          have hkr : Kp (fun k => (Value.slice A4 D4.length c4).ownBlock = some k) wr w5 := ((Kp.refl _ _).alloc _).grown hgr (fun g hg _ => hg)
          have HS5 := Lib.hid (HST.out.more (x := [0]) (by rw [HD4.out]; exact hown) hkr)
          have HK5 := Lib.hid (HK.out.trans hkr (fun i hi hv => absurd (HO.out.lt i hv).1 (by omega)))
          clear hown hgr hkr
          go_wp2_with fail
          go_roundw
          case rel =>
            refine ⟨j + 1, by omega, ?_, HK5.out⟩
            have h := HS5.out
            rw [← HM4.out] at h
            have e : M ++ [128] ++ List.replicate (j + 1) 0 = M ++ [128] ++ List.replicate j 0 ++ [0] := by rw [List.replicate_succ', ← List.append_assoc]
            rw [e]; exact h
          case measure => have := HDL.out; have hl : M4.length = M.length + 1 + j := by rw [← HM4.out]; simp; omega
                          simp [vlen]; omega
end Go.Proofs.Ytamfgmlhopjppaa
