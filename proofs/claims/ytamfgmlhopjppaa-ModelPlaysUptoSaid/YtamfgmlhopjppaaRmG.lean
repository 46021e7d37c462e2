/-
  The document's model: Names.
-/
import Derived.Test.YtamfgmlhopjppaaGM
import Derived.Deep.DeepCutAuto
namespace Go.Proofs.Ytamfgmlhopjppaa
open Go.RowKit Go.ChangeShapes Go.WideShapes Go.ChangeAt

/-- the names so far, in memory -/
def OutV (w wr : World) (ov : Value) (out : List ByteArray) : Prop := (out = [] ∧ ov = .slice none 0 0) ∨ ∃ ad c, ov = .slice (some ad) out.length c ∧ 0 < out.length ∧ Rp.str.slice.R wr (fun k => w.heap.size ≤ k) [.slice (some ad) out.length c] out
theorem OutV.read {w wr : World} {ov : Value} {out : List ByteArray} (h : OutV w wr ov out) : ∃ A c, ov = .slice A out.length c ∧ Rp.str.slice.R wr (fun k => w.heap.size ≤ k) [.slice A out.length c] out := by
  rcases h with ⟨rfl, rfl⟩ | ⟨ad, c, rfl, _, h⟩
  · exact ⟨none, 0, rfl, Rp.none_ _ _ _⟩
  · exact ⟨some ad, c, rfl, h⟩
theorem OutV.keptNo {w wr w' : World} {ov : Value} {out : List ByteArray} (h : OutV w wr ov out) (hk : Kp No wr w') : OutV w w' ov out := by
  rcases h with h | ⟨ad, c, h1, h2, h3⟩
  · exact .inl h
  · exact .inr ⟨ad, c, h1, h2, Rp.str.slice.keptNo h3 hk⟩
set_option maxRecDepth 100000 in
set_option maxHeartbeats 16000000 in
theorem r_names26 {M : MV} {R : RV} (hrf : RefOk M R) (p : Int × Int) (r : Nat) (F : Nat → Prop) (w : World) (hM : RMAt w r R F) :
    Calls Try.prog 19 #[.pointer (some ⟨r, 0, none⟩), spotV p] w fun e w' => ∃ (A : Option Addr) (c : Nat), e = .returned (.tuple #[.slice A (namesM M p).length c, .bool (pathM M p).isSome]) ∧ Rp.str.slice.R w' (fun k => w.heap.size ≤ k) [.slice A (namesM M p).length c] (namesM M p) ∧ Kp No w w' := by
  have HPA := fun w' (hk : Kp No w w') => Lib.hid (r_path26' hrf p r F w' (hM.keptNo hk))
  have HFA := fun w' (hk : Kp No w w') (nm : ByteArray) => Lib.hid (r_fnd26 hrf p nm r F w' (hM.keptNo hk))
  obtain ⟨N, hN⟩ : ∃ N, namesM M p = N := ⟨_, rfl⟩
  rw [hN]
  have hpd := hrf.path p
  obtain ⟨L, hL⟩ : ∃ L, pathD M p = L := ⟨_, rfl⟩
  obtain ⟨TB, hTB⟩ : ∃ v, (pathM M p).isSome = v := ⟨_, rfl⟩
  unfold namesM at hN
  unfold findM at HFA
  rw [hL] at hN hpd
  rw [hL, hTB] at HPA
  rw [hL] at HFA
  rw [hTB]
  have HNE := Lib.hid hN
  have HPD := Lib.hid hpd.1
  have hll : (L.length : Int) ≤ 1000000 := by have := hpd.2; omega
  obtain ⟨sp, hsp⟩ : ∃ v, w.heap.size = v := ⟨_, rfl⟩
  obtain ⟨wa, hwa⟩ : ∃ v, w.alloc (.cells #[.int .i64 p.1, .int .i64 p.2] 37) = v := ⟨_, rfl⟩
  have hka : Kp No w wa := by rw [← hwa]; exact (Kp.refl _ _).alloc _
  have hba : Blk wa sp 37 [.int .i64 p.1, .int .i64 p.2] := by rw [← hwa, ← hsp]; exact Blk.new w _ _
  have s0 : wa.cell? ⟨sp, 0, none⟩ = some _ := Blk.cell hba rfl
  have s1 : wa.cell? ⟨sp, 1, none⟩ = some _ := Blk.cell hba rfl
  have HKA := Lib.hid hka
  have HPA2 := HPA wa hka
  have HBA := Lib.hid hba
  have HFN := Lib.hid HFA
  unfold spotV at HPA2 ⊢
  clear hM hrf hN hpd hL hTB hka hba HPA HFA
  go_enter Try.func19, Try.ntmps19
  go_wp2_with fail
  clear hwa hsp s0 s1
  refine HPA2.out.mono ?_
  rintro e w2 ⟨⟨A, c, rfl, hrd⟩, hk2⟩
  have HBS := Lib.hid (HBA.out.kept hk2 (fun z => z))
  have HK2 := Lib.hid (HKA.out.trans' hk2)
  have HRD := Lib.hid hrd
  clear hrd hk2 HPA2 HBA HKA
  go_wp2_with fail
  go_loopw [8, 9] (fun ov iv wr => ∃ (i : Nat) (out : List ByteArray), i ≤ L.length ∧ iv = .int .i64 (i : Int) ∧ Hid (NamesTo (liveL1 L) (L.take i) out) ∧ Hid (out.length ≤ i) ∧ Hid (OutV w wr ov out) ∧ Hid (Kp No w2 wr)) (fun _ iv _ => L.length - (intOf iv).toNat)
  case atStart => exact ⟨0, [], Nat.zero_le _, rfl, Lib.hid (NamesTo.nil _), Lib.hid (Nat.le_refl _), Lib.hid (.inl ⟨rfl, rfl⟩), Lib.hid (Kp.refl _ _)⟩
  case round =>
    obtain ⟨i, out, hi, rfl, HNT, HOL, HOV, HKR⟩ := hrel
    obtain ⟨Ao, co, rfl, hro⟩ := HOV.out.read
    by_cases hlt : i < L.length
    case neg =>
      obtain rfl : i = L.length := by omega
      have hon : out = N := by
        have h := HNT.out
        rw [List.take_length] at h
        rw [h.all (fun o ho => (HPD.out o ho).1), HNE.out]
      subst hon
      have HRO := Lib.hid hro
      clear hro hi hlt
      go_wp2_with fail
      exact bodyPost_ret (results_tmp2 rfl _ _ _) rfl ⟨Ao, co, rfl, HRO.out, HK2.out.trans' HKR.out⟩
    case pos =>
      have hli : (i : Int) < (L.length : Int) := by omega
      obtain ⟨o, ho⟩ : ∃ o, L[i]? = some o := ⟨_, List.getElem?_eq_getElem hlt⟩
      obtain ⟨ad, A', c', rfl, _, hcell, hnum, _⟩ := Rp.at_opl (Rp.opl.slice.keptNo HRD.out HKR.out) ho
      have HCE : Hid (∀ w', Kp No wr w' → ∀ (j : Nat) u, (o.cells (.slice A' o.hashes.length c'))[j]? = some u → w'.cell? ((ad.add (i * 9)).add j) = some u) := Lib.hid (fun w' hk j u hu => (hk.cell (lt_of_cell (hcell j u hu)) (fun z => z)).trans (hcell j u hu))
      have HNS : Hid (o.name.size ≤ maxLen) := Lib.hid hnum.2.2.2.2.2.2.1
      have HST1 : Hid (L.take (i + 1) = L.take i ++ [o]) := Lib.hid (take_snocM ho)
      have HRO := Lib.hid hro
      have HBS2 := Lib.hid (HBS.out.kept HKR.out (fun z => z))
      have HFI := Lib.hid (fun w' (hk : Kp No wr w') => (HFN.out w' (HK2.out.trans' (HKR.out.trans' hk)) o.name).out)
      obtain ⟨X, hX⟩ : ∃ X, mget o.name (liveL1 L) = X := ⟨_, rfl⟩
      rw [hX] at HFI
      have HX := Lib.hid hX
      obtain ⟨fo, hfo⟩ : ∃ v, X.getD zeroO = v := ⟨_, rfl⟩
      obtain ⟨LV, hLV⟩ : ∃ v, X.isSome = v := ⟨_, rfl⟩
      rw [hfo, hLV] at HFI
      have HLV := Lib.hid hLV
      unfold spotV opV at HFI
      have HBS := HBS2
      clear hcell hnum hro hX hfo hLV ho HBS2
      obtain ⟨on, oe, okd, os, oc, oq, onm, osz, ohs⟩ := o
      obtain ⟨fn, fe, fk, fs, fc, fq, fnm, fsz, fhs⟩ := fo
      simp only at HFI HCE HX HST1 HNS
      go_upto_region 6 with fail
      go_cut [11] (fun bv wx => bv = .bool LV ∧ Hid (Kp No wr wx))
      case first =>
        obtain ⟨wd, hwd⟩ : ∃ v, wr.drew = v := ⟨_, rfl⟩
        have HKD : Hid (Kp No wr wd) := Lib.hid (by rw [← hwd]; exact (Kp.refl _ _).drew)
        have s0 : wd.cell? ⟨sp, 0, none⟩ = some _ := Blk.cell (HBS.out.kept HKD.out (fun z => z)) rfl
        have s1 : wd.cell? ⟨sp, 1, none⟩ = some _ := Blk.cell (HBS.out.kept HKD.out (fun z => z)) rfl
        obtain ⟨z0, z1, z2, z3, z4, z5, z6, z7, z8⟩ := opl_cells (HCE.out wd HKD.out)
        refine Reg.wp_region_tree (.look 0 (.look 1 (.look 2 (.look 3 (.look 4 (.look 5 (.look 6 (.two 7 [] (.look 8 (.look 9 (.look 10 (.one 11 [9, 10] (.one 12 [10] (.look 13 (.done))))))) 11 [1, 4, 5, 6] (.one 7 [] (.look 8 (.look 9 (.look 10 (.one 12 [10] (.look 13 (.done)))))))))))))))  [7, 11, 12] rfl (by kernel_rfl) ?_
        rw [hwd]
        clear hwd
        repeat (first | (refine Reg.lookT rfl rfl rfl (by go_simp; rfl) rfl ?_; go_simp))
        refine Reg.twoT rfl rfl ?_ ?_
        · skip
          go_wp2_with fail
          refine (HFI.out wd HKD.out).mono ?_
          rintro e w4 ⟨A6, c6, rfl, _, hk4⟩
          have HK4 := Lib.hid (HKD.out.trans' hk4)
          clear hk4
          clear s0 s1 z0 z1 z2 z3 z4 z5 z6 z7 z8
          go_wp2_with fail
          (refine ⟨?anew, ?_⟩; case anew => ((repeat (refine Reg.anew_cons rfl rfl (fun _ => by go_simp) ?_)); exact Reg.anew_nil))
          repeat (first | (refine Reg.lookT rfl rfl rfl (by go_simp; rfl) rfl ?_; go_simp))
          obtain ⟨z, hz⟩ : ∃ v, w4.heap.size = v := ⟨_, rfl⟩
          obtain ⟨w5, hw5⟩ : ∃ v, w4.alloc (.cells #[.int .i64 0, .int .i64 0, .int .i64 0, .int .i64 0, .int .i64 0, .int .i64 0, .string { data := #[] }, .int .i64 0, .slice none 0 0] 58) = v := ⟨_, rfl⟩
          have HBZ : Hid (Blk w5 z 58 (zeroO.cells (.slice none 0 0))) := Lib.hid (by rw [← hw5, ← hz]; exact Blk.new w4 _ _)
          have HK5 : Hid (Kp No wr w5) := Lib.hid (by rw [← hw5]; exact HK4.out.alloc _)
          have HZW : Hid (wr.heap.size ≤ z) := Lib.hid (by rw [← hz]; exact HK4.out.size)
          refine Reg.oneT rfl ?_
          go_wp2_with fail
          clear hw5 hz
          (refine ⟨?anew, ?_⟩; case anew => ((repeat (refine Reg.anew_cons rfl rfl (fun _ => by go_simp) ?_)); exact Reg.anew_nil))
          repeat (first | (refine Reg.lookT rfl rfl rfl (by go_simp; rfl) rfl ?_; go_simp))
          have hst := run_store_opAt w5 z 0 ⟨fn, fe, fk, fs, fc, fq, fnm, fsz, fhs⟩ A6 fhs.length c6 zeroO (.slice none 0 0) (fun k u hu => by
            have := HBZ.out.cell (i := k) (u := u) hu
            simpa using this) (Blk.fr HBZ.out)
          have hk6 : Kp (· = z) w5 (wset w5 z 0 ((⟨fn, fe, fk, fs, fc, fq, fnm, fsz, fhs⟩ : OpL).cells (.slice A6 fhs.length c6))) := wset_kp
          obtain ⟨w6, hw6⟩ : ∃ v, wset w5 z 0 ((⟨fn, fe, fk, fs, fc, fq, fnm, fsz, fhs⟩ : OpL).cells (.slice A6 fhs.length c6)) = v := ⟨_, rfl⟩
          rw [hw6] at hst hk6
          have HK6 : Hid (Kp No wr w6) := Lib.hid (HK5.out.trans hk6 (fun k hk e => by have := HZW.out; omega))
          have HST := Lib.hid hst
          unfold opV at HST
          clear hst hk6 hw6
          refine Reg.oneT rfl ?_
          go_wp2_with (refine wpl_store (by first | rfl | go_simp) 58 _ _ rfl _ _ (by go_simp) (by go_simp) HST.out ?_; go_simp)
          (refine ⟨?anew, ?_⟩; case anew => ((repeat (refine Reg.anew_cons rfl rfl (fun _ => by go_simp) ?_)); exact Reg.anew_nil))
          repeat (first | (refine Reg.lookT rfl rfl rfl (by go_simp; rfl) rfl ?_; go_simp))
          refine Reg.doneT ?_
          simp only [Exit.then]
          go_wp2_with fail
          go_meet
          exact ⟨rfl, HK6⟩
        · skip
          obtain ⟨z, hz⟩ : ∃ v, wd.heap.size = v := ⟨_, rfl⟩
          obtain ⟨w5, hw5⟩ : ∃ v, wd.alloc (.cells #[.int .i64 0, .int .i64 0, .int .i64 0, .int .i64 0, .int .i64 0, .int .i64 0, .string { data := #[] }, .int .i64 0, .slice none 0 0] 58) = v := ⟨_, rfl⟩
          have HBZ : Hid (Blk w5 z 58 (zeroO.cells (.slice none 0 0))) := Lib.hid (by rw [← hw5, ← hz]; exact Blk.new wd _ _)
          have HK5 : Hid (Kp No wr w5) := Lib.hid (by rw [← hw5]; exact HKD.out.alloc _)
          have HZW : Hid (wr.heap.size ≤ z) := Lib.hid (by rw [← hz]; exact HKD.out.size)
          go_wp2_with fail
          clear hw5 hz
          clear s0 s1 z0 z1 z2 z3 z4 z5 z6 z7 z8
          have s0 : w5.cell? ⟨sp, 0, none⟩ = some _ := Blk.cell (HBS.out.kept HK5.out (fun z => z)) rfl
          have s1 : w5.cell? ⟨sp, 1, none⟩ = some _ := Blk.cell (HBS.out.kept HK5.out (fun z => z)) rfl
          obtain ⟨z0, z1, z2, z3, z4, z5, z6, z7, z8⟩ := opl_cells (HCE.out w5 HK5.out)
          (refine ⟨?anew, ?_⟩; case anew => ((repeat (refine Reg.anew_cons rfl rfl (fun _ => by go_simp) ?_)); exact Reg.anew_nil))
          repeat (first | (refine Reg.lookT rfl rfl rfl (by go_simp; rfl) rfl ?_; go_simp))
          refine Reg.oneT rfl ?_
          go_wp2_with fail
          refine (HFI.out w5 HK5.out).mono ?_
          rintro e w4 ⟨A6, c6, rfl, _, hk4⟩
          have HK4 := Lib.hid (HK5.out.trans' hk4)
          have HBZ := Lib.hid (HBZ.out.kept hk4 (fun z => z))
          clear hk4
          clear s0 s1 z0 z1 z2 z3 z4 z5 z6 z7 z8
          go_wp2_with fail
          (refine ⟨?anew, ?_⟩; case anew => ((repeat (refine Reg.anew_cons rfl rfl (fun _ => by go_simp) ?_)); exact Reg.anew_nil))
          repeat (first | (refine Reg.lookT rfl rfl rfl (by go_simp; rfl) rfl ?_; go_simp))
          have hst := run_store_opAt w4 z 0 ⟨fn, fe, fk, fs, fc, fq, fnm, fsz, fhs⟩ A6 fhs.length c6 zeroO (.slice none 0 0) (fun k u hu => by
            have := HBZ.out.cell (i := k) (u := u) hu
            simpa using this) (Blk.fr HBZ.out)
          have hk6 : Kp (· = z) w4 (wset w4 z 0 ((⟨fn, fe, fk, fs, fc, fq, fnm, fsz, fhs⟩ : OpL).cells (.slice A6 fhs.length c6))) := wset_kp
          obtain ⟨w6, hw6⟩ : ∃ v, wset w4 z 0 ((⟨fn, fe, fk, fs, fc, fq, fnm, fsz, fhs⟩ : OpL).cells (.slice A6 fhs.length c6)) = v := ⟨_, rfl⟩
          rw [hw6] at hst hk6
          have HK6 : Hid (Kp No wr w6) := Lib.hid (HK4.out.trans hk6 (fun k hk e => by have := HZW.out; omega))
          have HST := Lib.hid hst
          unfold opV at HST
          clear hst hk6 hw6
          refine Reg.oneT rfl ?_
          go_wp2_with (refine wpl_store (by first | rfl | go_simp) 58 _ _ rfl _ _ (by go_simp) (by go_simp) HST.out ?_; go_simp)
          (refine ⟨?anew, ?_⟩; case anew => ((repeat (refine Reg.anew_cons rfl rfl (fun _ => by go_simp) ?_)); exact Reg.anew_nil))
          repeat (first | (refine Reg.lookT rfl rfl rfl (by go_simp; rfl) rfl ?_; go_simp))
          refine Reg.doneT ?_
          simp only [Exit.then]
          go_wp2_with fail
          go_meet
          exact ⟨rfl, HK6⟩
      case rest =>
        obtain ⟨rfl, HKC⟩ := hcut
        have HKW := Lib.hid (HKR.out.trans' HKC.out)
        have HRO2 : Hid (OutV w wc (.slice Ao out.length co) out) := Lib.hid (HOV.out.keptNo HKC.out)
        obtain ⟨z0, z1, z2, z3, z4, z5, z6, z7, z8⟩ := opl_cells (HCE.out wc HKC.out)
        cases LV
        case false =>
          clear z0 z1 z2 z3 z4 z5 z6 z7 z8
          go_wp2_with fail
          go_roundw
          case rel => exact ⟨i + 1, out, by omega, by go_num, by rw [HST1.out]; exact Lib.hid (HNT.out.skip (fun h => by have h1 := h.2; simp only at h1; rw [HX.out, HLV.out] at h1; cases h1)), Lib.hid (by have := HOL.out; omega), HRO2, HKW⟩
          case measure => simp [intOf]; omega
        case true =>
          by_cases k3 : okd = 3
          case pos =>
            have kb : (okd == 3) = true := beq_iff_eq.2 k3
            have HK3 := Lib.hid k3
            clear k3
            go_wp2_with fail
            go_roundw
            case rel => exact ⟨i + 1, out, by omega, by go_num, by rw [HST1.out]; exact Lib.hid (HNT.out.skip (fun h => h.1 HK3.out)), Lib.hid (by have := HOL.out; omega), HRO2, HKW⟩
            case measure => simp [intOf]; omega
          case neg =>
            have kb : (okd == 3) = false := beq_eq_false_iff_ne.2 k3
            have HK3 := Lib.hid k3
            clear k3
            go_wp2_with fail
            have HAO : Hid (∀ w', Kp No wc w' → ∀ (j : Nat) x, out[j]? = some x → ∃ ado, Ao = some ado ∧ w'.cell? (ado.add j) = some (.string x)) := Lib.hid (fun w' hk j x hx => by
              obtain ⟨ado, h1, _, h2, _⟩ := Rp.at_str (Rp.str.slice.keptNo HRO.out (HKC.out.trans' hk)) hx
              exact ⟨ado, h1, h2⟩)
            have hol : (out.length : Int) ≤ 1000000 := by have := HOL.out; omega
            clear z0 z1 z2 z3 z4 z5 z6 z7 z8
            go_loopw [12] (fun kv wx => ∃ k : Nat, k ≤ out.length ∧ kv = .int .i64 (k : Int) ∧ Hid (∀ j x, j < k → out[j]? = some x → nlt x onm) ∧ Hid (Kp No wc wx)) (fun kv _ => out.length - (intOf kv).toNat)
            case atStart => exact ⟨0, Nat.zero_le _, rfl, Lib.hid (fun j x hj => absurd hj (by omega)), Lib.hid (Kp.refl _ _)⟩
            case round =>
              obtain ⟨k, hk, rfl, HLO, HKX⟩ := hrel
              obtain ⟨CB, HCB⟩ : ∃ CB : Bool, Hid ((CB = true ∧ ∃ x, out[k]? = some x ∧ nlt x onm) ∨ (CB = false ∧ AtK k onm out)) := by
                by_cases hkt : k < out.length
                · obtain ⟨x, hx⟩ : ∃ x, out[k]? = some x := ⟨_, List.getElem?_eq_getElem hkt⟩
                  by_cases hlx : nlt x onm
                  · exact ⟨true, Lib.hid (.inl ⟨rfl, x, hx, hlx⟩)⟩
                  · exact ⟨false, Lib.hid (.inr ⟨rfl, by omega, HLO.out, .inr ⟨x, hx, hlx⟩⟩)⟩
                · exact ⟨false, Lib.hid (.inr ⟨rfl, hk, HLO.out, .inl (by omega)⟩)⟩
              go_upto_region 9 with fail
              go_cut [62] (fun bv wx => bv = .bool CB ∧ Hid (Kp No wr wx))
              case first =>
                obtain ⟨z0, z1, z2, z3, z4, z5, z6, z7, z8⟩ := opl_cells (HCE.out wr (HKC.out.trans' HKX.out))
                by_cases hkt : k < out.length
                case neg =>
                  obtain rfl : k = out.length := by omega
                  obtain rfl : CB = false := by
                    rcases HCB.out with ⟨_, x, h, _⟩ | h
                    · simp at h
                    · exact h.1
                  clear hk hkt
                  go_quiet (fail)
                  go_wp2_with fail
                  go_meet
                  exact ⟨rfl, Lib.hid ((Kp.refl _ _).drewN _)⟩
                case pos =>
                  have hki : (k : Int) < (out.length : Int) := by omega
                  obtain ⟨x, hx⟩ : ∃ x, out[k]? = some x := ⟨_, List.getElem?_eq_getElem hkt⟩
                  obtain ⟨ado, hado, hcx⟩ := HAO.out wr HKX.out k x hx
                  subst hado
                  by_cases hlx : nlt x onm
                  case pos =>
                    have hb : Op.bytesLess x.toList onm.toList = true := by rw [less_nltR]; exact decide_eq_true hlx
                    obtain rfl : CB = true := by
                      rcases HCB.out with h | ⟨_, _, _, h | ⟨y, h1, h2⟩⟩
                      · exact h.1
                      · omega
                      · rw [hx] at h1; injection h1 with h1; exact absurd (h1 ▸ hlx) h2
                    clear hlx hx
                    go_quiet (fail)
                    go_wp2_with fail
                    go_meet
                    exact ⟨rfl, Lib.hid ((Kp.refl _ _).drewN _)⟩
                  case neg =>
                    have hb : Op.bytesLess x.toList onm.toList = false := by rw [less_nltR]; exact decide_eq_false hlx
                    obtain rfl : CB = false := by
                      rcases HCB.out with ⟨_, y, h1, h2⟩ | h
                      · rw [hx] at h1; injection h1 with h1; exact absurd (h1 ▸ h2) hlx
                      · exact h.1
                    clear hlx hx
                    go_quiet (fail)
                    go_wp2_with fail
                    go_meet
                    exact ⟨rfl, Lib.hid ((Kp.refl _ _).drewN _)⟩
              case rest =>
                obtain ⟨rfl, HKY⟩ := hcut
                have HKD := Lib.hid (HKX.out.trans' HKY.out)
                cases CB
                case true =>
                  obtain ⟨x, hx, hlx⟩ : ∃ x, out[k]? = some x ∧ nlt x onm := by
                    rcases HCB.out with h | h
                    · exact h.2
                    · cases h.1
                  have hkt : k < out.length := (List.getElem?_eq_some_iff.1 hx).1
                  have HLO2 : Hid (∀ j q, j < k + 1 → out[j]? = some q → nlt q onm) := Lib.hid (fun j q hj hq => by
                    rcases Nat.lt_or_ge j k with h | h
                    · exact HLO.out j q h hq
                    · obtain rfl : j = k := by omega
                      rw [hx] at hq; injection hq with hq
                      rw [← hq]; exact hlx)
                  clear hx hlx
                  go_wp2_with fail
                  go_roundw
                  case rel => exact ⟨k + 1, by omega, by go_num, HLO2, HKD⟩
                  case measure => simp [intOf]; omega
                case false =>
                  have HAK : Hid (AtK k onm out) := Lib.hid (by
                    rcases HCB.out with h | h
                    · cases h.1
                    · exact h.2)
                  clear HCB HLO
                  go_upto_region 11 with fail
                  obtain ⟨w9, rfl⟩ : ∃ v, v = wc := ⟨_, rfl⟩
                  obtain ⟨DB, hDB⟩ : ∃ v, decide (out[k]? ≠ some onm) = v := ⟨_, rfl⟩
                  have HDB := Lib.hid hDB
                  clear hDB
                  go_cut [80] (fun bv wx => bv = .bool DB ∧ Hid (Kp No w9 wx))
                  case first =>
                    obtain ⟨z0, z1, z2, z3, z4, z5, z6, z7, z8⟩ := opl_cells (HCE.out w9 (HKC.out.trans' HKD.out))
                    by_cases hkt : k < out.length
                    case neg =>
                      obtain rfl : k = out.length := by omega
                      obtain rfl : DB = true := by rw [← HDB.out]; simp
                      clear hk hkt
                      go_quiet (fail)
                      go_wp2_with fail
                      go_meet
                      exact ⟨rfl, Lib.hid ((Kp.refl _ _).drewN _)⟩
                    case pos =>
                      have hki : (k : Int) < (out.length : Int) := by omega
                      have hke : ((k : Int) == (out.length : Int)) = false := beq_eq_false_iff_ne.2 (by omega)
                      obtain ⟨x, hx⟩ : ∃ x, out[k]? = some x := ⟨_, List.getElem?_eq_getElem hkt⟩
                      obtain ⟨ado, hado, hcx⟩ := HAO.out w9 HKD.out k x hx
                      subst hado
                      by_cases hxe : x = onm
                      case pos =>
                        have hb : (x.toList == onm.toList) = true := by rw [bytes_list_beq]; exact decide_eq_true hxe
                        obtain rfl : DB = false := by rw [← HDB.out, hx, hxe]; simp
                        clear hxe hx
                        go_quiet (fail)
                        go_wp2_with fail
                        go_meet
                        exact ⟨rfl, Lib.hid ((Kp.refl _ _).drewN _)⟩
                      case neg =>
                        have hb : (x.toList == onm.toList) = false := by rw [bytes_list_beq]; exact decide_eq_false hxe
                        obtain rfl : DB = true := by rw [← HDB.out, hx]; simp [hxe]
                        clear hxe hx
                        go_quiet (fail)
                        go_wp2_with fail
                        go_meet
                        exact ⟨rfl, Lib.hid ((Kp.refl _ _).drewN _)⟩
                  case rest =>
                    obtain ⟨rfl, HKE⟩ := hcut
                    have HKG := Lib.hid (HKW.out.trans' (HKD.out.trans' HKE.out))
                    have HOVE := Lib.hid (HRO2.out.keptNo (HKD.out.trans' HKE.out))
                    have HNP : Hid (NamesTo (liveL1 L) (L.take (i + 1)) (insK k onm out)) := Lib.hid (by
                      rw [HST1.out]
                      exact HNT.out.put (o := ⟨on, oe, okd, os, oc, oq, onm, osz, ohs⟩) HK3.out (by simp only; rw [HX.out, HLV.out]) HAK.out)
                    cases DB
                    case false =>
                      have hio : insK k onm out = out := by
                        unfold insK
                        rw [if_pos (by have := HDB.out; simpa using this)]
                      rw [hio] at HNP
                      clear hio
                      go_wp2_with fail
                      go_roundw
                      case rel => exact ⟨i + 1, out, by omega, by go_num, HNP, Lib.hid (by have := HOL.out; omega), HOVE, HKG⟩
                      case measure => simp [intOf]; omega
                    case true =>
                      have hio : insK k onm out = out.take k ++ onm :: out.drop k := by
                        unfold insK
                        rw [if_neg (by have := HDB.out; simpa using this)]
                      rw [hio] at HNP
                      clear hio
                      go_upto_region 12 with fail
                      obtain ⟨wx, rfl⟩ : ∃ v, v = wc := ⟨_, rfl⟩
                      obtain ⟨m, hm⟩ : ∃ v, out.drop k = v := ⟨_, rfl⟩
                      obtain ⟨T, hT⟩ : ∃ v, out.take k = v := ⟨_, rfl⟩
                      have hml : out.length - k = m.length := by rw [← hm, List.length_drop]
                      have hkl : k ≤ out.length := HAK.out.1
                      have HTL : Hid (T.length = k) := Lib.hid (by rw [← hT, List.length_take]; omega)
                      have HMD := Lib.hid hm
                      have HTD := Lib.hid hT
                      rw [hm, hT] at HNP
                      clear hm hT
                      go_cut [13] (fun rv wy => ∃ A13 c13, rv = .slice A13 m.length c13 ∧ Hid (Own Rp.str wy No wx.heap.size 9 (.slice A13 m.length c13) m) ∧ Hid (Kp No wx wy))
                      case first =>
                        have hkI : (k : Int) ≤ (out.length : Int) := by omega
                        have hmb : m.length ≤ 1000000 := by omega
                        rcases HOVE.out with ⟨ho1, ho2⟩ | ⟨ado, c0, ho1, ho2, ho3⟩
                        · subst ho1
                          injection ho2 with e1 e2 e3
                          subst e1 e3
                          obtain rfl : k = 0 := by simpa using hkl
                          obtain rfl : m = [] := by rw [← HMD.out]; rfl
                          simp only [List.length_nil]
                          have HM : Hid (Rp.str.slice.R wx (fun k => w.heap.size ≤ k) [.slice none ([] : List ByteArray).length 0] []) := Lib.hid (Rp.none_ _ _ _)
                          clear hml hkl hkI hmb
                          go_wp2_with (at_builtin; refine wpList_copy_lit (E := Rp.str) rfl wx (.tmp 81) (.tmp 84) 38 rfl 9 16 el_strL rfl none 0 (fun k => w.heap.size ≤ k) [] rfl HM.out Rp.str_one (by simp) ?_)
                          intro A13 c13 w13 hown hk13
                          have HO := Lib.hid (hown.str_any No)
                          have HK := Lib.hid hk13
                          clear hown hk13
                          go_wp2_with fail
                          go_meet
                          exact ⟨A13, c13, rfl, HO, HK⟩
                        · injection ho1 with e1 e2 e3
                          subst e1 e3
                          by_cases hck : co = k
                          · have hcl : out.length ≤ co := by
                              obtain ⟨_, _, he, h1, _⟩ := ho3
                              simp only [List.cons.injEq, Value.slice.injEq, and_true] at he
                              omega
                            subst hck
                            obtain rfl : m = [] := List.eq_nil_of_length_eq_zero (by omega)
                            have hcc : co - co = 0 := Nat.sub_self co
                            have HM : Hid (Rp.str.slice.R wx (fun k => w.heap.size ≤ k) [.slice (some ado) ([] : List ByteArray).length 0] []) := Lib.hid ⟨_, _, rfl, Nat.le_refl _, by simp, fun h => absurd h (by simp)⟩
                            simp only [List.length_nil] at hml ⊢
                            clear ho3 ho2 hmb hcl
                            go_wp2_with (at_builtin; refine wpList_copy_lit (E := Rp.str) rfl wx (.tmp 81) (.tmp 84) 38 rfl 9 16 el_strL rfl (some ado) 0 (fun k => w.heap.size ≤ k) [] rfl HM.out Rp.str_one (by simp) ?_)
                            intro A13 c13 w13 hown hk13
                            have HO := Lib.hid (hown.str_any No)
                            have HK := Lib.hid hk13
                            clear hown hk13
                            go_wp2_with fail
                            go_meet
                            exact ⟨A13, c13, rfl, HO, HK⟩
                          · have HM : Hid (Rp.str.slice.R wx (fun k => w.heap.size ≤ k) [.slice (some (ado.add k)) m.length (co - k)] m) := Lib.hid (by
                              have h1 := Rp.cut ho3 hkl
                              rw [HMD.out, show k * Rp.str.size = k from Nat.mul_one k] at h1
                              exact h1)
                            clear ho3 ho2
                            go_wp2_with (at_builtin; refine wpList_copy_lit (E := Rp.str) rfl wx (.tmp 81) (.tmp 84) 38 rfl 9 16 el_strL rfl (some (ado.add k)) (co - k) (fun k => w.heap.size ≤ k) m rfl HM.out Rp.str_one (by omega) ?_)
                            intro A13 c13 w13 hown hk13
                            have HO := Lib.hid (hown.str_any No)
                            have HK := Lib.hid hk13
                            clear hown hk13
                            go_wp2_with fail
                            go_meet
                            exact ⟨A13, c13, rfl, HO, HK⟩
                      case rest =>
                        obtain ⟨A13, c13, rfl, HO13, HKH⟩ := hcut
                        have HML : Hid (m.length ≤ 1000000) := Lib.hid (by omega)
                        have HKO : Hid (k ≤ 1000000) := Lib.hid (by omega)
                        have HML2 : Hid (m.length + k = out.length) := Lib.hid (by omega)
                        have hol2 := HOL.out
                        rcases HOVE.out with ⟨ho1, ho2⟩ | ⟨ado, c0, ho1, ho2, ho3⟩
                        · subst ho1
                          injection ho2 with e1 e2 e3
                          subst e1 e3
                          obtain rfl : k = 0 := by simpa using hkl
                          have HT14 : Hid (∀ w', Kp No wx w' → Rp.str.slice.R w' (fun k => w.heap.size ≤ k) [.slice none T.length T.length] T) := Lib.hid (fun w' _ => by
                            obtain rfl : T = [] := List.eq_nil_of_length_eq_zero HTL.out
                            exact Rp.none_ _ _ _)
                          obtain rfl : m = [] := by rw [← HMD.out]; rfl
                          simp only [List.length_nil]
                          clear hml
                          go_upto_region 13 with fail
                          obtain ⟨wd, hwd⟩ : ∃ v, wc.drew = v := ⟨_, rfl⟩
                          have hkd : Kp No wc wd := by rw [← hwd]; exact (Kp.refl _ _).drew
                          obtain ⟨z0, z1, z2, z3, z4, z5, z6, z7, z8⟩ := opl_cells (HCE.out wd ((HKC.out.trans' HKD.out).trans' (HKE.out.trans' (HKH.out.trans' hkd))))
                          obtain ⟨g14, hg14⟩ : ∃ v, wd.heap.size = v := ⟨_, rfl⟩
                          obtain ⟨w14, hw14⟩ : ∃ v, wd.alloc (.cells #[.string onm] 9) = v := ⟨_, rfl⟩
                          have hk14 : Kp No wd w14 := by rw [← hw14]; exact (Kp.refl _ _).alloc _
                          have hsz14 : w14.heap.size = g14 + 1 := by rw [← hw14, ← hg14]; simp
                          have hb14 : Blk w14 g14 9 [.string onm] := by rw [← hw14, ← hg14]; exact Blk.new wd _ _
                          have HKA := Lib.hid (HK2.out.trans' HKG.out)
                          have HKB := Lib.hid (HKH.out.trans' hkd)
                          have HL14 : Hid (Rp.str.slice.R w14 (fun k => w.heap.size ≤ k) [.slice (some ⟨g14, 0, none⟩) 1 1] [onm]) := Lib.hid (by
                            refine ⟨_, _, rfl, Nat.le_refl _, by unfold maxLen; simp, fun _ => ⟨_, rfl, (by have := (HKA.out.trans' HKB.out).size; show w.heap.size ≤ g14; omega), fun i a hi => ?_⟩⟩
                            obtain rfl : i = 0 := by have := (List.getElem?_eq_some_iff.1 hi).1; simp at this; exact this
                            injection hi with hi
                            subst hi
                            refine ⟨[.string onm], fun j u hu => ?_, rfl, HNS.out⟩
                            rw [Addr.add_lit, Addr.add_lit]
                            have h2 := hb14.cell hu
                            simpa using h2)
                          have HO14 := Lib.hid (HO13.out.keptNo (hkd.trans' hk14))
                          have HS14 := Lib.hid hsz14
                          have HK14 := Lib.hid (HKB.out.trans' hk14)
                          clear hkd hk14 hb14 hsz14
                          refine Reg.wp_region_plan [⟨0, false, []⟩, ⟨1, false, []⟩, ⟨2, false, []⟩, ⟨3, false, []⟩, ⟨4, false, []⟩, ⟨5, false, []⟩, ⟨6, false, []⟩, ⟨7, false, []⟩, ⟨8, false, []⟩, ⟨11, false, []⟩, ⟨9, true, [3]⟩, ⟨10, true, []⟩, ⟨12, true, []⟩, ⟨13, false, []⟩] rfl (by kernel_rfl) ?_
                          rw [hwd]
                          clear hwd
                          repeat (first | (refine Reg.look rfl rfl rfl (by go_simp; rfl) rfl ?_; go_simp) | (refine Reg.skip rfl rfl rfl ?_; go_simp))
                          refine Reg.act rfl ?_
                          go_wp2_with fail
                          clear hw14 hg14 z0 z1 z2 z3 z4 z5 z6 z7 z8
                          (refine ⟨?anew, ?_⟩; case anew => ((repeat (refine Reg.anew_cons rfl rfl (fun _ => by go_simp) ?_)); exact Reg.anew_nil))
                          repeat (first | (refine Reg.look rfl rfl rfl (by go_simp; rfl) rfl ?_; go_simp) | (refine Reg.skip rfl rfl rfl ?_; go_simp))
                          refine Reg.act rfl ?_
                          refine wpList_append_full (E := Rp.str) rfl w14 (.tmp 89) (.tmp 95) 38 rfl 9 16 el_strL (fun k => w.heap.size ≤ k) none T (by rw [HTL.out]; rfl) (HT14.out w14 (HK14.out)) (some ⟨g14, 0, none⟩) 1 [onm] rfl HL14.out (by simp) Rp.str_one (by have := HTL.out; have := HKO.out; simp [maxLen]; omega) (by have := HTL.out; have := HKO.out; simp; omega) ?_
                          intro A15 c15 w15 hown15 hk15
                          have HO15 := Lib.hid (hown15.str_any (fun k => k < w14.heap.size))
                          have HM15 := Lib.hid (Rp.str.slice.more (Rp.str.slice.bnd (HO14.out.keptNo hk15).readFrom) (fun _ h => h))
                          have HM14 := Lib.hid (Rp.str.slice.keptNo (Rp.str.slice.more (Rp.str.slice.bnd HO14.out.readFrom) (fun k h => h.2)) hk15)
                          have HK15 := Lib.hid hk15
                          obtain ⟨n15, hn15⟩ : ∃ v, (T ++ [onm]).length = v := ⟨_, rfl⟩
                          have HN15 := Lib.hid hn15
                          rw [hn15] at HO15
                          rw [hn15]
                          clear hown15 hk15 hn15
                          go_wp2_with fail
                          (refine ⟨?anew, ?_⟩; case anew => ((repeat (refine Reg.anew_cons rfl rfl (fun _ => by go_simp) ?_)); exact Reg.anew_nil))
                          repeat (first | (refine Reg.look rfl rfl rfl (by go_simp; rfl) rfl ?_; go_simp) | (refine Reg.skip rfl rfl rfl ?_; go_simp))
                          refine Reg.act rfl ?_
                          refine wpList_append_rp (E := Rp.str) rfl _ (.tmp 96) (.tmp 97) 38 rfl w14.heap.size 9 16 el_strL (fun k => k < w14.heap.size) (.slice A15 n15 c15) (T ++ [onm]) rfl HO15.out A13 c13 (fun k => k < w14.heap.size) [] rfl HM14.out Rp.str_one (by have := HTL.out; have := HKO.out; have := HML.out; simp [maxLen]; omega) (by have := HTL.out; have := HKO.out; have := HML.out; simp; omega) HK15.out.size (fun _ h => h) (fun k hk e => by have := (HO15.out.lt k hk).1; omega) ?_
                          intro v16 w16 hown16 hgr16 _
                          have HLN : Hid ((T ++ [onm]) ++ [] = T ++ onm :: []) := Lib.hid (by simp)
                          rw [HLN.out] at hown16
                          have HKZ : Hid (Kp No w2 w16) := Lib.hid ((HKG.out.trans' (HK14.out.trans' HK15.out)).grown hgr16 (fun k hk hlt => by have h1 := (HO15.out.lt k hk).1; have h2 := (HKG.out.trans' HK14.out).size; omega))
                          have HOV9 : Hid (OutV w w16 v16 (T ++ onm :: [])) := Lib.hid (by
                            obtain ⟨A16, c16, hsh⟩ := hown16.shape
                            subst hsh
                            have hr := Rp.str.slice.more (hown16.str_any No).readFrom (fun k hk => (by
                              rcases hk with hk | hk
                              · exact hk.elim
                              · have := (HKA.out.trans' HK14.out).size; omega : w.heap.size ≤ k))
                            cases A16 with
                            | none => have := nil_of_none hr; simp at this
                            | some a16 => exact .inr ⟨a16, c16, rfl, by simp only [List.length_append, List.length_cons]; omega, hr⟩)
                          have HLE : Hid ((T ++ onm :: []).length ≤ i + 1) := Lib.hid (by have := HOL.out; have := HTL.out; have := HML2.out; simp; omega)
                          obtain ⟨A17, c17, hsh17⟩ := hown16.shape
                          obtain ⟨n17, hn17⟩ : ∃ v, (T ++ onm :: []).length = v := ⟨_, rfl⟩
                          rw [hn17] at hsh17
                          subst hsh17
                          clear hown16 hgr16 hn17 HO15 HM14 HM15 HO14 HL14
                          go_wp2_with fail
                          (refine ⟨?anew, ?_⟩; case anew => ((repeat (refine Reg.anew_cons rfl rfl (fun _ => by go_simp) ?_)); exact Reg.anew_nil))
                          repeat (first | (refine Reg.look rfl rfl rfl (by go_simp; rfl) rfl ?_; go_simp) | (refine Reg.skip rfl rfl rfl ?_; go_simp))
                          (refine Reg.done ?_; simp only [Exit.then])
                          go_wp2_with fail
                          go_roundw
                          case rel => exact ⟨i + 1, _, by omega, by go_num, HNP, HLE, HOV9, HKZ⟩
                          case measure => simp [intOf]; omega
                        · injection ho1 with e1 e2 e3
                          subst e1 e3
                          have hcl : out.length ≤ co := by
                            obtain ⟨_, _, he, h1, _⟩ := ho3
                            simp only [List.cons.injEq, Value.slice.injEq, and_true] at he
                            omega
                          have hj0 : (0 : Int) ≤ (k : Int) := by omega
                          have hkc : (k : Int) ≤ (co : Int) := by omega
                          have hkc2 : k ≤ co := by omega
                          have HT14 : Hid (∀ w', Kp No wx w' → Rp.str.slice.R w' (fun k => w.heap.size ≤ k) [.slice (some ado) T.length T.length] T) := Lib.hid (fun w' hk' => by
                            have h1 := Rp.head (Rp.str.slice.keptNo ho3 hk') hkl
                            rw [HTD.out] at h1
                            obtain ⟨A9, c9, he, h2, h3, h4⟩ := h1
                            simp only [List.cons.injEq, Value.slice.injEq, and_true, true_and] at he
                            obtain ⟨rfl, rfl⟩ := he
                            exact ⟨_, _, rfl, Nat.le_refl _, Nat.le_trans h2 h3, h4⟩)
                          clear hml ho3
                          go_upto_region 13 with fail
                          obtain ⟨wd, hwd⟩ : ∃ v, wc.drew = v := ⟨_, rfl⟩
                          have hkd : Kp No wc wd := by rw [← hwd]; exact (Kp.refl _ _).drew
                          obtain ⟨z0, z1, z2, z3, z4, z5, z6, z7, z8⟩ := opl_cells (HCE.out wd ((HKC.out.trans' HKD.out).trans' (HKE.out.trans' (HKH.out.trans' hkd))))
                          obtain ⟨g14, hg14⟩ : ∃ v, wd.heap.size = v := ⟨_, rfl⟩
                          obtain ⟨w14, hw14⟩ : ∃ v, wd.alloc (.cells #[.string onm] 9) = v := ⟨_, rfl⟩
                          have hk14 : Kp No wd w14 := by rw [← hw14]; exact (Kp.refl _ _).alloc _
                          have hsz14 : w14.heap.size = g14 + 1 := by rw [← hw14, ← hg14]; simp
                          have hb14 : Blk w14 g14 9 [.string onm] := by rw [← hw14, ← hg14]; exact Blk.new wd _ _
                          have HKA := Lib.hid (HK2.out.trans' HKG.out)
                          have HKB := Lib.hid (HKH.out.trans' hkd)
                          have HL14 : Hid (Rp.str.slice.R w14 (fun k => w.heap.size ≤ k) [.slice (some ⟨g14, 0, none⟩) 1 1] [onm]) := Lib.hid (by
                            refine ⟨_, _, rfl, Nat.le_refl _, by unfold maxLen; simp, fun _ => ⟨_, rfl, (by have := (HKA.out.trans' HKB.out).size; show w.heap.size ≤ g14; omega), fun i a hi => ?_⟩⟩
                            obtain rfl : i = 0 := by have := (List.getElem?_eq_some_iff.1 hi).1; simp at this; exact this
                            injection hi with hi
                            subst hi
                            refine ⟨[.string onm], fun j u hu => ?_, rfl, HNS.out⟩
                            rw [Addr.add_lit, Addr.add_lit]
                            have h2 := hb14.cell hu
                            simpa using h2)
                          have HO14 := Lib.hid (HO13.out.keptNo (hkd.trans' hk14))
                          have HS14 := Lib.hid hsz14
                          have HK14 := Lib.hid (HKB.out.trans' hk14)
                          clear hkd hk14 hb14 hsz14
                          refine Reg.wp_region_plan [⟨0, false, []⟩, ⟨1, false, []⟩, ⟨2, false, []⟩, ⟨3, false, []⟩, ⟨4, false, []⟩, ⟨5, false, []⟩, ⟨6, false, []⟩, ⟨7, false, []⟩, ⟨8, false, []⟩, ⟨11, false, []⟩, ⟨9, true, [3]⟩, ⟨10, true, []⟩, ⟨12, true, []⟩, ⟨13, false, []⟩] rfl (by kernel_rfl) ?_
                          rw [hwd]
                          clear hwd
                          repeat (first | (refine Reg.look rfl rfl rfl (by go_simp; rfl) rfl ?_; go_simp) | (refine Reg.skip rfl rfl rfl ?_; go_simp))
                          refine Reg.act rfl ?_
                          go_wp2_with fail
                          clear hw14 hg14 z0 z1 z2 z3 z4 z5 z6 z7 z8
                          (refine ⟨?anew, ?_⟩; case anew => ((repeat (refine Reg.anew_cons rfl rfl (fun _ => by go_simp) ?_)); exact Reg.anew_nil))
                          repeat (first | (refine Reg.look rfl rfl rfl (by go_simp; rfl) rfl ?_; go_simp) | (refine Reg.skip rfl rfl rfl ?_; go_simp))
                          refine Reg.act rfl ?_
                          refine wpList_append_full (E := Rp.str) rfl w14 (.tmp 89) (.tmp 95) 38 rfl 9 16 el_strL (fun k => w.heap.size ≤ k) (some ado) T (by rw [HTL.out]; rfl) (HT14.out w14 (HK14.out)) (some ⟨g14, 0, none⟩) 1 [onm] rfl HL14.out (by simp) Rp.str_one (by have := HTL.out; have := HKO.out; simp [maxLen]; omega) (by have := HTL.out; have := HKO.out; simp; omega) ?_
                          intro A15 c15 w15 hown15 hk15
                          have HO15 := Lib.hid (hown15.str_any (fun k => k < w14.heap.size))
                          have HM15 := Lib.hid (Rp.str.slice.more (Rp.str.slice.bnd (HO14.out.keptNo hk15).readFrom) (fun _ h => h))
                          have HM14 := Lib.hid (Rp.str.slice.keptNo (Rp.str.slice.more (Rp.str.slice.bnd HO14.out.readFrom) (fun k h => h.2)) hk15)
                          have HK15 := Lib.hid hk15
                          obtain ⟨n15, hn15⟩ : ∃ v, (T ++ [onm]).length = v := ⟨_, rfl⟩
                          have HN15 := Lib.hid hn15
                          rw [hn15] at HO15
                          rw [hn15]
                          clear hown15 hk15 hn15
                          go_wp2_with fail
                          (refine ⟨?anew, ?_⟩; case anew => ((repeat (refine Reg.anew_cons rfl rfl (fun _ => by go_simp) ?_)); exact Reg.anew_nil))
                          repeat (first | (refine Reg.look rfl rfl rfl (by go_simp; rfl) rfl ?_; go_simp) | (refine Reg.skip rfl rfl rfl ?_; go_simp))
                          refine Reg.act rfl ?_
                          refine wpList_append_rp (E := Rp.str) rfl _ (.tmp 96) (.tmp 97) 38 rfl w14.heap.size 9 16 el_strL (fun k => k < w14.heap.size) (.slice A15 n15 c15) (T ++ [onm]) rfl HO15.out A13 c13 (fun k => k < w14.heap.size) m rfl HM14.out Rp.str_one (by have := HTL.out; have := HKO.out; have := HML.out; simp [maxLen]; omega) (by have := HTL.out; have := HKO.out; have := HML.out; simp; omega) HK15.out.size (fun _ h => h) (fun k hk e => by have := (HO15.out.lt k hk).1; omega) ?_
                          intro v16 w16 hown16 hgr16 _
                          have HLN : Hid ((T ++ [onm]) ++ m = T ++ onm :: m) := Lib.hid (by simp)
                          rw [HLN.out] at hown16
                          have HKZ : Hid (Kp No w2 w16) := Lib.hid ((HKG.out.trans' (HK14.out.trans' HK15.out)).grown hgr16 (fun k hk hlt => by have h1 := (HO15.out.lt k hk).1; have h2 := (HKG.out.trans' HK14.out).size; omega))
                          have HOV9 : Hid (OutV w w16 v16 (T ++ onm :: m)) := Lib.hid (by
                            obtain ⟨A16, c16, hsh⟩ := hown16.shape
                            subst hsh
                            have hr := Rp.str.slice.more (hown16.str_any No).readFrom (fun k hk => (by
                              rcases hk with hk | hk
                              · exact hk.elim
                              · have := (HKA.out.trans' HK14.out).size; omega : w.heap.size ≤ k))
                            cases A16 with
                            | none => have := nil_of_none hr; simp at this
                            | some a16 => exact .inr ⟨a16, c16, rfl, by simp only [List.length_append, List.length_cons]; omega, hr⟩)
                          have HLE : Hid ((T ++ onm :: m).length ≤ i + 1) := Lib.hid (by have := HOL.out; have := HTL.out; have := HML2.out; simp; omega)
                          obtain ⟨A17, c17, hsh17⟩ := hown16.shape
                          obtain ⟨n17, hn17⟩ : ∃ v, (T ++ onm :: m).length = v := ⟨_, rfl⟩
                          rw [hn17] at hsh17
                          subst hsh17
                          clear hown16 hgr16 hn17 HO15 HM14 HM15 HO14 HL14
                          go_wp2_with fail
                          (refine ⟨?anew, ?_⟩; case anew => ((repeat (refine Reg.anew_cons rfl rfl (fun _ => by go_simp) ?_)); exact Reg.anew_nil))
                          repeat (first | (refine Reg.look rfl rfl rfl (by go_simp; rfl) rfl ?_; go_simp) | (refine Reg.skip rfl rfl rfl ?_; go_simp))
                          (refine Reg.done ?_; simp only [Exit.then])
                          go_wp2_with fail
                          go_roundw
                          case rel => exact ⟨i + 1, _, by omega, by go_num, HNP, HLE, HOV9, HKZ⟩
                          case measure => simp [intOf]; omega
end Go.Proofs.Ytamfgmlhopjppaa
