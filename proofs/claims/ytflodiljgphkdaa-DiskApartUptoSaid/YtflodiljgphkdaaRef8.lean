/-
  The document's drive: Flip. (UNDER WAY: the last case, a bit that is there, is open.)
-/
import Derived.Test.YtflodiljgphkdaaRef7
import Derived.Test.YtflodiljgphkdaaDisk9
import Derived.Test.YtflodiljgphkdaaTxtM
namespace Go.Proofs.Ytflodiljgphkdaa
open Go.RowKit Go.ChangeShapes Go.WideShapes Go.ChangeAt

theorem RIn.two {w : World} {r g m c : Nat} {y : DV} (h : RIn w r (.slice (some ⟨g, 0, none⟩) m c) y) {i : Nat} {n : ByteArray} {f f' : FV} (hp : y.files[i]? = some (n, f)) {u1 u2 : Value} (he : ((enc4 (n, f)).set 1 u1).set 2 u2 = enc4 (n, f')) (ho : OkD { y with files := y.files.set i (n, f') }) :
    RIn ((w.setCell ⟨g, i * 4 + 1, none⟩ u1).setCell ⟨g, i * 4 + 2, none⟩ u2) r (.slice (some ⟨g, 0, none⟩) m c) { y with files := y.files.set i (n, f') } := by
  have hne : g ≠ r := by
    obtain ⟨g', he, hb, _⟩ := h.row.cell hp
    injection he with he; injection he with he
    subst he
    rintro rfl
    exact h.ne hb
  have hil := (List.getElem?_eq_some_iff.1 hp).1
  have he0 : (y.files.map enc4)[i]? = some (enc4 (n, f)) := by rw [List.getElem?_map, hp]; rfl
  have h1 := h.row.toE.set he0 (j := 1) (u := u1) (by decide)
  have h2 := h1.set (i := i) (e := (enc4 (n, f)).set 1 u1) (j := 2) (u := u2) (by rw [List.getElem?_set, if_pos rfl, if_pos (by rw [List.length_map]; exact hil)]) (by decide)
  rw [List.set_set, he, ← List.map_set] at h2
  have hk : Kp (· = g) w ((w.setCell ⟨g, i * 4 + 1, none⟩ u1).setCell ⟨g, i * 4 + 2, none⟩ u2) :=
    ((Kp.refl (· = g) w).setCell (p := ⟨g, i * 4 + 1, none⟩) (fun _ => rfl) _).setCell (p := ⟨g, i * 4 + 2, none⟩) (fun _ => rfl) _
  exact ⟨Blk.kept h.blk hk (fun e => hne e.symm), RS.ofE h2, ho, h.sh⟩

set_option maxRecDepth 100000 in
set_option maxHeartbeats 1000000 in
theorem r_flip (r : Nat) (x : DV) (F : Nat → Prop) (n : ByteArray) (b : Int) (w : World) (h : RAt w r x F) (hb : (Lit.int .i64 b).wf = true) :
    Calls Try.prog 70 #[.pointer (some ⟨r, 0, none⟩), .string n, .int .i64 b] w fun e w' => e = .returned (.int .i64 (flipD n b x).1) ∧ ∃ F', RAt w' r (flipD n b x).2 F' ∧ Upd F w w' F' := by
  have hA := h
  obtain ⟨v, h, hF⟩ := h
  have hat := r_at r v x n w h
  have H := Lib.hid h
  have HF := Lib.hid hF
  have HA0 := Lib.hid hA
  clear h hF hA
  obtain ⟨Z, hZ⟩ : ∃ Z, flipD n b x = Z := ⟨_, rfl⟩
  rw [hZ]
  unfold flipD fileD at hZ
  cases hf : mget n x.files with
  | none =>
    rw [hf] at hat hZ
    simp only at hZ
    have HZ := Lib.hid hZ
    clear hf hZ
    go_enter Try.func70, Try.ntmps70
    go_wp2_with fail
    refine hat.mono ?_
    rintro e w1 ⟨rfl, hk⟩
    have HK := Lib.hid hk
    clear hat hk
    go_wp2_with fail
    go_ret
    rw [← HZ.out]
    exact ⟨rfl, F, HA0.out.keptNo HK.out, HK.out.any, fun k hk => .inl hk⟩
  | some f =>
    rw [hf] at hat hZ
    simp only at hZ
    obtain ⟨g, c, rfl, hc, hrb⟩ := H.out.file hf
    have hp := rank_at H.out.ok.rising hf
    obtain ⟨i, hi⟩ : ∃ i, rank n x.files = i := ⟨_, rfl⟩
    rw [hi] at hat hp
    have hil := (List.getElem?_eq_some_iff.1 hp).1
    have Bi : (i : Int) < (x.files.length : Int) := by omega
    obtain ⟨TL, hTL⟩ : ∃ t, bs (f.bytes.take f.sure) = t := ⟨_, rfl⟩
    obtain ⟨TW, hTW⟩ : ∃ t, bs (f.bytes.drop f.sure) = t := ⟨_, rfl⟩
    have hfo := (H.out.ok.at hf).1
    have sTL : TL.size = f.sure := by rw [← hTL, bs_size, List.length_take]; have := hfo.1; omega
    have sTW : TW.size = f.bytes.length - f.sure := by rw [← hTW, bs_size, List.length_drop]
    have HFO := Lib.hid hfo
    have HSZ := Lib.hid (And.intro sTL sTW)
    have HP := Lib.hid hp
    have HI := Lib.hid hi
    have HRB := Lib.hid hrb
    have HFI := Lib.hid hf
    have HTL := Lib.hid hTL
    have HTW := Lib.hid hTW
    have HZ := Lib.hid hZ
    have esum : IntKind.i64.wrap ((TL.size : Int) + (TW.size : Int)) = (TL.size : Int) + (TW.size : Int) := wrap_i64 (by omega) (by have := hfo.1; have := hfo.2; omega)
    clear hfo sTL sTW hp hi hrb hf hTL hTW hZ
    go_enter Try.func70, Try.ntmps70
    go_wp2_with fail
    refine hat.mono ?_
    rintro e w1 ⟨rfl, hk⟩
    have HK := Lib.hid hk
    have h1 := H.out.keptNo hk
    have c0 : w1.cell? ⟨r, 0, none⟩ = some (.slice (some ⟨g, 0, none⟩) x.files.length c) := Blk.cell h1.blk rfl
    obtain ⟨g', he, _, hcell, _⟩ := h1.row.cell HP.out
    injection he with he; injection he with he
    subst he
    have c1 : w1.cell? ⟨g, i * 4, none⟩ = some (.string n) := hcell 0 _ rfl
    have c2 : w1.cell? ⟨g, i * 4 + 1, none⟩ = some (.string TL) := by rw [← HTL.out]; exact hcell 1 _ rfl
    have c3 : w1.cell? ⟨g, i * 4 + 2, none⟩ = some (.string TW) := by rw [← HTW.out]; exact hcell 2 _ rfl
    have c4 : w1.cell? ⟨g, i * 4 + 3, none⟩ = some (.bool f.old) := hcell 3 _ rfl
    clear hat hk h1 hcell
    by_cases hb0 : b < 0
    · go_wp2_with fail
      go_ret
      have e : Z = (1, x) := by rw [← HZ.out]; exact if_pos (.inl hb0)
      rw [e]
      refine ⟨rfl, F, HA0.out.keptNo (HK.out.trans' ((Kp.refl _ _).alloc _)), (HK.out.trans' ((Kp.refl _ _).alloc _)).any, fun k hk => .inl hk⟩
    · obtain ⟨k, rfl⟩ : ∃ k : Nat, b = (k : Int) := ⟨b.toNat, by omega⟩
      have hku : (k : Int) ≤ 9223372036854775807 := (wf64 hb).2
      have hk0 : (0 : Int) ≤ (k : Int) := by omega
      have hb8 : (0 : Int) ≤ (k : Int) / 8 := by omega
      have hw1 : IntKind.i64.wrap ((k : Int) / 8) = (k : Int) / 8 := wrap_i64 (by omega) (by omega)
      clear hb
      by_cases hb1 : f.bytes.length ≤ k / 8
      · have hb1i : (TL.size : Int) + (TW.size : Int) ≤ (k : Int) / 8 := by have := HSZ.out; have := HFO.out.1; omega
        go_wp2_with fail
        go_ret
        have e : Z = (1, x) := by rw [← HZ.out]; exact if_pos (.inr (by omega))
        rw [e]
        exact ⟨rfl, F, HA0.out.keptNo (HK.out.trans' ((Kp.refl _ _).alloc _)), (HK.out.trans' ((Kp.refl _ _).alloc _)).any, fun k hk => .inl hk⟩
      · have hb1i : (k : Int) / 8 < (TL.size : Int) + (TW.size : Int) := by have := HSZ.out; have := HFO.out.1; omega
        have hno : ¬ 9223372036854775807 < TL.size + TW.size := by have := HSZ.out; have := HFO.out.1; have := HFO.out.2; omega
        obtain ⟨rr, hr⟩ : ∃ rr : Nat, k % 8 = rr := ⟨_, rfl⟩
        have hm8 : (k : Int).tmod 8 = (rr : Int) := by rw [Int.tmod_eq_emod_of_nonneg hk0]; omega
        have hr8 : (rr : Int) < 8 := by omega
        have ht8 : ((k : Int) / 8).toNat = k / 8 := by omega
        have hsum : TL ++ TW = bs f.bytes := by rw [← HTL.out, ← HTW.out, bs_append, List.take_append_drop]
        have hM : (TL ++ TW).size = f.bytes.length := by rw [hsum, bs_size]
        obtain ⟨wa, hwa⟩ : ∃ wa, w1.alloc (.cells #[.string n, .string TL, .string TW, .bool f.old] 106) = wa := ⟨_, rfl⟩
        have hka : Kp No w1 wa := by rw [← hwa]; exact (Kp.refl _ _).alloc _
        have hba : Blk wa w1.heap.size 106 [.string n, .string TL, .string TW, .bool f.old] := by rw [← hwa]; exact Blk.new w1 [_, _, _, _] _
        obtain ⟨cb, w2, hcv, hob, hk2⟩ := ownM_text (P := Try.prog) wa 27 9 5 (Bytely.of Try.underlying27 Try.underlying9 Try.underlying5 (by kernel_rfl)) (TL ++ TW) (by have := HFO.out.2; omega) wa.heap.size (Nat.le_refl _)
        obtain ⟨G, hG⟩ : ∃ G, wa.heap.size = G := ⟨_, rfl⟩
        obtain ⟨M, hMM⟩ : ∃ M, f.bytes.length = M := ⟨_, rfl⟩
        have hbd : (TL ++ TW).data.toList = f.bytes := by rw [hsum]; rfl
        rw [hbd] at hob
        rw [hM] at hcv
        rw [hG, hMM] at hcv hob
        rw [hMM] at hb1
        have hki : k / 8 < f.bytes.length := by omega
        obtain ⟨z, hz⟩ : ∃ z, f.bytes[k / 8] = z := ⟨_, rfl⟩
        obtain ⟨_, hbf, hbc⟩ := hob.turn hki z
        rw [hz] at hbc
        unfold byteOf at hbc
        have hwS : (M : Int) = (TL.size : Int) + (TW.size : Int) := by have h1 : (TL ++ TW).size = TL.size + TW.size := ByteArray.size_append; omega
        have hmi : (k : Int) / 8 < (M : Int) := by omega
        have HOB := Lib.hid hob
        have HBA := Lib.hid hba
        have HK1A := Lib.hid hka
        have HK2 := Lib.hid hk2
        have HR := Lib.hid hr
        have HG := Lib.hid hG
        have HM := Lib.hid (And.intro hM hMM)
        have HKI := Lib.hid hki
        have HZZ : Hid (∀ h : k / 8 < f.bytes.length, f.bytes[k / 8] = z) := Lib.hid fun _ => hz
        have HW1 := HK1A.out.size
        have HWA := Lib.hid hwa
        clear hwa hob hba hka hk2 hr hM hMM hbd hsum hki hz hG
        go_wp2_with fail
        rw [HWA.out]
        rw [hcv]
        go_wp2_with fail
        refine Reg.wp_region_plan [⟨0, false, []⟩, ⟨1, false, []⟩, ⟨2, false, []⟩, ⟨3, false, []⟩, ⟨4, false, []⟩, ⟨5, false, []⟩, ⟨6, false, []⟩, ⟨7, false, []⟩, ⟨8, false, []⟩, ⟨9, false, []⟩, ⟨10, true, []⟩] rfl (by kernel_rfl) ?_
        repeat (first | (refine Reg.look rfl rfl rfl (by go_simp; rfl) rfl ?_; go_simp) | (refine Reg.skip rfl rfl rfl ?_; go_simp))
        refine Reg.act rfl ?_
        go_wp2_with fail
        refine ⟨Reg.anew_nil, ?_⟩
        (refine Reg.done ?_; simp only [Exit.then])
        go_wp2_with fail
        obtain ⟨w3, hw3⟩ : ∃ w3, (w2.setCell ⟨G, k / 8, none⟩ (.int .u8 (bits .xor .u8 (z.toNat : Int) (2 ^ rr % 256)))).drew = w3 := ⟨_, rfl⟩
        rw [hw3]
        rw [xor_bit z rr (by omega)] at hw3
        obtain ⟨L, hL⟩ : ∃ L, flipB f.bytes k = L := ⟨_, rfl⟩
        have hLl : L.length = M := by rw [← hL, flipB_length]; exact HM.out.2
        have hLs : f.bytes.set (k / 8) (z ^^^ UInt8.ofNat (1 <<< rr)) = L := by rw [← hL, flipB_set f.bytes k HKI.out, HZZ.out, HR.out]
        have hob3 := (HOB.out.turn HKI.out (z ^^^ UInt8.ofNat (1 <<< rr))).1
        rw [hLs] at hob3
        have hob3 := hob3.keptNo ((Kp.refl No _).drew)
        rw [hw3] at hob3
        have hba2 := HBA.out.kept HK2.out (fun x => x)
        have hlt := HBA.out.lt
        have hGG := HG.out
        have hwlt := HK.out.size
        have hk02 := (HK.out.trans' HK1A.out).trans' HK2.out
        have hk23 : Kp (· = G) w2 w3 := by rw [← hw3]; exact ((Kp.refl (· = G) w2).setCell (p := ⟨G, k / 8, none⟩) (fun _ => rfl) _).drew
        have hk03 : Kp No w w3 := by rw [← hw3]; exact (hk02.setCell (p := ⟨G, k / 8, none⟩) (fun hlt => absurd (show G < w.heap.size from hlt) (by omega)) _).drew
        have hba3 := hba2.kept hk23 (show w1.heap.size ≠ G by omega)
        have h3 := H.out.keptNo hk03
        have hrlt := Blk.lt H.out.blk
        obtain ⟨g', he, hrb, hcell, hfr⟩ := h3.row.cell HP.out
        injection he with he; injection he with he
        subst he
        have hglt := H.out.row.lt HRB.out
        have c03 : w3.cell? ⟨r, 0, none⟩ = some (.slice (some ⟨g, 0, none⟩) x.files.length c) := Blk.cell h3.blk rfl
        have c13 : w3.cell? ⟨w1.heap.size, 1, none⟩ = some (.string TL) := hba3.cell rfl
        have c23 : w3.cell? ⟨g, i * 4 + 1, none⟩ = some _ := hcell 1 _ rfl
        have f23 := hfr (i * 4 + 1)
        have hby := Bytely.of Try.underlying27 Try.underlying9 Try.underlying5 (by kernel_rfl)
        have hTLM : TL.size ≤ L.length := by omega
        have hcbM : M ≤ cb := by obtain ⟨_, _, he, h⟩ := hob3.shape; injection he with _ _ he; omega
        have hTcb : TL.size ≤ cb := by omega
        have hv9 := ((hob3.keptNo ((Kp.refl No _).drew)).head hTLM).run_back 27 9 hby
        obtain ⟨TA, hTA⟩ : ∃ t, bs (L.take TL.size) = t := ⟨_, rfl⟩
        rw [hTA] at hv9
        have HOB3 := Lib.hid hob3
        have H3 := Lib.hid h3
        have HBA3 := Lib.hid hba3
        have HK03 := Lib.hid hk03
        have HFR := Lib.hid hfr
        have HCELL := Lib.hid hcell
        have HTA := Lib.hid hTA
        have HLL := Lib.hid (And.intro hLl hL)
        have HLT := Lib.hid (And.intro hlt (And.intro hGG (And.intro hwlt (And.intro hrlt hglt))))
        clear hw3 hLs hob3 hba2 hlt hGG hwlt hk02 hk23 hk03 hba3 h3 hrlt hglt hcell hfr hTA hLl hL hcv hrb hby hbf hbc c0 c1 c2 c3 c4
        refine Reg.wp_region_plan [⟨0, false, []⟩, ⟨1, false, []⟩, ⟨2, false, []⟩, ⟨3, false, []⟩, ⟨4, false, []⟩, ⟨5, false, []⟩, ⟨6, false, []⟩, ⟨7, false, []⟩, ⟨8, false, []⟩, ⟨9, false, []⟩, ⟨10, true, [1, 2, 3]⟩, ⟨11, false, []⟩, ⟨12, false, []⟩, ⟨13, true, []⟩] rfl (by kernel_rfl) ?_
        repeat (first | (refine Reg.look rfl rfl rfl (by go_simp; rfl) rfl ?_; go_simp) | (refine Reg.skip rfl rfl rfl ?_; go_simp))
        refine Reg.act rfl ?_
        go_wp2_with fail
        (refine ⟨?anew, ?_⟩; case anew => ((repeat (refine Reg.anew_cons rfl rfl (fun _ => by go_simp) ?_)); exact Reg.anew_nil))
        repeat (first | (refine Reg.look rfl rfl rfl (by go_simp; rfl) rfl ?_; go_simp) | (refine Reg.skip rfl rfl rfl ?_; go_simp))
        refine Reg.act rfl ?_
        go_wp2_with fail
        refine ⟨Reg.anew_nil, ?_⟩
        (refine Reg.done ?_; simp only [Exit.then])
        go_wp2_with fail
        obtain ⟨w4, hw4⟩ : ∃ w4, (w3.setCell ⟨g, i * 4 + 1, none⟩ (.string TA)).drew = w4 := ⟨_, rfl⟩
        rw [hw4]
        have hk34 : Kp (· = g) w3 w4 := by rw [← hw4]; exact ((Kp.refl (· = g) w3).setCell (p := ⟨g, i * 4 + 1, none⟩) (fun _ => rfl) _).drew
        obtain ⟨hlt, hGG, hwlt, hrlt, hglt⟩ := HLT.out
        have hgr : g ≠ r := fun e => H.out.ne (e ▸ HRB.out)
        have hob4 : OwnM w4 G 5 (.slice (some ⟨G, 0, none⟩) M cb) L := HOB3.out.kept hk34 (fun k hk => by
          have := (HOB3.out.lt k hk).1
          show ¬ k = g
          omega)
        have hby := Bytely.of Try.underlying27 Try.underlying9 Try.underlying5 (by kernel_rfl)
        have c04 : w4.cell? ⟨r, 0, none⟩ = some (.slice (some ⟨g, 0, none⟩) x.files.length c) := (Blk.kept H3.out.blk hk34 (fun e => hgr e.symm)).cell rfl
        have c14 : w4.cell? ⟨w1.heap.size, 1, none⟩ = some (.string TL) := (HBA3.out.kept hk34 (by show ¬ _ = g; omega)).cell rfl
        have hTM : (TL.size : Int) ≤ (M : Int) := by have := HLL.out.1; omega
        have hv10 := (hob4.keptNo ((Kp.refl No _).drew)).run_tail 27 9 hby hTLM
        obtain ⟨TB, hTB⟩ : ∃ t, bs (L.drop TL.size) = t := ⟨_, rfl⟩
        rw [hTB] at hv10
        have c24 : w4.cell? ⟨g, i * 4 + 2, none⟩ = some (.string TW) := by
          rw [← hw4, ← HTW.out]
          exact (World.cell?_setCell_other w3 _ _ _ (by simp)).trans (HCELL.out 2 _ rfl)
        have f24 : w4.frozen? ⟨g, i * 4 + 2, none⟩ = false := by
          rw [← hw4]
          exact (World.frozen?_setCell w3 _ _ _).trans (HFR.out (i * 4 + 2))
        have HW4 := Lib.hid hw4
        have HTB := Lib.hid hTB
        have HGR := Lib.hid hgr
        clear hw4 hk34 hlt hGG hwlt hrlt hglt hgr hob4 hby hTB hwS hv9 c03 c13 c23 f23
        refine Reg.wp_region_plan [⟨0, false, []⟩, ⟨1, false, []⟩, ⟨2, false, []⟩, ⟨3, false, []⟩, ⟨4, false, []⟩, ⟨5, false, []⟩, ⟨6, false, []⟩, ⟨7, false, []⟩, ⟨8, false, []⟩, ⟨9, false, []⟩, ⟨10, true, [1, 2, 3]⟩, ⟨11, false, []⟩, ⟨12, false, []⟩, ⟨13, true, []⟩] rfl (by kernel_rfl) ?_
        repeat (first | (refine Reg.look rfl rfl rfl (by go_simp; rfl) rfl ?_; go_simp) | (refine Reg.skip rfl rfl rfl ?_; go_simp))
        refine Reg.act rfl ?_
        go_wp2_with fail
        all_goals
          (refine ⟨?anew, ?_⟩; case anew => ((repeat (refine Reg.anew_cons rfl rfl (fun _ => by go_simp) ?_)); exact Reg.anew_nil))
          repeat (first | (refine Reg.look rfl rfl rfl (by go_simp; rfl) rfl ?_; go_simp) | (refine Reg.skip rfl rfl rfl ?_; go_simp))
          refine Reg.act rfl ?_
          go_wp2_with fail
          refine ⟨Reg.anew_nil, ?_⟩
          (refine Reg.done ?_; simp only [Exit.then])
          go_wp2_with fail
          go_ret
          have hset : x.files.set i (n, { f with bytes := L }) = ins n { f with bytes := L } x.files := by
            rw [← HI.out]; exact (ins_over _ H.out.ok.rising HFI.out).symm
          have hZZ : Z = (0, { x with files := ins n { f with bytes := L } x.files }) := by
            have hm := HM.out.2
            have h5 : ¬ ((k : Int) < 0 ∨ (f.bytes.length : Int) ≤ (k : Int) / 8) := by omega
            rw [← HZ.out, if_neg h5, Int.toNat_natCast, HLL.out.2]
          have hfo := HFO.out
          have hok : OkD { x with files := x.files.set i (n, { f with bytes := L }) } := by
            rw [hset]
            refine H.out.ok.put n _ (H.out.ok.at HFI.out).2 ⟨?_, ?_⟩
            · show f.sure ≤ L.length; have := HLL.out.1; have := HM.out.2; have := hfo.1; omega
            · show L.length ≤ _; have := HLL.out.1; have := HM.out.2; have := hfo.2; omega
          have hfin := H3.out.two (f' := { f with bytes := L }) HP.out (u1 := .string TA) (u2 := .string TB) (by
            have h1 := HSZ.out.1
            rw [← HTA.out, ← HTB.out, h1]; rfl) hok
          rw [hset] at hfin
          rw [hZZ, ← HW4.out]
          have hg : F g := (HF.out g).2 (.inr HRB.out)
          refine ⟨rfl, F, ⟨_, hfin.keptNo ((Kp.refl No _).drew.drew), HF.out⟩, ?_, fun k hk => .inl hk⟩
          exact (((HK03.out.any (S := F)).setCell (p := ⟨g, i * 4 + 1, none⟩) (fun _ => hg) (.string TA)).setCell (p := ⟨g, i * 4 + 2, none⟩) (fun _ => hg) (.string TB)).drew.drew
end Go.Proofs.Ytflodiljgphkdaa
