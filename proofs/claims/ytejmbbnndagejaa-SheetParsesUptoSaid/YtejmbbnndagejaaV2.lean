/-
  The reference's Parse.
-/
import Derived.Test.YtejmbbnndagejaaV1
import Derived.Test.YtejmbbnndagejaaH10
namespace Go.Proofs.Ytejmbbnndagejaa
open Go.RowKit Go.ChangeShapes Go.WideShapes Go.ChangeAt

/-- the reference's reader amid the reading of texts -/
def PStateR (w : World) (g : Nat) (S : ByteArray) (n0 : Nat) (L : List UInt8) (k : Nat) (l : List ByteArray) : Prop := ∃ (p : Nat) (b : Bool), IsRr w g S p b ∧ p ≤ S.size ∧ (b = false → l.length ≤ p) ∧ PIn n0 L k l (S.data.toList.drop p) b
set_option maxRecDepth 100000 in
set_option maxHeartbeats 1000000 in
theorem r_parse (s : ByteArray) (w : World) (hs : s.size ≤ 1000000) : Calls Try.prog 35 #[.string s] w fun e w' => SheetOut w.heap.size (parseS s.data.toList) (.bool true) (.bool false) e w' ∧ Kp No w w' := by
  obtain ⟨R, hR⟩ : ∃ R, parseS s.data.toList = R := ⟨_, rfl⟩
  rw [hR]
  have HR := Lib.hid hR
  clear hR
  obtain ⟨p1, hp1⟩ : ∃ p, numRf s 0 false = p := ⟨_, rfl⟩
  have hps1 : p1.2.1 ≤ s.size := by rw [← hp1]; exact numRf_le (Nat.zero_le _) false
  have HP1 := Lib.hid hp1
  clear hp1
  obtain ⟨n, q1, b1⟩ := p1
  replace hps1 : q1 ≤ s.size := hps1
  obtain ⟨p2, hp2⟩ : ∃ p, numRf s q1 b1 = p := ⟨_, rfl⟩
  have HP2 := Lib.hid hp2
  clear hp2
  obtain ⟨m, q2, b2⟩ := p2
  have hcase := count_caseR (S := s) HP1.out HP2.out
  obtain ⟨hn0, hn1, hm0, hm1, hq2, hcase⟩ := hcase
  rw [HR.out] at hcase
  have HCASE := Lib.hid hcase
  clear hcase
  go_enter Try.func35, Try.ntmps35
  go_wp2_with fail
  obtain ⟨w2, hw2⟩ : ∃ w2, (w.alloc (.cells #[.int .i64 0, .slice none 0 0] 34)).alloc (.cells #[.string s, .int .i64 0, .bool false] 81) = w2 := ⟨_, rfl⟩
  have HB2 : Hid (Blk w2 w.heap.size 34 [.int .i64 0, .slice none 0 0]) := Lib.hid (by rw [← hw2]; exact (Blk.new w _ _).kept (S := No) ((Kp.refl _ _).alloc _) (fun x => x))
  have HG2 : Hid (IsRr w2 (w.heap.size + 1) s 0 false) := Lib.hid (by
    rw [← hw2]
    have h := Blk.new (w.alloc (.cells #[.int .i64 0, .slice none 0 0] 34)) [.string s, .int .i64 0, .bool false] 81
    simpa [IsRr] using h)
  have HK2 : Hid (Kp No w w2) := Lib.hid (by rw [← hw2]; exact ((Kp.refl _ _).alloc _).alloc _)
  have hgl2 := Blk.lt HG2.out
  rw [hw2]
  clear hw2
  refine (r_NumS (w.heap.size + 1) s 0 false _ HP1.out w2 HG2.out (by omega) (by omega)).mono ?_
  rintro e w3 ⟨rfl, hg3, hk3⟩
  go_wp2_with fail
  obtain ⟨w4, hw4⟩ : ∃ w4, w3.alloc (.cells #[.int .i64 n, .slice none 0 0] 34) = w4 := ⟨_, rfl⟩
  obtain ⟨gs, hgs⟩ : ∃ gs, w3.heap.size = gs := ⟨_, rfl⟩
  have hk4 : Kp No w3 w4 := by rw [← hw4]; exact (Kp.refl _ _).alloc _
  have hs3 := hk3.size
  have HS4 : Hid (Blk w4 gs 34 [.int .i64 n, .slice none 0 0]) := Lib.hid (by rw [← hw4, ← hgs]; exact Blk.new w3 _ _)
  have HB4 := Lib.hid ((HB2.out.kept hk3 (fun e => by omega)).kept hk4 (fun x => x))
  have HG4 := Lib.hid (Blk.kept hg3 hk4 (fun x => x))
  have HK4 : Hid (Kp (· = w.heap.size + 1) w w4) := Lib.hid ((HK2.out.any.trans' hk3).transNo hk4)
  have hgs1 : w.heap.size + 1 < gs := by omega
  have HGS := Lib.hid hgs
  clear hgs
  clear hg3 hk3 hk4 hs3 hgl2
  rw [hw4, HGS.out]
  clear hw4
  refine (r_NumS (w.heap.size + 1) s q1 b1 _ HP2.out w4 HG4.out (by omega) hps1).mono ?_
  rintro e w5 ⟨rfl, hg5, hk5⟩
  have HS5 := Lib.hid (HS4.out.kept hk5 (fun e => by omega))
  have HB5 := Lib.hid (HB4.out.kept hk5 (fun e => by omega))
  have HK5 := Lib.hid (HK4.out.trans' hk5)
  have HP5 : Hid (∃ (N : Nat) (L2 : List UInt8), PStateR w5 (w.heap.size + 1) s N L2 m.toNat [] ∧ ((m < 0 ∧ R = none) ∨ (0 ≤ m ∧ R = parseOn n N L2))) := Lib.hid (by
    rcases HCASE.out with ⟨h1, h2, h3⟩ | ⟨h1, h2, h3⟩ | ⟨h1, h2, h3⟩
    · exact ⟨1, [], ⟨q2, b2, hg5, hq2, fun h => (by rw [h1] at h; cases h), by rw [h1]; exact .inr ⟨rfl, rfl⟩⟩, .inr ⟨by omega, by rw [h3]; rfl⟩⟩
    · refine ⟨0, s.data.toList.drop q2, ⟨q2, b2, hg5, hq2, fun _ => by simp, ?_⟩, .inl ⟨h2, h3⟩⟩
      rw [h1, show m.toNat = 0 by omega]; exact PIn.start _ _
    · exact ⟨m.toNat, s.data.toList.drop q2, ⟨q2, b2, hg5, hq2, fun _ => by simp, by rw [h1]; exact PIn.start _ _⟩, .inr ⟨h2, h3⟩⟩)
  obtain ⟨N0, L2, hst, hR2⟩ := HP5.out
  have HST := Lib.hid hst
  have HR2 := Lib.hid hR2
  have hgs5 : gs < w5.heap.size := HS5.out.lt
  clear hg5 hk5 hst hR2 HP5 HP1 HP2 HR HCASE
  go_wp2_with fail
  obtain ⟨wo, hwo⟩ : ∃ wo : World, wo = w5 := ⟨_, rfl⟩
  go_loopw [7] (fun iv wr => ∃ (k : Nat) (l : List ByteArray) (v : Value), iv = .int .i64 (l.length : Int) ∧ l.length + k = m.toNat ∧ Blk wr gs 34 [.int .i64 n, v] ∧ Own Rp.str wr No w5.heap.size 9 v l ∧ PStateR wr (w.heap.size + 1) s N0 L2 k l ∧ Kp (fun i => i = gs ∨ i = w.heap.size + 1) w5 wr) (fun iv _ => m.toNat - (intOf iv).toNat)
  case atStart => exact ⟨m.toNat, [], _, rfl, by simp, HS5.out, Own.nil _ _ _ _ _, HST.out, Kp.refl _ _⟩
  case round =>
    clear hwo HST
    obtain ⟨k, l, v, rfl, hlk, hb4, hown, hst, hkr⟩ := hrel
    obtain ⟨Av, cv, rfl⟩ := hown.shape
    obtain ⟨p, b, hg, hps, hlp, hpin⟩ := hst
    have HS := Lib.hid hb4
    have HO := Lib.hid hown
    have HG := Lib.hid hg
    have HPI := Lib.hid hpin
    have HK := Lib.hid hkr
    have HLP := Lib.hid hlp
    have hgl := Blk.lt hg
    have g2 : wr.cell? ⟨w.heap.size + 1, 2, none⟩ = some (.bool b) := Blk.cell hg rfl
    clear hb4 hown hg hpin hkr hlp
    by_cases hk : 0 < k
    · have hki : (l.length : Int) < m := by omega
      have hm2 : 0 ≤ m := by omega
      have HR3 : Hid (R = parseOn n N0 L2) := Lib.hid (by rcases HR2.out with ⟨h, _⟩ | ⟨_, h⟩; omega; exact h)
      cases b with
      | true =>
        have HRN : Hid (R = none) := Lib.hid (by rw [HR3.out]; exact parseOn_none HPI.out.none)
        go_wp2_with fail
        refine (r_DoneS (w.heap.size + 1) s p true wr HG.out).mono ?_
        rintro e wd ⟨rfl, hkd⟩
        have HKd := Lib.hid (HK.out.transNo hkd)
        clear hkd
        have HBz := Lib.hid (HB5.out.kept HKd.out (fun e => by omega))
        have d0 : Go.World.cell? wd ⟨w.heap.size, 0, none⟩ = some (.int .i64 0) := HBz.out.cell rfl
        have d1 : Go.World.cell? wd ⟨w.heap.size, 1, none⟩ = some (.slice none 0 0) := HBz.out.cell rfl
        have f0 := HBz.out.fr 0
        have f1 := HBz.out.fr 1
        have hbz := HBz.out.lt
        go_wp2_with fail
        have hfin := (HBz.out.set 0 (.int .i64 0)).set 1 (.slice none 0 0)
        have hkf : Kp (fun i => w.heap.size ≤ i) w (((Go.World.setCell wd ⟨w.heap.size, 0, none⟩ (.int .i64 0))).setCell ⟨w.heap.size, 1, none⟩ (.slice none 0 0)) := (((HK5.out.mono (S' := fun i => w.heap.size ≤ i) (fun _ _ e => by omega)).trans HKd.out (fun i hi e => by omega)).setCell (p := ⟨w.heap.size, 0, none⟩) (fun _ => Nat.le_refl _) _).setCell (p := ⟨w.heap.size, 1, none⟩) (fun _ => Nat.le_refl _) _
        rw [HRN.out]
        refine bodyPost_ret (results_ct rfl _ _ w.heap.size _ _ _ _ rfl hfin Try.underlying34 rfl (by kernel_rfl)) rfl ⟨(by unfold SheetOut; rfl), hkf.mono (fun k hk e => by omega)⟩
      | false =>
        have hlp : l.length ≤ p := HLP.out rfl
        have cS : wr.cell? ⟨gs, 1, none⟩ = some (.slice Av l.length cv) := HS.out.cell rfl
        have hgsl := HS.out.lt
        obtain ⟨q, hq⟩ : ∃ q, numRf s p false = q := ⟨_, rfl⟩
        obtain ⟨t, ht⟩ : ∃ t, textRf s q = t := ⟨_, rfl⟩
        have hpl : q.2.1 ≤ s.size := by rw [← hq]; exact numRf_le hps false
        obtain ⟨kk, rfl⟩ : ∃ kk, k = kk + 1 := ⟨k - 1, by omega⟩
        have HTX : Hid (t.1.size ≤ 1000000 ∧ t.2.1 ≤ s.size ∧ (t.2.2 = false → (l ++ [t.1]).length ≤ t.2.1) ∧ PIn N0 L2 kk (l ++ [t.1]) (s.data.toList.drop t.2.1) t.2.2) := Lib.hid (by
          rw [← ht, ← hq]
          cases hr : rdText (s.data.toList.drop p) with
          | none =>
            obtain ⟨p', h1, h2⟩ := textRf_none hps hr
            rw [h2]
            exact ⟨by simp, h1, fun h => (by cases h), HPI.out.bad hr _ _⟩
          | some q =>
            obtain ⟨tt, r⟩ := q
            obtain ⟨h3, h4⟩ := textRf_some hps hr
            rw [h3]
            have h1 := rdText_size hr
            have h2 := rdText_lt hr
            rw [List.length_drop, data_length] at h1 h2
            refine ⟨by show tt.length ≤ _; omega, Nat.sub_le _ _, fun _ => ?_, ?_⟩
            · show (l ++ [bs tt]).length ≤ s.size - r.length
              rw [List.length_append]; simp; omega
            · show PIn N0 L2 kk (l ++ [bs tt]) (s.data.toList.drop (s.size - r.length)) false
              rw [h4]
              exact HPI.out.good hr)
        obtain ⟨y, p9, b9⟩ := t
        have HQ := Lib.hid hq
        have HT := Lib.hid ht
        have hll : l.length ≤ 1000000 := by omega
        clear hq ht HPI HLP
        go_wp2_with fail
        refine Reg.wp_region_plan [⟨0, false, []⟩, ⟨1, false, []⟩, ⟨2, false, []⟩, ⟨3, true, [0, 1]⟩, ⟨4, true, [0, 1]⟩, ⟨5, true, []⟩, ⟨6, false, []⟩, ⟨7, true, []⟩] rfl (by kernel_rfl) ?_
        repeat (first | (refine Reg.look rfl rfl rfl (by go_simp; rfl) rfl ?_; go_simp) | (refine Reg.skip rfl rfl rfl ?_; go_simp))
        refine Reg.act rfl ?_
        go_wp2_with fail
        refine (r_TextS (w.heap.size + 1) s p false q HQ.out _ HT.out hpl wr.drew (Blk.drew HG.out) (by omega) hps).mono ?_
        rintro e wb ⟨rfl, hgb, hkb⟩
        have hkb' : Kp (· = w.heap.size + 1) wr wb := (Kp.refl _ _).drew.trans' hkb
        have HSb := Lib.hid (HS.out.kept hkb' (fun e => by omega))
        have HOb := Lib.hid (HO.out.kept hkb' (fun _ h => h.elim) (fun g hg e => by have := (HO.out.lt g hg).1; omega))
        have HGb := Lib.hid hgb
        have HKb := Lib.hid (HK.out.trans hkb' (fun _ _ e => .inr e))
        have cS5 : wb.cell? ⟨gs, 1, none⟩ = some (.slice Av l.length cv) := HSb.out.cell rfl
        have hbl5 := HSb.out.lt
        have hne5 : gs ≠ wb.heap.size := by omega
        clear hkb hkb' hgb HS HO HG HK g2
        go_wp2_with fail
        (refine ⟨?anew, ?_⟩; case anew => ((repeat (refine Reg.anew_cons rfl rfl (fun _ => by go_simp) ?_)); exact Reg.anew_nil))
        refine Reg.act rfl ?_
        go_wp2
        (refine ⟨?anew, ?_⟩; case anew => ((repeat (refine Reg.anew_cons rfl rfl (fun _ => by go_simp) ?_)); exact Reg.anew_nil))
        refine Reg.act rfl ?_
        have HYS : Hid (y.size ≤ maxLen) := Lib.hid (by have h : y.size ≤ 1000000 := HTX.out.1; unfold maxLen; omega)
        refine wpList_append_lit Rp.str_by rfl _ (.tmp 29) (.tmp 32) 22 rfl w5.heap.size 9 16 elem_str (.slice Av l.length cv) l rfl No ?d0 wb.heap.size [y] rfl _ _ _ (heap_alloc_new wb _) rfl ?d2 ?d3 ?d4 ?d5 ?d6 ?_
        case d0 => exact (HOb.out.alloc _).drew
        case d2 => intro a ha; simp only [List.mem_cons, List.not_mem_nil, or_false] at ha; subst ha; exact HYS.out
        case d3 => simp [maxLen]; omega
        case d4 => simp; omega
        case d5 => have := HKb.out.size; simp; omega
        case d6 => intro h; have := (HOb.out.lt _ h).2; omega
        intro A3 c3 w6 hown hk6
        have hg4 : (Value.slice Av l.length cv).ownBlock ≠ some gs := fun h => by have := (HOb.out.lt _ h).1; omega
        have hg5 : (Value.slice Av l.length cv).ownBlock ≠ some (w.heap.size + 1) := fun h => by have := (HOb.out.lt _ h).1; omega
        have HS6 := Lib.hid ((HSb.out.kept (S := No) ((Kp.refl _ _).alloc _) (fun x => x)).kept (S := fun i => (Value.slice Av l.length cv).ownBlock = some i) hk6 (fun e => hg4 e))
        have HG6 := Lib.hid (Blk.kept (S := fun i => (Value.slice Av l.length cv).ownBlock = some i) (Blk.kept (S := No) HGb.out ((Kp.refl _ _).alloc _) (fun x => x)) hk6 (fun e => hg5 e))
        have HK6 := Lib.hid ((HKb.out.alloc _).trans hk6 (fun i hi hv => absurd (HOb.out.lt i hv).1 (by omega)))
        have hle : (l ++ [y]).length = l.length + 1 := by rw [List.length_append]; rfl
        rw [hle] at hown
        rw [hle]
        have HLE := Lib.hid hle
        have HO6 := Lib.hid hown
        have c6 : w6.cell? ⟨gs, 1, none⟩ = some (.slice Av l.length cv) := HS6.out.cell rfl
        have f6 := HS6.out.fr 1
        clear hown hk6 hle hg4 hg5 cS5
        go_wp2
        (refine ⟨?anew, ?_⟩; case anew => ((repeat (refine Reg.anew_cons rfl rfl (fun _ => by go_simp) ?_)); exact Reg.anew_nil))
        repeat (first | (refine Reg.look rfl rfl rfl (by go_simp; rfl) rfl ?_; go_simp) | (refine Reg.skip rfl rfl rfl ?_; go_simp))
        refine Reg.act rfl ?_
        go_wp2
        refine ⟨Reg.anew_nil, ?_⟩
        (refine Reg.done ?_; simp only [Exit.then])
        go_wp2
        go_roundw
        case rel =>
          have hk7 : Kp (· = gs) w6 (w6.setCell ⟨gs, 1, none⟩ (.slice A3 (l.length + 1) c3)) := (Kp.refl (· = gs) w6).setCell (p := ⟨gs, 1, none⟩) (fun _ => rfl) _
          refine ⟨kk, l ++ [y], .slice A3 (l.length + 1) c3, by rw [HLE.out]; go_num, by rw [HLE.out]; omega, ?_, ?_, ⟨p9, b9, ?_, HTX.out.2.1, HTX.out.2.2.1, HTX.out.2.2.2⟩, ?_⟩
          · exact (HS6.out.set 1 (.slice A3 (l.length + 1) c3)).drew
          · exact HO6.out.kept hk7 (fun _ h => h.elim) (fun g hg e => by have := (HO6.out.lt g hg).1; omega)
          · exact Blk.drew (Blk.kept HG6.out hk7 (fun e => by omega))
          · exact HK6.out.setCell (p := ⟨gs, 1, none⟩) (fun _ => .inl rfl) _
        case measure => first | (simp [intOf]; done) | (simp [intOf]; omega)
    · obtain rfl : k = 0 := by omega
      have hki : ¬ (l.length : Int) < m := by omega
      cases b with
      | true =>
        have HRN : Hid (R = none) := Lib.hid (by rcases HR2.out with ⟨_, h⟩ | ⟨_, h⟩; exact h; rw [h]; exact parseOn_none HPI.out.none)
        go_wp2_with fail
        refine (r_DoneS (w.heap.size + 1) s p true wr HG.out).mono ?_
        rintro e wd ⟨rfl, hkd⟩
        have HKd := Lib.hid (HK.out.transNo hkd)
        clear hkd
        have HBz := Lib.hid (HB5.out.kept HKd.out (fun e => by omega))
        have d0 : Go.World.cell? wd ⟨w.heap.size, 0, none⟩ = some (.int .i64 0) := HBz.out.cell rfl
        have d1 : Go.World.cell? wd ⟨w.heap.size, 1, none⟩ = some (.slice none 0 0) := HBz.out.cell rfl
        have f0 := HBz.out.fr 0
        have f1 := HBz.out.fr 1
        have hbz := HBz.out.lt
        go_wp2_with fail
        have hfin := (HBz.out.set 0 (.int .i64 0)).set 1 (.slice none 0 0)
        have hkf : Kp (fun i => w.heap.size ≤ i) w (((Go.World.setCell wd ⟨w.heap.size, 0, none⟩ (.int .i64 0))).setCell ⟨w.heap.size, 1, none⟩ (.slice none 0 0)) := (((HK5.out.mono (S' := fun i => w.heap.size ≤ i) (fun _ _ e => by omega)).trans HKd.out (fun i hi e => by omega)).setCell (p := ⟨w.heap.size, 0, none⟩) (fun _ => Nat.le_refl _) _).setCell (p := ⟨w.heap.size, 1, none⟩) (fun _ => Nat.le_refl _) _
        rw [HRN.out]
        refine bodyPost_ret (results_ct rfl _ _ w.heap.size _ _ _ _ rfl hfin Try.underlying34 rfl (by kernel_rfl)) rfl ⟨(by unfold SheetOut; rfl), hkf.mono (fun k hk e => by omega)⟩
      | false =>
        have HRS : Hid ((m < 0 ∧ R = none) ∨ (0 ≤ m ∧ R = if s.data.toList.drop p = [] ∧ okSheet n l = true then some (n, l) else none)) := Lib.hid (by rcases HR2.out with h | ⟨h, h1⟩; exact .inl h; exact .inr ⟨h, by rw [h1]; exact parseOn_some HPI.out.stop⟩)
        have hll : l.length ≤ 1000000 := by have := HLP.out rfl; omega
        clear HR2 HPI HLP
        go_wp2_with fail
        refine (r_DoneS (w.heap.size + 1) s p false wr HG.out).mono ?_
        rintro e wd ⟨rfl, hkd⟩
        have HSd := Lib.hid (HS.out.kept hkd (fun x => x))
        have HOd := Lib.hid (HO.out.keptNo hkd)
        have HKd := Lib.hid (HK.out.transNo hkd)
        clear hkd HS HO HG HK g2
        have dS0 : wd.cell? ⟨gs, 0, none⟩ = some (.int .i64 n) := HSd.out.cell rfl
        have dS1 : wd.cell? ⟨gs, 1, none⟩ = some (.slice Av l.length cv) := HSd.out.cell rfl
        by_cases hz : p = s.size
        · have hzd : decide (p = s.size) = true := decide_eq_true hz
          have hnil : Hid (s.data.toList.drop p = []) := Lib.hid (List.drop_of_length_le (by rw [data_length]; omega))
          rw [hzd]
          have HLr := Lib.hid ((HOd.out.str_any (fun _ => True)).read (fun _ _ => trivial))
          clear hz hzd
          go_wp2_with fail
          refine (r_right n l Av cv wd _ HLr.out hn0 hn1 hll).mono ?_
          rintro e we ⟨rfl, hke⟩
          have HSe := Lib.hid (HSd.out.kept hke (fun x => x))
          have HOe := Lib.hid (HOd.out.keptNo hke)
          have HKe := Lib.hid (HKd.out.transNo hke)
          clear hke dS0 dS1
          have dS0 : we.cell? ⟨gs, 0, none⟩ = some (.int .i64 n) := HSe.out.cell rfl
          have dS1 : we.cell? ⟨gs, 1, none⟩ = some (.slice Av l.length cv) := HSe.out.cell rfl
          cases hok : okSheet n l with
          | false =>
            have HRN : Hid (R = none) := Lib.hid (by rcases HRS.out with ⟨_, h⟩ | ⟨_, h⟩; exact h; rw [h, hok]; simp)
            clear hok
            have HBz := Lib.hid (HB5.out.kept HKe.out (fun e => by omega))
            have d0 : Go.World.cell? we ⟨w.heap.size, 0, none⟩ = some (.int .i64 0) := HBz.out.cell rfl
            have d1 : Go.World.cell? we ⟨w.heap.size, 1, none⟩ = some (.slice none 0 0) := HBz.out.cell rfl
            have f0 := HBz.out.fr 0
            have f1 := HBz.out.fr 1
            have hbz := HBz.out.lt
            go_wp2_with fail
            have hfin := (HBz.out.set 0 (.int .i64 0)).set 1 (.slice none 0 0)
            have hkf : Kp (fun i => w.heap.size ≤ i) w (((Go.World.setCell we ⟨w.heap.size, 0, none⟩ (.int .i64 0))).setCell ⟨w.heap.size, 1, none⟩ (.slice none 0 0)) := (((HK5.out.mono (S' := fun i => w.heap.size ≤ i) (fun _ _ e => by omega)).trans HKe.out (fun i hi e => by omega)).setCell (p := ⟨w.heap.size, 0, none⟩) (fun _ => Nat.le_refl _) _).setCell (p := ⟨w.heap.size, 1, none⟩) (fun _ => Nat.le_refl _) _
            rw [HRN.out]
            refine bodyPost_ret (results_ct rfl _ _ w.heap.size _ _ _ _ rfl hfin Try.underlying34 rfl (by kernel_rfl)) rfl ⟨(by unfold SheetOut; rfl), hkf.mono (fun k hk e => by omega)⟩
          | true =>
            by_cases hm : 0 ≤ m
            · have hlm : ((l.length : Int) != m) = false := by simp; omega
              have HRY : Hid (R = some (n, l)) := Lib.hid (by rcases HRS.out with ⟨h, _⟩ | ⟨_, h⟩; omega; rw [h, hok, hnil.out]; simp)
              clear hok hm hlk hki
              have HBz := Lib.hid (HB5.out.kept HKe.out (fun e => by omega))
              have d0 : we.cell? ⟨w.heap.size, 0, none⟩ = some (.int .i64 0) := HBz.out.cell rfl
              have d1 : we.cell? ⟨w.heap.size, 1, none⟩ = some (.slice none 0 0) := HBz.out.cell rfl
              have f0 := HBz.out.fr 0
              have f1 := HBz.out.fr 1
              have hbz := HBz.out.lt
              go_wp2_with fail
              have hfin := (HBz.out.set 0 (.int .i64 n)).set 1 (.slice Av l.length cv)
              have hkr : Kp (· = w.heap.size) we ((we.setCell ⟨w.heap.size, 0, none⟩ (.int .i64 n)).setCell ⟨w.heap.size, 1, none⟩ (.slice Av l.length cv)) := ((Kp.refl (· = w.heap.size) we).setCell (p := ⟨w.heap.size, 0, none⟩) (fun _ => rfl) _).setCell (p := ⟨w.heap.size, 1, none⟩) (fun _ => rfl) _
              have hkf : Kp (fun i => w.heap.size ≤ i) w ((we.setCell ⟨w.heap.size, 0, none⟩ (.int .i64 n)).setCell ⟨w.heap.size, 1, none⟩ (.slice Av l.length cv)) := ((HK5.out.mono (S' := fun i => w.heap.size ≤ i) (fun _ _ e => by omega)).trans HKe.out (fun i hi e => by omega)).trans hkr (fun i hi e => by omega)
              rw [HRY.out]
              refine bodyPost_ret (results_ct rfl _ _ w.heap.size _ _ _ _ rfl hfin Try.underlying34 rfl (by kernel_rfl)) rfl ⟨⟨Av, cv, rfl, ?_⟩, hkf.mono (fun k hk e => by omega)⟩
              exact (HOe.out.kept hkr (fun _ h => h.elim) (fun g hg e => by have := (HOe.out.lt g hg).1; omega)).mono (by omega) (fun _ h => h)
            · have hlm : ((l.length : Int) != m) = true := by simp; omega
              have HRN : Hid (R = none) := Lib.hid (by rcases HRS.out with ⟨_, h⟩ | ⟨h, _⟩; exact h; exact absurd h hm)
              clear hok hm
              have HBz := Lib.hid (HB5.out.kept HKe.out (fun e => by omega))
              have d0 : Go.World.cell? we ⟨w.heap.size, 0, none⟩ = some (.int .i64 0) := HBz.out.cell rfl
              have d1 : Go.World.cell? we ⟨w.heap.size, 1, none⟩ = some (.slice none 0 0) := HBz.out.cell rfl
              have f0 := HBz.out.fr 0
              have f1 := HBz.out.fr 1
              have hbz := HBz.out.lt
              go_wp2_with fail
              have hfin := (HBz.out.set 0 (.int .i64 0)).set 1 (.slice none 0 0)
              have hkf : Kp (fun i => w.heap.size ≤ i) w (((Go.World.setCell we ⟨w.heap.size, 0, none⟩ (.int .i64 0))).setCell ⟨w.heap.size, 1, none⟩ (.slice none 0 0)) := (((HK5.out.mono (S' := fun i => w.heap.size ≤ i) (fun _ _ e => by omega)).trans HKe.out (fun i hi e => by omega)).setCell (p := ⟨w.heap.size, 0, none⟩) (fun _ => Nat.le_refl _) _).setCell (p := ⟨w.heap.size, 1, none⟩) (fun _ => Nat.le_refl _) _
              rw [HRN.out]
              refine bodyPost_ret (results_ct rfl _ _ w.heap.size _ _ _ _ rfl hfin Try.underlying34 rfl (by kernel_rfl)) rfl ⟨(by unfold SheetOut; rfl), hkf.mono (fun k hk e => by omega)⟩
        · have hzd : decide (p = s.size) = false := decide_eq_false hz
          have HRN : Hid (R = none) := Lib.hid (by
            rcases HRS.out with ⟨_, h⟩ | ⟨_, h⟩
            · exact h
            · rw [h, if_neg]
              rintro ⟨h, _⟩
              have h2 := congrArg List.length h
              rw [List.length_drop, data_length, List.length_nil] at h2
              omega)
          rw [hzd]
          clear hz hzd
          have HBz := Lib.hid (HB5.out.kept HKd.out (fun e => by omega))
          have d0 : Go.World.cell? wd ⟨w.heap.size, 0, none⟩ = some (.int .i64 0) := HBz.out.cell rfl
          have d1 : Go.World.cell? wd ⟨w.heap.size, 1, none⟩ = some (.slice none 0 0) := HBz.out.cell rfl
          have f0 := HBz.out.fr 0
          have f1 := HBz.out.fr 1
          have hbz := HBz.out.lt
          go_wp2_with fail
          have hfin := (HBz.out.set 0 (.int .i64 0)).set 1 (.slice none 0 0)
          have hkf : Kp (fun i => w.heap.size ≤ i) w (((Go.World.setCell wd ⟨w.heap.size, 0, none⟩ (.int .i64 0))).setCell ⟨w.heap.size, 1, none⟩ (.slice none 0 0)) := (((HK5.out.mono (S' := fun i => w.heap.size ≤ i) (fun _ _ e => by omega)).trans HKd.out (fun i hi e => by omega)).setCell (p := ⟨w.heap.size, 0, none⟩) (fun _ => Nat.le_refl _) _).setCell (p := ⟨w.heap.size, 1, none⟩) (fun _ => Nat.le_refl _) _
          rw [HRN.out]
          refine bodyPost_ret (results_ct rfl _ _ w.heap.size _ _ _ _ rfl hfin Try.underlying34 rfl (by kernel_rfl)) rfl ⟨(by unfold SheetOut; rfl), hkf.mono (fun k hk e => by omega)⟩
end Go.Proofs.Ytejmbbnndagejaa
