/-
  sheet.Parse.
-/
import Derived.Test.YtejmbbnndagejaaPrsL
import Derived.Test.YtejmbbnndagejaaH3
import Derived.Test.YtejmbbnndagejaaH2
namespace Go.Proofs.Ytejmbbnndagejaa
open Go.RowKit Go.ChangeShapes Go.WideShapes Go.ChangeAt

/-- a sheet that is handed back, or none -/
def SheetOut (base : Nat) (r : Option (Int × List ByteArray)) (okc badc : Value) (e : Ending) (w' : World) : Prop :=
  match r with
  | none => e = .returned (.tuple #[.agg #[.int .i64 0, .slice none 0 0], badc])
  | some p => ∃ A c, e = .returned (.tuple #[.agg #[.int .i64 p.1, .slice A p.2.length c], okc]) ∧ Own Rp.str w' No base 9 (.slice A p.2.length c) p.2

/-- a reader amid the reading of texts -/
def PState (w : World) (g n0 : Nat) (L : List UInt8) (k : Nat) (l : List ByteArray) : Prop := ∃ (sr : ByteArray) (b : Bool), IsRd w g sr b ∧ sr.size ≤ 1000000 ∧ PIn n0 L k l sr.data.toList b
set_option maxRecDepth 100000 in
set_option maxHeartbeats 1000000 in
theorem c_parse (s : ByteArray) (w : World) (hs : s.size ≤ 1000000) : Calls Try.prog 34 #[.string s] w fun e w' => SheetOut w.heap.size (parseS s.data.toList) (.int .i64 0) (.int .i64 3) e w' ∧ Kp No w w' := by
  obtain ⟨R, hR⟩ : ∃ R, parseS s.data.toList = R := ⟨_, rfl⟩
  rw [hR]
  have HR := Lib.hid hR
  clear hR
  obtain ⟨w1, hw1⟩ : ∃ w1, w.alloc (.cells #[.int .i64 0, .slice none 0 0] 34) = w1 := ⟨_, rfl⟩
  have HB1 : Hid (Blk w1 w.heap.size 34 [.int .i64 0, .slice none 0 0]) := Lib.hid (by rw [← hw1]; exact Blk.new w _ _)
  have HK1 : Hid (Kp No w w1) := Lib.hid (by rw [← hw1]; exact (Kp.refl _ _).alloc _)
  have h1s : w1.heap.size = w.heap.size + 1 := by rw [← hw1]; simp
  go_enter Try.func34, Try.ntmps34
  go_wp2_with fail
  clear hw1
  refine (c_Read s w1).mono ?_
  rintro e w2 ⟨rfl, hg2, hk2⟩
  rw [h1s] at hg2 ⊢
  have HB2 := Lib.hid (HB1.out.kept hk2 (fun x => x))
  have HG2 := Lib.hid hg2
  have HK2 := Lib.hid (HK1.out.trans' hk2)
  have hgl2 := Blk.lt hg2
  clear hg2 hk2
  obtain ⟨p1, hp1⟩ : ∃ p, numSt s false = p := ⟨_, rfl⟩
  have hps1 : p1.2.1.size ≤ s.size := by rw [← hp1]; exact numSt_size false
  have HP1 := Lib.hid hp1
  clear hp1
  obtain ⟨n, s1, b1⟩ := p1
  go_wp2_with fail
  refine (c_NumS (w.heap.size + 1) s false _ HP1.out w2 HG2.out (by omega)).mono ?_
  rintro e w3 ⟨rfl, hg3, hk3⟩
  obtain ⟨p2, hp2⟩ : ∃ p, numSt s1 b1 = p := ⟨_, rfl⟩
  have hps2 : p2.2.1.size ≤ s1.size := by rw [← hp2]; exact numSt_size b1
  have HP2 := Lib.hid hp2
  obtain ⟨q2, hq2⟩ : ∃ q, countOf p2 = q := ⟨_, rfl⟩
  have HQ2 := Lib.hid hq2
  have hps1' : s1.size ≤ s.size := hps1
  clear hp2 hq2 hps1
  go_wp2_with fail
  obtain ⟨w4, hw4⟩ : ∃ w4, w3.alloc (.cells #[.int .i64 n, .slice none 0 0] 34) = w4 := ⟨_, rfl⟩
  obtain ⟨gs, hgs⟩ : ∃ gs, w3.heap.size = gs := ⟨_, rfl⟩
  have hk4 : Kp No w3 w4 := by rw [← hw4]; exact (Kp.refl _ _).alloc _
  have hs3 := hk3.size
  have HS4 : Hid (Blk w4 gs 34 [.int .i64 n, .slice none 0 0]) := Lib.hid (by rw [← hw4, ← hgs]; exact Blk.new w3 _ _)
  have HB4 := Lib.hid ((HB2.out.kept hk3 (fun e => by omega)).kept hk4 (fun x => x))
  have HG4 := Lib.hid (Blk.kept hg3 hk4 (fun x => x))
  have HK4 : Hid (Kp (· = w.heap.size + 1) w w4) := Lib.hid ((HK2.out.any.trans' hk3).transNo hk4)
  have hgs1 : w.heap.size + 1 < gs := by omega
  have HGS := Lib.hid hgs
  clear hgs
  clear hg3 hk3 hk4 hs3 hgl2
  rw [hw4, HGS.out]
  clear hw4
  refine (c_CountS (w.heap.size + 1) s1 b1 _ HP2.out _ HQ2.out (by omega) w4 HG4.out (by omega)).mono ?_
  rintro e w5 ⟨rfl, hg5, hk5⟩
  obtain ⟨m, s2, b2⟩ := q2
  have hps2' : s2.size ≤ s.size := by
    have h : (countOf p2).2.1.size ≤ p2.2.1.size := by
      obtain ⟨a, b, c⟩ := p2
      cases c with
      | true => exact Nat.le_refl _
      | false =>
        unfold countOf
        by_cases hf : fits a b
        · simp only [if_pos hf]; omega
        · simp only [if_neg hf]; omega
    rw [HQ2.out] at h
    have h' : s2.size ≤ p2.2.1.size := h
    omega
  have hcase := count_case (s := s) (m := m) (s2 := s2) (b2 := b2) HP1.out (by rw [HP2.out]; exact HQ2.out)
  obtain ⟨hn0, hn1, hcase⟩ := hcase
  rw [HR.out] at hcase
  have HS5 := Lib.hid (HS4.out.kept hk5 (fun e => by omega))
  have HB5 := Lib.hid (HB4.out.kept hk5 (fun e => by omega))
  have HK5 := Lib.hid (HK4.out.trans' hk5)
  have HP5 : Hid (∃ k : Nat, m = (k : Int) ∧ k ≤ s.size ∧ ∃ (N : Nat) (L2 : List UInt8), PState w5 (w.heap.size + 1) N L2 k [] ∧ (R = parseOn n N L2)) := Lib.hid (by
    rcases hcase with ⟨h1, h2, h3⟩ | ⟨h1, k, h2, h3, h4⟩
    · exact ⟨0, h2, by omega, 1, [], ⟨s2, b2, hg5, by omega, by rw [h1]; exact .inr ⟨rfl, rfl⟩⟩, by rw [h3]; rfl⟩
    · exact ⟨k, h2, by omega, k, s2.data.toList, ⟨s2, b2, hg5, by omega, by rw [h1]; exact PIn.start _ _⟩, h4⟩)
  obtain ⟨k0, hm, hk0, N0, L2, hst, hR2⟩ := HP5.out
  subst hm
  have HST := Lib.hid hst
  have HR2 := Lib.hid hR2
  have hgs5 : gs < w5.heap.size := HS5.out.lt
  clear hg5 hk5 hcase hst hR2 HP5 HP1 HP2 HQ2 HR
  go_wp2_with fail
  obtain ⟨wo, hwo⟩ : ∃ wo : World, wo = w5 := ⟨_, rfl⟩
  go_loopw [6] (fun iv wr => ∃ (k : Nat) (l : List ByteArray) (v : Value), iv = .int .i64 (k : Int) ∧ l.length + k = k0 ∧ Blk wr gs 34 [.int .i64 n, v] ∧ Own Rp.str wr No w5.heap.size 9 v l ∧ PState wr (w.heap.size + 1) N0 L2 k l ∧ Kp (fun i => i = gs ∨ i = w.heap.size + 1) w5 wr) (fun iv _ => (intOf iv).toNat)
  case atStart => exact ⟨k0, [], _, rfl, by simp, HS5.out, Own.nil _ _ _ _ _, HST.out, Kp.refl _ _⟩
  case round =>
    clear hwo HST
    obtain ⟨k, l, v, rfl, hlk, hb4, hown, hst, hkr⟩ := hrel
    obtain ⟨Av, cv, rfl⟩ := hown.shape
    obtain ⟨sr, b, hg, hsr, hpin⟩ := hst
    have HS := Lib.hid hb4
    have HO := Lib.hid hown
    have HG := Lib.hid hg
    have HPI := Lib.hid hpin
    have HK := Lib.hid hkr
    clear hb4 hown hg hpin hkr
    have hgl := Blk.lt HG.out
    by_cases hk : 0 < k
    · have hki : (0 : Int) < (k : Int) := by omega
      go_wp2_with fail
      refine (c_Good (w.heap.size + 1) sr b wr HG.out).mono ?_
      rintro e wa ⟨rfl, hka⟩
      have HSa := Lib.hid (HS.out.kept hka (fun x => x))
      have HOa := Lib.hid (HO.out.keptNo hka)
      have HGa := Lib.hid (Blk.kept HG.out hka (fun x => x))
      have HKa := Lib.hid (HK.out.transNo hka)
      clear hka HS HO HG HK
      cases b with
      | true =>
        have HRN : Hid (R = none) := Lib.hid (by rw [HR2.out]; exact parseOn_none HPI.out.none)
        go_wp2_with fail
        refine (c_Done (w.heap.size + 1) sr true wa HGa.out).mono ?_
        rintro e wd ⟨rfl, hkd⟩
        have HKd := Lib.hid (HKa.out.transNo hkd)
        clear hkd
        have HBz := Lib.hid (HB5.out.kept HKd.out (fun e => by omega))
        have d0 : Go.World.cell? wd ⟨w.heap.size, 0, none⟩ = some (.int .i64 0) := HBz.out.cell rfl
        have d1 : Go.World.cell? wd ⟨w.heap.size, 1, none⟩ = some (.slice none 0 0) := HBz.out.cell rfl
        have f0 := HBz.out.fr 0
        have f1 := HBz.out.fr 1
        have hbz := HBz.out.lt
        go_wp2_with fail
        have hfin := (HBz.out.set 0 (.int .i64 0)).set 1 (.slice none 0 0)
        have hkf : Kp (fun i => w.heap.size ≤ i) w (((Go.World.setCell wd ⟨w.heap.size, 0, none⟩ (.int .i64 0))).setCell ⟨w.heap.size, 1, none⟩ (.slice none 0 0)) := (((HK5.out.mono (S' := fun i => w.heap.size ≤ i) (fun _ _ e => by omega)).trans HKd.out (fun i hi e => by omega)).setCell (p := ⟨w.heap.size, 0, none⟩) (fun _ => Nat.le_refl _) _).setCell (p := ⟨w.heap.size, 1, none⟩) (fun _ => Nat.le_refl _) _
        rw [HRN.out]
        refine bodyPost_ret (results_ct rfl _ _ w.heap.size _ _ _ _ rfl hfin Try.underlying34 rfl (by kernel_rfl)) rfl ⟨(by unfold SheetOut; rfl), hkf.mono (fun k hk e => by omega)⟩
      | false =>
        have cS : wa.cell? ⟨gs, 1, none⟩ = some (.slice Av l.length cv) := HSa.out.cell rfl
        have hgsl := HSa.out.lt
        have hgla := Blk.lt HGa.out
        obtain ⟨p, hp⟩ : ∃ p, numSt sr false = p := ⟨_, rfl⟩
        obtain ⟨t, ht⟩ : ∃ t, textOf p = t := ⟨_, rfl⟩
        have hpl : p.2.1.size ≤ sr.size := by rw [← hp]; exact numSt_size false
        obtain ⟨kk, rfl⟩ : ∃ kk, k = kk + 1 := ⟨k - 1, by omega⟩
        have htx : Hid (t.1.size ≤ 1000000 ∧ t.2.1.size ≤ 1000000 ∧ PIn N0 L2 kk (l ++ [t.1]) t.2.1.data.toList t.2.2) := Lib.hid (by
          rw [← ht, ← hp]
          cases hr : rdText sr.data.toList with
          | none =>
            obtain ⟨s', h1, h2⟩ := textSt_none hr
            rw [h2]
            exact ⟨by simp, by show s'.size ≤ _; omega, HPI.out.bad hr _ _⟩
          | some q =>
            obtain ⟨tt, r⟩ := q
            rw [textSt_some hr]
            have h1 := rdText_size hr
            have h2 := rdText_lt hr
            rw [data_length] at h1 h2
            exact ⟨by show tt.length ≤ _; omega, by show r.length ≤ _; omega, HPI.out.good hr⟩)
        obtain ⟨y, s9, b9⟩ := t
        have HTX := htx
        have HP := Lib.hid hp
        have HT := Lib.hid ht
        clear htx hp ht HPI
        go_wp2_with fail
        refine Reg.wp_region_plan [⟨0, false, []⟩, ⟨1, false, []⟩, ⟨2, false, []⟩, ⟨3, true, [0, 1]⟩, ⟨4, true, [0, 1]⟩, ⟨5, true, []⟩, ⟨6, false, []⟩, ⟨7, true, []⟩] rfl (by kernel_rfl) ?_
        repeat (first | (refine Reg.look rfl rfl rfl (by go_simp; rfl) rfl ?_; go_simp) | (refine Reg.skip rfl rfl rfl ?_; go_simp))
        refine Reg.act rfl ?_
        go_wp2_with fail
        refine (c_TextS (w.heap.size + 1) sr false p HP.out _ HT.out (by omega) wa.drew (Blk.drew HGa.out) (by omega)).mono ?_
        rintro e wb ⟨rfl, hgb, hkb⟩
        have hkb' : Kp (· = w.heap.size + 1) wa wb := (Kp.refl _ _).drew.trans' hkb
        have HSb := Lib.hid (HSa.out.kept hkb' (fun e => by omega))
        have HOb := Lib.hid (HOa.out.kept hkb' (fun _ h => h.elim) (fun g hg e => by have := (HOa.out.lt g hg).1; omega))
        have HGb := Lib.hid hgb
        have HKb := Lib.hid (HKa.out.trans hkb' (fun _ _ e => .inr e))
        have cS5 : wb.cell? ⟨gs, 1, none⟩ = some (.slice Av l.length cv) := HSb.out.cell rfl
        have hbl5 := HSb.out.lt
        have hne5 : gs ≠ wb.heap.size := by omega
        clear hkb hkb' hgb HSa HOa HGa HKa
        go_wp2_with fail
        (refine ⟨?anew, ?_⟩; case anew => ((repeat (refine Reg.anew_cons rfl rfl (fun _ => by go_simp) ?_)); exact Reg.anew_nil))
        refine Reg.act rfl ?_
        go_wp2
        (refine ⟨?anew, ?_⟩; case anew => ((repeat (refine Reg.anew_cons rfl rfl (fun _ => by go_simp) ?_)); exact Reg.anew_nil))
        refine Reg.act rfl ?_
        have HYS : Hid (y.size ≤ maxLen) := Lib.hid (by have h : y.size ≤ 1000000 := HTX.out.1; unfold maxLen; omega)
        have hll : l.length ≤ 1000000 := by omega
        refine wpList_append_lit Rp.str_by rfl _ (.tmp 23) (.tmp 26) 22 rfl w5.heap.size 9 16 elem_str (.slice Av l.length cv) l rfl No ?d0 wb.heap.size [y] rfl _ _ _ (heap_alloc_new wb _) rfl ?d2 ?d3 ?d4 ?d5 ?d6 ?_
        case d0 => exact (HOb.out.alloc _).drew
        case d2 => intro a ha; simp only [List.mem_cons, List.not_mem_nil, or_false] at ha; subst ha; exact HYS.out
        case d3 => simp [maxLen]; omega
        case d4 => simp; omega
        case d5 => have := HKb.out.size; simp; omega
        case d6 => intro h; have := (HOb.out.lt _ h).2; omega
        intro A3 c3 w6 hown hk6
        have hg4 : (Value.slice Av l.length cv).ownBlock ≠ some gs := fun h => by have := (HOb.out.lt _ h).1; omega
        have hg5 : (Value.slice Av l.length cv).ownBlock ≠ some (w.heap.size + 1) := fun h => by have := (HOb.out.lt _ h).1; omega
        have HS6 := Lib.hid ((HSb.out.kept (S := No) ((Kp.refl _ _).alloc _) (fun x => x)).kept (S := fun i => (Value.slice Av l.length cv).ownBlock = some i) hk6 (fun e => hg4 e))
        have HG6 := Lib.hid (Blk.kept (S := fun i => (Value.slice Av l.length cv).ownBlock = some i) (Blk.kept (S := No) HGb.out ((Kp.refl _ _).alloc _) (fun x => x)) hk6 (fun e => hg5 e))
        have HK6 := Lib.hid ((HKb.out.alloc _).trans hk6 (fun i hi hv => absurd (HOb.out.lt i hv).1 (by omega)))
        have hle : (l ++ [y]).length = l.length + 1 := by rw [List.length_append]; rfl
        rw [hle] at hown
        rw [hle]
        have HO6 := Lib.hid hown
        have c6 : w6.cell? ⟨gs, 1, none⟩ = some (.slice Av l.length cv) := HS6.out.cell rfl
        have f6 := HS6.out.fr 1
        clear hown hk6 hle hg4 hg5 cS5
        go_wp2
        (refine ⟨?anew, ?_⟩; case anew => ((repeat (refine Reg.anew_cons rfl rfl (fun _ => by go_simp) ?_)); exact Reg.anew_nil))
        repeat (first | (refine Reg.look rfl rfl rfl (by go_simp; rfl) rfl ?_; go_simp) | (refine Reg.skip rfl rfl rfl ?_; go_simp))
        refine Reg.act rfl ?_
        go_wp2
        refine ⟨Reg.anew_nil, ?_⟩
        (refine Reg.done ?_; simp only [Exit.then])
        go_wp2
        go_roundw
        case rel =>
          have hk7 : Kp (· = gs) w6 (w6.setCell ⟨gs, 1, none⟩ (.slice A3 (l.length + 1) c3)) := (Kp.refl (· = gs) w6).setCell (p := ⟨gs, 1, none⟩) (fun _ => rfl) _
          refine ⟨kk, l ++ [y], .slice A3 (l.length + 1) c3, by go_num, by rw [List.length_append]; simp; omega, ?_, ?_, ⟨s9, b9, ?_, HTX.out.2.1, HTX.out.2.2⟩, ?_⟩
          · exact (HS6.out.set 1 (.slice A3 (l.length + 1) c3)).drew
          · exact HO6.out.kept hk7 (fun _ h => h.elim) (fun g hg e => by have := (HO6.out.lt g hg).1; omega)
          · exact Blk.drew (Blk.kept HG6.out hk7 (fun e => by omega))
          · exact HK6.out.setCell (p := ⟨gs, 1, none⟩) (fun _ => .inl rfl) _
        case measure => first | (simp [intOf]; done) | (simp [intOf]; omega)
    · obtain rfl : k = 0 := by omega
      cases b with
      | true =>
        have HRN : Hid (R = none) := Lib.hid (by rw [HR2.out]; exact parseOn_none HPI.out.none)
        go_wp2_with fail
        refine (c_Done (w.heap.size + 1) sr true wr HG.out).mono ?_
        rintro e wd ⟨rfl, hkd⟩
        have HKd := Lib.hid (HK.out.transNo hkd)
        clear hkd
        have HBz := Lib.hid (HB5.out.kept HKd.out (fun e => by omega))
        have d0 : Go.World.cell? wd ⟨w.heap.size, 0, none⟩ = some (.int .i64 0) := HBz.out.cell rfl
        have d1 : Go.World.cell? wd ⟨w.heap.size, 1, none⟩ = some (.slice none 0 0) := HBz.out.cell rfl
        have f0 := HBz.out.fr 0
        have f1 := HBz.out.fr 1
        have hbz := HBz.out.lt
        go_wp2_with fail
        have hfin := (HBz.out.set 0 (.int .i64 0)).set 1 (.slice none 0 0)
        have hkf : Kp (fun i => w.heap.size ≤ i) w (((Go.World.setCell wd ⟨w.heap.size, 0, none⟩ (.int .i64 0))).setCell ⟨w.heap.size, 1, none⟩ (.slice none 0 0)) := (((HK5.out.mono (S' := fun i => w.heap.size ≤ i) (fun _ _ e => by omega)).trans HKd.out (fun i hi e => by omega)).setCell (p := ⟨w.heap.size, 0, none⟩) (fun _ => Nat.le_refl _) _).setCell (p := ⟨w.heap.size, 1, none⟩) (fun _ => Nat.le_refl _) _
        rw [HRN.out]
        refine bodyPost_ret (results_ct rfl _ _ w.heap.size _ _ _ _ rfl hfin Try.underlying34 rfl (by kernel_rfl)) rfl ⟨(by unfold SheetOut; rfl), hkf.mono (fun k hk e => by omega)⟩
      | false =>
        have HRS : Hid (R = if sr.data.toList = [] ∧ okSheet n l = true then some (n, l) else none) := Lib.hid (by rw [HR2.out]; exact parseOn_some HPI.out.stop)
        clear HR2 HPI
        go_wp2_with fail
        refine (c_Done (w.heap.size + 1) sr false wr HG.out).mono ?_
        rintro e wd ⟨rfl, hkd⟩
        have HSd := Lib.hid (HS.out.kept hkd (fun x => x))
        have HOd := Lib.hid (HO.out.keptNo hkd)
        have HKd := Lib.hid (HK.out.transNo hkd)
        clear hkd HS HO HG HK
        have dS0 : wd.cell? ⟨gs, 0, none⟩ = some (.int .i64 n) := HSd.out.cell rfl
        have dS1 : wd.cell? ⟨gs, 1, none⟩ = some (.slice Av l.length cv) := HSd.out.cell rfl
        by_cases hz : sr.size = 0
        · have hzd : decide (sr.size = 0) = true := decide_eq_true hz
          have hnil : Hid (sr.data.toList = []) := Lib.hid (List.eq_nil_of_length_eq_zero (by rw [data_length]; exact hz))
          rw [hzd]
          have hll : l.length ≤ 1000000 := by omega
          have HLr := Lib.hid ((HOd.out.str_any (fun _ => True)).read (fun _ _ => trivial))
          clear hz hzd
          go_wp2_with fail
          refine (c_check n l Av cv wd _ HLr.out hn0 hn1 hll).mono ?_
          rintro e we ⟨rfl, hke⟩
          have HSe := Lib.hid (HSd.out.kept hke (fun x => x))
          have HOe := Lib.hid (HOd.out.keptNo hke)
          have HKe := Lib.hid (HKd.out.transNo hke)
          clear hke dS0 dS1
          cases hok : okSheet n l with
          | false =>
            have HRN : Hid (R = none) := Lib.hid (by rw [HRS.out, hok]; simp)
            have hck : chkN n l = 3 := by unfold chkN; rw [hok]; rfl
            rw [hck]
            clear hok hck
            have HBz := Lib.hid (HB5.out.kept HKe.out (fun e => by omega))
            have d0 : Go.World.cell? we ⟨w.heap.size, 0, none⟩ = some (.int .i64 0) := HBz.out.cell rfl
            have d1 : Go.World.cell? we ⟨w.heap.size, 1, none⟩ = some (.slice none 0 0) := HBz.out.cell rfl
            have f0 := HBz.out.fr 0
            have f1 := HBz.out.fr 1
            have hbz := HBz.out.lt
            go_wp2_with fail
            have hfin := (HBz.out.set 0 (.int .i64 0)).set 1 (.slice none 0 0)
            have hkf : Kp (fun i => w.heap.size ≤ i) w (((Go.World.setCell we ⟨w.heap.size, 0, none⟩ (.int .i64 0))).setCell ⟨w.heap.size, 1, none⟩ (.slice none 0 0)) := (((HK5.out.mono (S' := fun i => w.heap.size ≤ i) (fun _ _ e => by omega)).trans HKe.out (fun i hi e => by omega)).setCell (p := ⟨w.heap.size, 0, none⟩) (fun _ => Nat.le_refl _) _).setCell (p := ⟨w.heap.size, 1, none⟩) (fun _ => Nat.le_refl _) _
            rw [HRN.out]
            refine bodyPost_ret (results_ct rfl _ _ w.heap.size _ _ _ _ rfl hfin Try.underlying34 rfl (by kernel_rfl)) rfl ⟨(by unfold SheetOut; rfl), hkf.mono (fun k hk e => by omega)⟩
          | true =>
            have HRY : Hid (R = some (n, l)) := Lib.hid (by rw [HRS.out, hok, hnil.out]; simp)
            have hck : chkN n l = 0 := by unfold chkN; rw [hok]; rfl
            rw [hck]
            clear hok hck
            have HBz := Lib.hid (HB5.out.kept HKe.out (fun e => by omega))
            have d0 : we.cell? ⟨w.heap.size, 0, none⟩ = some (.int .i64 0) := HBz.out.cell rfl
            have d1 : we.cell? ⟨w.heap.size, 1, none⟩ = some (.slice none 0 0) := HBz.out.cell rfl
            have f0 := HBz.out.fr 0
            have f1 := HBz.out.fr 1
            have hbz := HBz.out.lt
            have dS0 : we.cell? ⟨gs, 0, none⟩ = some (.int .i64 n) := HSe.out.cell rfl
            have dS1 : we.cell? ⟨gs, 1, none⟩ = some (.slice Av l.length cv) := HSe.out.cell rfl
            go_wp2_with fail
            have hfin := (HBz.out.set 0 (.int .i64 n)).set 1 (.slice Av l.length cv)
            have hkr : Kp (· = w.heap.size) we ((we.setCell ⟨w.heap.size, 0, none⟩ (.int .i64 n)).setCell ⟨w.heap.size, 1, none⟩ (.slice Av l.length cv)) := ((Kp.refl (· = w.heap.size) we).setCell (p := ⟨w.heap.size, 0, none⟩) (fun _ => rfl) _).setCell (p := ⟨w.heap.size, 1, none⟩) (fun _ => rfl) _
            have hkf : Kp (fun i => w.heap.size ≤ i) w ((we.setCell ⟨w.heap.size, 0, none⟩ (.int .i64 n)).setCell ⟨w.heap.size, 1, none⟩ (.slice Av l.length cv)) := ((HK5.out.mono (S' := fun i => w.heap.size ≤ i) (fun _ _ e => by omega)).trans HKe.out (fun i hi e => by omega)).trans hkr (fun i hi e => by omega)
            rw [HRY.out]
            refine bodyPost_ret (results_ct rfl _ _ w.heap.size _ _ _ _ rfl hfin Try.underlying34 rfl (by kernel_rfl)) rfl ⟨⟨Av, cv, rfl, ?_⟩, hkf.mono (fun k hk e => by omega)⟩
            exact (HOe.out.kept hkr (fun _ h => h.elim) (fun g hg e => by have := (HOe.out.lt g hg).1; omega)).mono (by omega) (fun _ h => h)
        · have hzd : decide (sr.size = 0) = false := decide_eq_false hz
          have HRN : Hid (R = none) := Lib.hid (by
            rw [HRS.out, if_neg]
            rintro ⟨h, _⟩
            have h2 := congrArg List.length h
            rw [data_length] at h2
            exact hz h2)
          rw [hzd]
          clear hz hzd
          have HBz := Lib.hid (HB5.out.kept HKd.out (fun e => by omega))
          have d0 : Go.World.cell? wd ⟨w.heap.size, 0, none⟩ = some (.int .i64 0) := HBz.out.cell rfl
          have d1 : Go.World.cell? wd ⟨w.heap.size, 1, none⟩ = some (.slice none 0 0) := HBz.out.cell rfl
          have f0 := HBz.out.fr 0
          have f1 := HBz.out.fr 1
          have hbz := HBz.out.lt
          go_wp2_with fail
          have hfin := (HBz.out.set 0 (.int .i64 0)).set 1 (.slice none 0 0)
          have hkf : Kp (fun i => w.heap.size ≤ i) w (((Go.World.setCell wd ⟨w.heap.size, 0, none⟩ (.int .i64 0))).setCell ⟨w.heap.size, 1, none⟩ (.slice none 0 0)) := (((HK5.out.mono (S' := fun i => w.heap.size ≤ i) (fun _ _ e => by omega)).trans HKd.out (fun i hi e => by omega)).setCell (p := ⟨w.heap.size, 0, none⟩) (fun _ => Nat.le_refl _) _).setCell (p := ⟨w.heap.size, 1, none⟩) (fun _ => Nat.le_refl _) _
          rw [HRN.out]
          refine bodyPost_ret (results_ct rfl _ _ w.heap.size _ _ _ _ rfl hfin Try.underlying34 rfl (by kernel_rfl)) rfl ⟨(by unfold SheetOut; rfl), hkf.mono (fun k hk e => by omega)⟩
end Go.Proofs.Ytejmbbnndagejaa
