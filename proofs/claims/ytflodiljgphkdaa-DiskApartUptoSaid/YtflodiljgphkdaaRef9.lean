/-
  The document's drive: Crash.
-/
import Derived.Test.YtflodiljgphkdaaRef8
import Derived.Test.YtflodiljgphkdaaDisk11
namespace Go.Proofs.Ytflodiljgphkdaa
open Go.RowKit Go.ChangeShapes Go.WideShapes Go.ChangeAt

theorem lit1' (w : World) (vs : List Value) (p : ByteArray × FV) (hv : vs = enc4 p) (S : Nat → Prop) (hS : S w.heap.size) : Rp.rf.slice.R (w.alloc (.cells vs.toArray 106)) S [.slice (some ⟨w.heap.size, 0, none⟩) 1 1] [p] := by
  subst hv; exact lit1 w p S hS
/-- how far a loss of power has come -/
structure CRel (w : World) (x : DV) (ks : List Int) (i k : Nat) (L : List (ByteArray × FV)) (v : Value) (wr : World) : Prop where
  hi : i ≤ x.files.length
  hk : k ≤ i
  len : L.length ≤ i
  now : crashF x.files ks = L ++ crashF (x.files.drop i) (ks.drop k)
  own : Own Rp.rf wr No w.heap.size 106 v L
  kp : Kp No w wr
theorem crash_next {l : List (ByteArray × FV)} {i : Nat} {n : ByteArray} {f : FV} (hi : l[i]? = some (n, f)) (ks : List Int) : crashF (l.drop i) ks = consIf n (crash1 f (ks.headD 0)) (crashF (l.drop (i + 1)) (nextK f ks)) := by
  obtain ⟨h1, h2⟩ := List.getElem?_eq_some_iff.1 hi
  rw [List.drop_eq_getElem_cons h1, h2]; rfl
theorem headD_drop (ks : List Int) (k : Nat) : (ks.drop k).headD 0 = ks.getD k 0 := by
  rw [List.headD_eq_head?_getD, List.head?_drop, List.getD_eq_getElem?_getD]
theorem tail_drop (ks : List Int) (k : Nat) : (ks.drop k).tail = ks.drop (k + 1) := by rw [List.tail_drop]
/-- a file that isn't kept -/
theorem CRel.skip {w wr w2 : World} {x : DV} {ks : List Int} {i k k2 : Nat} {L : List (ByteArray × FV)} {v : Value} (h : CRel w x ks i k L v wr) {n : ByteArray} {f : FV} (hi : x.files[i]? = some (n, f)) (ho : (crash1 f ((ks.drop k).headD 0)).old = false) (hk2 : nextK f (ks.drop k) = ks.drop k2) (hkl : k2 ≤ i + 1)
    (hk : Kp No wr w2) : CRel w x ks (i + 1) k2 L v w2 :=
  ⟨(List.getElem?_eq_some_iff.1 hi).1, hkl, Nat.le_succ_of_le h.len, by rw [h.now, crash_next hi, hk2]; unfold consIf; rw [ho]; rfl, h.own.keptNo hk, h.kp.trans' hk⟩
/-- a file that is kept -/
theorem CRel.more {w wr w2 : World} {x : DV} {ks : List Int} {i k k2 : Nat} {L : List (ByteArray × FV)} {v v2 : Value} (h : CRel w x ks i k L v wr) {n : ByteArray} {f g : FV} (hi : x.files[i]? = some (n, f)) (hg : crash1 f ((ks.drop k).headD 0) = g) (ho : g.old = true) (hk2 : nextK f (ks.drop k) = ks.drop k2) (hkl : k2 ≤ i + 1)
    (hown : Own Rp.rf w2 No w.heap.size 106 v2 (L ++ [(n, g)])) (hk : Kp No w w2) : CRel w x ks (i + 1) k2 (L ++ [(n, g)]) v2 w2 :=
  ⟨(List.getElem?_eq_some_iff.1 hi).1, hkl, by have := h.len; simp; omega, by rw [h.now, crash_next hi, hk2, hg]; unfold consIf; rw [ho]; simp, hown, hk⟩

theorem cut_text (l : List UInt8) (a k : Nat) : bs (l.take a) ++ (bs (l.drop a)).extract 0 k = bs (l.take (a + k)) := by
  rw [bs_extract, bs_append, List.drop_zero, Nat.sub_zero, List.take_add]
theorem enc_cut (n : ByteArray) (f : FV) (h : Int) : enc4 (n, cutF f h) = [.string n, .string (bs (f.bytes.take (f.sure + keepOf f h))), .string ⟨#[]⟩, .bool (f.old || decide (0 < keepOf f h))] := by
  unfold enc4 cutF
  simp only [List.take_take, Nat.min_self]
  rw [List.drop_eq_nil_of_le (by rw [List.length_take]; omega)]; rfl
theorem lit2 (w : World) (vs : List Value) (p : ByteArray × FV) (hv : vs = enc4 p) (S : Nat → Prop) (g : Nat) (hg : g = w.heap.size) (hS : S g) : Rp.rf.slice.R (w.alloc (.cells vs.toArray 106)) S [.slice (some ⟨g, 0, none⟩) 1 1] [p] := by
  subst hv hg; exact lit1 w p S hS
theorem cr_append {w wr : World} {x : DV} {ks : List Int} {i k k2 : Nat} {L : List (ByteArray × FV)} {B : Option Addr} {cb : Nat} (HC : Hid (CRel w x ks i k L (.slice B L.length cb) wr)) {n : ByteArray} {f G : FV} (HP : Hid (x.files[i]? = some (n, f))) (HG : Hid (crash1 f ((ks.drop k).headD 0) = G)) (HO1 : Hid (G.old = true))
    (HK2 : Hid (nextK f (ks.drop k) = ks.drop k2)) (hkl : k2 ≤ i + 1) (hn : x.files.length ≤ 1000000) {WZ : World} (hkz : Kp No wr WZ) {g : Nat} (hsrc : Rp.rf.slice.R WZ (fun q => wr.heap.size ≤ q) [.slice (some ⟨g, 0, none⟩) 1 1] [(n, G)])
    {P : Program} {ops : Array Oper} {rest : List Oper} {o : Oper} {a : Act} {Q : Exit → Act → World → Prop} (hgd : o.guard = none) {s y : Operand} {t : TypeId} (ho : o.op = .call { callee := .builtin .append, args := #[s, y], argTypes := #[t, t] }) (el : Elem P t 106 4 56)
    (hs : a.eval s = .slice B L.length cb) (hx : a.eval y = .slice (some ⟨g, 0, none⟩) 1 1)
    (h : ∀ A9 c9 w9, Hid (CRel w x ks (i + 1) k2 (L ++ [(n, G)]) (.slice A9 (L ++ [(n, G)]).length c9) w9) → wpList P ops Q rest (a.put o.dst (.slice A9 (L ++ [(n, G)]).length c9)) w9) :
    wpList P ops Q (o :: rest) a WZ := by
  have h1 := HC.out.kp.size
  have h2 := hkz.size
  have h3 := HC.out.len
  have h4 := HC.out.hi
  refine wpList_append_rp (E := Rp.rf) hgd _ s y t ho w.heap.size 106 56 el (fun q => wr.heap.size ≤ q) (.slice B L.length cb) L hs ((HC.out.own.rf_any _).keptNo hkz) (some ⟨g, 0, none⟩) 1 (fun q => wr.heap.size ≤ q) [(n, G)] hx hsrc Rp.rf_one (by simp [maxLen]; omega) (by simp; omega) (by omega) (fun _ h => h) (fun q hq => by have := (HC.out.own.lt q hq).2; omega) ?_
  intro v9 w9 hown9 hg9 _
  have hk9 : Kp No w w9 := (HC.out.kp.trans' hkz).grown hg9 (fun q hq hlt => by have := (HC.out.own.lt q hq).1; omega)
  have hown9' := hown9.rf_any No
  obtain ⟨A9, c9, rfl, _, _, _⟩ := (RS.of_own hown9).1
  exact h A9 c9 w9 (Lib.hid (HC.out.more HP.out HG.out HO1.out HK2.out hkl hown9' hk9))
set_option maxRecDepth 100000 in
set_option maxHeartbeats 4000000 in
theorem r_crash (r : Nat) (x : DV) (F : Nat → Prop) (A0 : Option Addr) (c0 : Nat) (ks : List Int) (S : Nat → Prop) (w : World) (h : RAt w r x F) (hn : x.files.length ≤ 1000000) (hks : (Rp.int .i64).slice.R w S [.slice A0 ks.length c0] ks) (_hS : ∀ k, S k → ¬ F k) :
    Calls Try.prog 69 #[.pointer (some ⟨r, 0, none⟩), .slice A0 ks.length c0] w fun e w' => e = .returned (.tuple #[]) ∧ ∃ F', RAt w' r (crashD ks x) F' ∧ Upd F w w' F' := by
  obtain ⟨v, h, hF⟩ := h
  obtain ⟨A, c, rfl, hc1, hc2, _⟩ := id h.row
  have H := Lib.hid h
  have HF := Lib.hid hF
  have HKS := Lib.hid hks
  have HN := Lib.hid hn
  clear h hc1 hc2 hks
  go_enter Try.func69, Try.ntmps69
  go_wp2_with fail
  go_loopw [4, 5, 6] (fun ov kv iv wr => ∃ (i k : Nat) (L : List (ByteArray × FV)) (B : Option Addr) (cb : Nat), iv = .int .i64 (i : Int) ∧ kv = .int .i64 (k : Int) ∧ ov = .slice B L.length cb ∧ Hid (CRel w x ks i k L (.slice B L.length cb) wr)) (fun _ _ iv _ => x.files.length - (intOf iv).toNat)
  case atStart => exact ⟨0, 0, [], none, 0, rfl, rfl, rfl, Lib.hid ⟨Nat.zero_le _, Nat.le_refl _, Nat.le_refl _, rfl, Own.nil _ _ _ _ _, Kp.refl _ _⟩⟩
  case round =>
    obtain ⟨i, k, L, B, cb, rfl, rfl, rfl, HC⟩ := hrel
    have HR := Lib.hid (H.out.keptNo HC.out.kp)
    have d0 : wr.cell? ⟨r, 0, none⟩ = some (.slice A x.files.length c) := Blk.cell HR.out.blk rfl
    have hNN := HN.out
    have hki := HC.out.hk
    have hli := HC.out.len
    have hil := HC.out.hi
    by_cases hlt : i < x.files.length
    · have hlI : (i : Int) < (x.files.length : Int) := by omega
      obtain ⟨⟨n, f⟩, hp⟩ : ∃ p, x.files[i]? = some p := ⟨_, List.getElem?_eq_getElem hlt⟩
      have hfo := H.out.ok.file _ (List.mem_of_getElem? hp)
      obtain ⟨g, rfl, hrb, hcell, _⟩ := HR.out.row.cell hp
      obtain ⟨TL, hTL⟩ : ∃ t, bs (f.bytes.take f.sure) = t := ⟨_, rfl⟩
      obtain ⟨TW, hTW⟩ : ∃ t, bs (f.bytes.drop f.sure) = t := ⟨_, rfl⟩
      obtain ⟨G, hG⟩ : ∃ G, crash1 f ((ks.drop k).headD 0) = G := ⟨_, rfl⟩
      have c1 : wr.cell? ⟨g, i * 4, none⟩ = some (.string n) := hcell 0 _ rfl
      have c2 : wr.cell? ⟨g, i * 4 + 1, none⟩ = some (.string TL) := by rw [← hTL]; exact hcell 1 _ rfl
      have c3 : wr.cell? ⟨g, i * 4 + 2, none⟩ = some (.string TW) := by rw [← hTW]; exact hcell 2 _ rfl
      have c4 : wr.cell? ⟨g, i * 4 + 3, none⟩ = some (.bool f.old) := hcell 3 _ rfl
      have HP := Lib.hid hp
      have HFO := Lib.hid hfo
      have HRB := Lib.hid hrb
      have HTL := Lib.hid hTL
      have HTW := Lib.hid hTW
      have HG := Lib.hid hG
      have sTL : TL.size = min f.sure f.bytes.length := by rw [← hTL, bs_size, List.length_take]
      have sTW : TW.size = f.bytes.length - f.sure := by rw [← hTW, bs_size, List.length_drop]
      have hfo2 : f.bytes.length ≤ 1048576 := hfo.1.2
      have HSZ := Lib.hid (And.intro sTL sTW)
      have hTLs : TL.size ≤ 1048576 := by omega
      have hTWs : TW.size ≤ 1048576 := by omega
      clear hp hfo hrb hcell hTL hTW hG sTL sTW hfo2
      by_cases hwt : waits f = true
      · have HWT := Lib.hid hwt
        have hne : (!TW.toList.isEmpty) = true := by
          have h1 := HSZ.out.2
          unfold waits at hwt
          rw [decide_eq_true_eq] at hwt
          rw [Lib.toList_data]
          cases hl : TW.data.toList with
          | nil => have h2 := data_length TW; rw [hl] at h2; simp at h2; omega
          | cons => rfl
        have HK2 : Hid (nextK f (ks.drop k) = ks.drop (k + 1)) := Lib.hid (by unfold nextK; rw [if_pos hwt, tail_drop])
        obtain ⟨kp, hkp⟩ : ∃ kp, keepOf f ((ks.drop k).headD 0) = kp := ⟨_, rfl⟩
        have hkpw : kp ≤ TW.size := by rw [← hkp]; unfold keepOf; have := HSZ.out.2; omega
        have hT1 : TL ++ TW.extract 0 kp = bs (f.bytes.take (f.sure + kp)) := by rw [← HTL.out, ← HTW.out]; exact cut_text _ _ _
        have hGe : G = cutF f ((ks.drop k).headD 0) := by rw [← HG.out]; unfold crash1; rw [if_pos hwt]
        have henc : enc4 (n, G) = [.string n, .string (TL ++ TW.extract 0 kp), .string ⟨#[]⟩, .bool (f.old || decide (0 < kp))] := by rw [hGe, enc_cut, hkp, hT1]
        have hgo : G.old = (f.old || decide (0 < kp)) := by rw [hGe, ← hkp]; rfl
        have HENC0 := Lib.hid henc
        have HGO := Lib.hid hgo
        have hsx : (TW.extract 0 kp).size ≤ 1048576 := by rw [ByteArray.size_extract]; omega
        have hno : ¬ 9223372036854775807 < TL.size + kp := by omega
        have hkpI : (kp : Int) ≤ (TW.size : Int) := by omega
        obtain ⟨wf, hwf⟩ : ∃ wf, wr.alloc (.cells #[.string n, .string TL, .string TW, .bool f.old] 106) = wf := ⟨_, rfl⟩
        have hkf : Kp No wr wf := by rw [← hwf]; exact (Kp.refl _ _).alloc _
        have hbf : Blk wf wr.heap.size 106 [.string n, .string TL, .string TW, .bool f.old] := by rw [← hwf]; exact Blk.new wr [_, _, _, _] _
        have HWF := Lib.hid hwf
        have HKF := Lib.hid hkf
        have HBF := Lib.hid hbf
        clear hwt hT1 hGe henc hgo hwf hkf hbf
        have c0f : wf.cell? ⟨wr.heap.size, 0, none⟩ = some (.string n) := HBF.out.cell rfl
        have c1f : wf.cell? ⟨wr.heap.size, 1, none⟩ = some (.string TL) := HBF.out.cell rfl
        have c2f : wf.cell? ⟨wr.heap.size, 2, none⟩ = some (.string TW) := HBF.out.cell rfl
        have c3f : wf.cell? ⟨wr.heap.size, 3, none⟩ = some (.bool f.old) := HBF.out.cell rfl
        have f1f := HBF.out.fr 1
        have f2f := HBF.out.fr 2
        have f3f := HBF.out.fr 3
        by_cases hk : k < ks.length
        · obtain ⟨K, hK⟩ : ∃ K, ks[k]? = some K := ⟨_, List.getElem?_eq_getElem hk⟩
          obtain ⟨ak, rfl, _, hcK, hwK⟩ := Rp.at_int ((Rp.slice _).keptNo HKS.out (HC.out.kp.trans' HKF.out)) hK
          have hkpe : min (max K 0) (TW.size : Int) = (kp : Int) := by
            have h1 : (ks.drop k).headD 0 = K := by rw [headD_drop, List.getD_eq_getElem?_getD, hK]; rfl
            rw [← hkp, h1]; unfold keepOf; have := HSZ.out.2; omega
          have hkI : (k : Int) < (ks.length : Int) := by omega
          have HKPE := Lib.hid hkpe
          clear hkp hkpe hK hwK
          go_wp2_with fail
          rw [HWF.out]
          clear c1 c2 c3 c4 d0
          refine Reg.wp_region_plan [⟨0, false, []⟩, ⟨1, false, []⟩, ⟨2, false, []⟩, ⟨3, false, []⟩, ⟨4, false, []⟩, ⟨5, false, []⟩, ⟨6, false, []⟩, ⟨7, false, []⟩, ⟨8, false, []⟩, ⟨9, false, []⟩] rfl (by kernel_rfl) ?_
          repeat (first | (refine Reg.look rfl rfl rfl (by go_simp; rfl) rfl ?_; go_simp) | (refine Reg.skip rfl rfl rfl ?_; go_simp))
          (refine Reg.done ?_; simp only [Exit.then])
          go_wp2_with fail
          rw [HKPE.out]
          cases hfo : f.old with
          | true =>
            rw [hfo] at c3f
            have HO1 : Hid (G.old = true) := Lib.hid (by rw [HGO.out, hfo]; rfl)
            have HENC : Hid ([Value.string n, .string (TL ++ TW.extract 0 kp), .string ⟨#[]⟩, .bool true] = enc4 (n, G)) := Lib.hid (by rw [HENC0.out, hfo]; rfl)
            clear hfo
            refine Reg.wp_region_plan [⟨0, false, []⟩, ⟨1, false, []⟩, ⟨2, false, []⟩, ⟨3, false, []⟩, ⟨4, false, []⟩, ⟨5, false, []⟩, ⟨6, false, []⟩, ⟨7, false, []⟩, ⟨8, true, []⟩] rfl (by kernel_rfl) ?_
            repeat (first | (refine Reg.look rfl rfl rfl (by go_simp; rfl) rfl ?_; go_simp) | (refine Reg.skip rfl rfl rfl ?_; go_simp))
            refine Reg.act rfl ?_
            go_wp2_with fail
            refine ⟨Reg.anew_nil, ?_⟩
            (refine Reg.done ?_; simp only [Exit.then])
            go_wp2_with (at_builtin; refine cr_append HC HP HG HO1 HK2 (by omega) hNN ?hkz (g := wf.heap.size) ?hsrc rfl rfl el_rf rfl rfl ?_; (case hkz => repeat (first | exact HKF.out | exact Kp.refl _ _ | refine Kp.drew ?_ | refine Kp.alloc ?_ _ | refine Kp.setCell ?_ (fun h => absurd h (Nat.lt_irrefl _)) _)); (case hsrc => first | exact lit2 _ _ _ HENC.out _ _ (by simp) (by first | omega | exact HKF.out.size) | exact Rp.rf.slice.keptNo (lit2 _ _ _ HENC.out _ _ (by simp) (by first | omega | exact HKF.out.size)) ((Kp.refl No _).drew) | exact Rp.rf.slice.keptNo (lit2 _ _ _ HENC.out _ _ (by simp) (by first | omega | exact HKF.out.size)) ((Kp.refl No _).drew.drew)); intro A9 c9 w9 HC9)
            go_wp2_with fail
            go_roundw
            case rel => exact ⟨i + 1, (k + 1), L ++ [(n, G)], A9, c9, by go_num, by go_num, by simp, HC9⟩
            case measure => simp [intOf]; omega
          | false =>
            rw [hfo] at c3f
            by_cases hkp0 : 0 < kp
            · have HO1 : Hid (G.old = true) := Lib.hid (by rw [HGO.out, hfo, decide_eq_true hkp0]; rfl)
              have HENC : Hid ([Value.string n, .string (TL ++ TW.extract 0 kp), .string ⟨#[]⟩, .bool true] = enc4 (n, G)) := Lib.hid (by rw [HENC0.out, hfo, decide_eq_true hkp0]; rfl)
              have hkpI0 : (0 : Int) < (kp : Int) := by omega
              clear hfo
              refine Reg.wp_region_plan [⟨0, false, []⟩, ⟨1, false, []⟩, ⟨2, false, []⟩, ⟨3, false, []⟩, ⟨4, false, []⟩, ⟨5, false, []⟩, ⟨6, false, []⟩, ⟨7, false, []⟩, ⟨8, true, []⟩] rfl (by kernel_rfl) ?_
              repeat (first | (refine Reg.look rfl rfl rfl (by go_simp; rfl) rfl ?_; go_simp) | (refine Reg.skip rfl rfl rfl ?_; go_simp))
              refine Reg.act rfl ?_
              go_wp2_with fail
              refine ⟨Reg.anew_nil, ?_⟩
              (refine Reg.done ?_; simp only [Exit.then])
              go_wp2_with (at_builtin; refine cr_append HC HP HG HO1 HK2 (by omega) hNN ?hkz (g := wf.heap.size) ?hsrc rfl rfl el_rf rfl rfl ?_; (case hkz => repeat (first | exact HKF.out | exact Kp.refl _ _ | refine Kp.drew ?_ | refine Kp.alloc ?_ _ | refine Kp.setCell ?_ (fun h => absurd h (Nat.lt_irrefl _)) _)); (case hsrc => first | exact lit2 _ _ _ HENC.out _ _ (by simp) (by first | omega | exact HKF.out.size) | exact Rp.rf.slice.keptNo (lit2 _ _ _ HENC.out _ _ (by simp) (by first | omega | exact HKF.out.size)) ((Kp.refl No _).drew) | exact Rp.rf.slice.keptNo (lit2 _ _ _ HENC.out _ _ (by simp) (by first | omega | exact HKF.out.size)) ((Kp.refl No _).drew.drew)); intro A9 c9 w9 HC9)
              go_wp2_with fail
              go_roundw
              case rel => exact ⟨i + 1, (k + 1), L ++ [(n, G)], A9, c9, by go_num, by go_num, by simp, HC9⟩
              case measure => simp [intOf]; omega
            · have HO1 : Hid (G.old = false) := Lib.hid (by rw [HGO.out, hfo, decide_eq_false hkp0]; rfl)
              have hkpI0 : ¬ (0 : Int) < (kp : Int) := by omega
              clear hfo
              refine Reg.wp_region_plan [⟨0, false, []⟩, ⟨1, false, []⟩, ⟨2, false, []⟩, ⟨3, false, []⟩, ⟨4, false, []⟩, ⟨5, false, []⟩, ⟨6, false, []⟩, ⟨7, false, []⟩, ⟨8, true, []⟩] rfl (by kernel_rfl) ?_
              repeat (first | (refine Reg.look rfl rfl rfl (by go_simp; rfl) rfl ?_; go_simp) | (refine Reg.skip rfl rfl rfl ?_; go_simp))
              refine Reg.act rfl ?_
              go_wp2_with fail
              refine ⟨Reg.anew_nil, ?_⟩
              (refine Reg.done ?_; simp only [Exit.then])
              go_wp2_with fail
              go_roundw
              case rel => exact ⟨i + 1, (k + 1), L, B, cb, by go_num, by go_num, rfl, Lib.hid (HC.out.skip HP.out (by rw [HG.out]; exact HO1.out) HK2.out (by omega) (by repeat (first | exact HKF.out | exact Kp.refl _ _ | refine Kp.drew ?_ | refine Kp.alloc ?_ _ | refine Kp.setCell ?_ (fun h => absurd h (Nat.lt_irrefl _)) _)))⟩
              case measure => simp [intOf]; omega
        · have hkp0 : kp = 0 := by
            rw [← hkp, headD_drop, List.getD_eq_getElem?_getD, List.getElem?_eq_none (by omega)]; unfold keepOf; simp
          subst hkp0
          have hT : TL ++ TW.extract 0 0 = TL := by rw [← HTL.out, ← HTW.out, cut_text, Nat.add_zero]
          have henc := HENC0.out
          rw [hT] at henc
          have HENC1 := Lib.hid henc
          have hno1 : ¬ 9223372036854775807 < TL.size := by omega
          clear hkp hT henc
          go_wp2_with fail
          rw [HWF.out]
          clear c1 c2 c3 c4 d0
          cases hfo : f.old with
          | true =>
            rw [hfo] at c3f
            have HO1 : Hid (G.old = true) := Lib.hid (by rw [HGO.out, hfo]; rfl)
            have HENC : Hid ([Value.string n, .string TL, .string ⟨#[]⟩, .bool true] = enc4 (n, G)) := Lib.hid (by rw [HENC1.out, hfo]; rfl)
            clear hfo
            refine Reg.wp_region_plan [⟨0, false, []⟩, ⟨1, false, []⟩, ⟨2, false, []⟩, ⟨3, false, []⟩, ⟨4, false, []⟩, ⟨5, false, []⟩, ⟨6, false, []⟩, ⟨7, false, []⟩, ⟨8, true, []⟩] rfl (by kernel_rfl) ?_
            repeat (first | (refine Reg.look rfl rfl rfl (by go_simp; rfl) rfl ?_; go_simp) | (refine Reg.skip rfl rfl rfl ?_; go_simp))
            refine Reg.act rfl ?_
            go_wp2_with fail
            refine ⟨Reg.anew_nil, ?_⟩
            (refine Reg.done ?_; simp only [Exit.then])
            go_wp2_with (at_builtin; refine cr_append HC HP HG HO1 HK2 (by omega) hNN ?hkz (g := wf.heap.size) ?hsrc rfl rfl el_rf rfl rfl ?_; (case hkz => repeat (first | exact HKF.out | exact Kp.refl _ _ | refine Kp.drew ?_ | refine Kp.alloc ?_ _ | refine Kp.setCell ?_ (fun h => absurd h (Nat.lt_irrefl _)) _)); (case hsrc => first | exact lit2 _ _ _ HENC.out _ _ (by simp) (by first | omega | exact HKF.out.size) | exact Rp.rf.slice.keptNo (lit2 _ _ _ HENC.out _ _ (by simp) (by first | omega | exact HKF.out.size)) ((Kp.refl No _).drew) | exact Rp.rf.slice.keptNo (lit2 _ _ _ HENC.out _ _ (by simp) (by first | omega | exact HKF.out.size)) ((Kp.refl No _).drew.drew)); intro A9 c9 w9 HC9)
            go_wp2_with fail
            go_roundw
            case rel => exact ⟨i + 1, (k + 1), L ++ [(n, G)], A9, c9, by go_num, by go_num, by simp, HC9⟩
            case measure => simp [intOf]; omega
          | false =>
            rw [hfo] at c3f
            have HO1 : Hid (G.old = false) := Lib.hid (by rw [HGO.out, hfo]; rfl)
            clear hfo
            refine Reg.wp_region_plan [⟨0, false, []⟩, ⟨1, false, []⟩, ⟨2, false, []⟩, ⟨3, false, []⟩, ⟨4, false, []⟩, ⟨5, false, []⟩, ⟨6, false, []⟩, ⟨7, false, []⟩, ⟨8, true, []⟩] rfl (by kernel_rfl) ?_
            repeat (first | (refine Reg.look rfl rfl rfl (by go_simp; rfl) rfl ?_; go_simp) | (refine Reg.skip rfl rfl rfl ?_; go_simp))
            refine Reg.act rfl ?_
            go_wp2_with fail
            refine ⟨Reg.anew_nil, ?_⟩
            (refine Reg.done ?_; simp only [Exit.then])
            go_wp2_with fail
            go_roundw
            case rel => exact ⟨i + 1, (k + 1), L, B, cb, by go_num, by go_num, rfl, Lib.hid (HC.out.skip HP.out (by rw [HG.out]; exact HO1.out) HK2.out (by omega) (by repeat (first | exact HKF.out | exact Kp.refl _ _ | refine Kp.drew ?_ | refine Kp.alloc ?_ _ | refine Kp.setCell ?_ (fun h => absurd h (Nat.lt_irrefl _)) _)))⟩
            case measure => simp [intOf]; omega
      · have hTW0 : TW = ⟨#[]⟩ := by
          unfold waits at hwt
          rw [decide_eq_true_eq] at hwt
          rw [← HTW.out, List.drop_eq_nil_of_le (by omega)]; rfl
        subst hTW0
        have hGe : G = f := by rw [← HG.out]; unfold crash1; rw [if_neg hwt]
        have HK2 : Hid (nextK f (ks.drop k) = ks.drop k) := Lib.hid (by unfold nextK; rw [if_neg hwt])
        cases hfo : f.old with
        | true =>
          rw [hfo] at c4
          have HO1 : Hid (G.old = true) := Lib.hid (by rw [hGe]; exact hfo)
          have HENC : Hid ([Value.string n, .string TL, .string ⟨#[]⟩, .bool true] = enc4 (n, G)) := Lib.hid (by rw [hGe]; unfold enc4; simp only [HTL.out, HTW.out, hfo])
          clear hwt hGe hfo
          go_wp2_with (at_builtin; refine cr_append HC HP HG HO1 HK2 (by omega) hNN ?hkz (g := (wr.heap.size + 1)) ?hsrc rfl rfl el_rf rfl rfl ?_; (case hkz => repeat (first | exact HKF.out | exact Kp.refl _ _ | refine Kp.drew ?_ | refine Kp.alloc ?_ _ | refine Kp.setCell ?_ (fun h => absurd h (Nat.lt_irrefl _)) _)); (case hsrc => first | exact lit2 _ _ _ HENC.out _ _ (by simp) (by first | omega | exact HKF.out.size) | exact Rp.rf.slice.keptNo (lit2 _ _ _ HENC.out _ _ (by simp) (by first | omega | exact HKF.out.size)) ((Kp.refl No _).drew) | exact Rp.rf.slice.keptNo (lit2 _ _ _ HENC.out _ _ (by simp) (by first | omega | exact HKF.out.size)) ((Kp.refl No _).drew.drew)); intro A9 c9 w9 HC9)
          go_wp2_with fail
          go_roundw
          case rel => exact ⟨i + 1, k, L ++ [(n, G)], A9, c9, by go_num, by go_num, by simp, HC9⟩
          case measure => simp [intOf]; omega
        | false =>
          rw [hfo] at c4
          have HO1 : Hid (G.old = false) := Lib.hid (by rw [hGe]; exact hfo)
          clear hwt hGe hfo
          go_wp2_with fail
          go_roundw
          case rel => exact ⟨i + 1, k, L, B, cb, by go_num, by go_num, rfl, Lib.hid (HC.out.skip HP.out (by rw [HG.out]; exact HO1.out) HK2.out (by omega) (by repeat (first | exact HKF.out | exact Kp.refl _ _ | refine Kp.drew ?_ | refine Kp.alloc ?_ _ | refine Kp.setCell ?_ (fun h => absurd h (Nat.lt_irrefl _)) _)))⟩
          case measure => simp [intOf]; omega
    · obtain rfl : i = x.files.length := by omega
      have d1 : wr.cell? ⟨r, 1, none⟩ = some (.int .i64 x.fuse) := Blk.cell HR.out.blk rfl
      have d2 : wr.cell? ⟨r, 2, none⟩ = some (.bool x.off) := Blk.cell HR.out.blk rfl
      have f0 := Blk.fr HR.out.blk 0
      have f1 := Blk.fr HR.out.blk 1
      have f2 := Blk.fr HR.out.blk 2
      go_wp2_with fail
      go_end0
      have e : crashF x.files ks = L := by rw [HC.out.now, List.drop_length]; simp [crashF]
      have hok := crashD_ok H.out.ok ks
      obtain ⟨hrs, hbs⟩ := RS.of_own HC.out.own
      obtain ⟨h1, hk1⟩ := H.out.anew HC.out.kp hrs hbs (H.out.ok.with (l := L) (by rw [← e]; exact hok.rising) (by rw [← e]; exact hok.file)) (Shp.of_own HC.out.own)
      obtain ⟨w1, hw1⟩ : ∃ w1, wr.setCell ⟨r, 0, none⟩ (.slice B L.length cb) = w1 := ⟨_, rfl⟩
      rw [hw1] at h1 hk1 ⊢
      have hb2 := Blk.set (Blk.set h1.blk 1 (.int .i64 (-1))) 2 (.bool false)
      have hk2 : Kp (· = r) w1 ((w1.setCell ⟨r, 1, none⟩ (.int .i64 (-1))).setCell ⟨r, 2, none⟩ (.bool false)) := ((Kp.refl (· = r) w1).setCell (p := ⟨r, 1, none⟩) (fun _ => rfl) _).setCell (p := ⟨r, 2, none⟩) (fun _ => rfl) _
      have h3 := h1.turned (y := crashD ks x) hk2 hb2 e hok
      have hr : F r := (HF.out r).2 (.inl rfl)
      refine ⟨rfl, fun q => q = r ∨ rblk (.slice B L.length cb) = some q, ⟨_, h3, fun q => Iff.rfl⟩, (hk1.trans hk2 (fun _ _ e => e)).mono (fun q _ e => by rw [e]; exact hr), ?_⟩
      rintro q (rfl | hq)
      · exact .inl hr
      · exact .inr (hbs q hq)
end Go.Proofs.Ytflodiljgphkdaa
