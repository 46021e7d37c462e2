/-
  A model that is none knows nothing: ModelNil answers true for every input.
-/
import Derived.Test.YtbncblnchcmgbaaModF
import Derived.Test.YtbncblnchcmgbaaModG
import Derived.Test.YtbncblnchcmgbaaGrt26
import Derived.Test.YtbncblnchcmgbaaFModelNil
namespace Go.Proofs.Ytbncblnchcmgbaa
open Go.RowKit Go.ChangeShapes Go.WideShapes Go.ChangeAt

/-- a slice literal of one call -/
theorem run_lit_play (w : World) (o : PlayL) (ov nv lv : Value) : (Instr.buildSlice 50 1 #[(0, playV o ov nv lv)]).run Try.prog w = .ok (.slice (some ⟨w.heap.size, 0, none⟩) 1 1) (w.alloc (.cells #[.int .i64 o.kind, ov, .int .i64 o.ask.kind, .int .i64 o.ask.client, .int .i64 o.ask.seq, .string o.ask.name, .string o.ask.data, .int .i64 o.ask.mode, .int .i64 o.ask.lag, .int .i64 o.rep.ask, .int .i64 o.rep.err, .int .i64 o.rep.an, .int .i64 o.rep.ae, nv, .string o.rep.data, lv] 58)) := by
  unfold playV
  go_simp
theorem play_lit (w : World) (o : PlayL) (ov nv lv : Value) (S : Nat → Prop) (hS : S w.heap.size) (hn : o.nums) (h1 : Rp.opl.slice.R w S [ov] o.ops) (h2 : Rp.str.slice.R w S [nv] o.rep.names) (h3 : Rp.opl.slice.R w S [lv] o.rep.lost) :
    Rp.play.slice.R (w.alloc (.cells #[.int .i64 o.kind, ov, .int .i64 o.ask.kind, .int .i64 o.ask.client, .int .i64 o.ask.seq, .string o.ask.name, .string o.ask.data, .int .i64 o.ask.mode, .int .i64 o.ask.lag, .int .i64 o.rep.ask, .int .i64 o.rep.err, .int .i64 o.rep.an, .int .i64 o.rep.ae, nv, .string o.rep.data, lv] 58)) S [.slice (some ⟨w.heap.size, 0, none⟩) 1 1] [o] := by
  refine ⟨_, _, rfl, Nat.le_refl _, by unfold maxLen; simp, fun _ => ⟨_, rfl, hS, fun i b hi => ?_⟩⟩
  obtain rfl : i = 0 := by have := (List.getElem?_eq_some_iff.1 hi).1; simp at this; exact this
  injection hi with hi
  subst hi
  have hk := (Kp.refl No w).alloc (.cells #[.int .i64 o.kind, ov, .int .i64 o.ask.kind, .int .i64 o.ask.client, .int .i64 o.ask.seq, .string o.ask.name, .string o.ask.data, .int .i64 o.ask.mode, .int .i64 o.ask.lag, .int .i64 o.rep.ask, .int .i64 o.rep.err, .int .i64 o.rep.an, .int .i64 o.rep.ae, nv, .string o.rep.data, lv] 58)
  refine ⟨o.cells ov nv lv, fun j u hu => ?_, _, _, _, rfl, hn, Rp.opl.slice.keptNo h1 hk, Rp.str.slice.keptNo h2 hk, Rp.opl.slice.keptNo h3 hk⟩
  rw [Addr.add_lit, Addr.add_lit]
  have hb : Blk (w.alloc (.cells #[.int .i64 o.kind, ov, .int .i64 o.ask.kind, .int .i64 o.ask.client, .int .i64 o.ask.seq, .string o.ask.name, .string o.ask.data, .int .i64 o.ask.mode, .int .i64 o.ask.lag, .int .i64 o.rep.ask, .int .i64 o.rep.err, .int .i64 o.rep.an, .int .i64 o.rep.ae, nv, .string o.rep.data, lv] 58)) w.heap.size 58 (o.cells ov nv lv) := Blk.new w _ _
  have h2 := hb.cell hu
  simpa using h2
set_option maxRecDepth 100000 in
set_option maxHeartbeats 20000000 in
theorem modelNil_walk : ModelNilWalk := by
  intro W v0 o h0
  obtain ⟨A, c, B, d, C, e, hv0, hn, h1, h2, h3⟩ := h0
  simp only [List.cons.injEq, and_true] at hv0
  subst hv0
  have hgr : ∀ w, Kp No W w → Calls Try.prog 15 #[.slice (some ⟨w.heap.size, 0, none⟩) 1 1] (w.alloc (.cells #[.int .i64 o.kind, .slice A o.ops.length c, .int .i64 o.ask.kind, .int .i64 o.ask.client, .int .i64 o.ask.seq, .string o.ask.name, .string o.ask.data, .int .i64 o.ask.mode, .int .i64 o.ask.lag, .int .i64 o.rep.ask, .int .i64 o.rep.err, .int .i64 o.rep.an, .int .i64 o.rep.ae, .slice B o.rep.names.length d, .string o.rep.data, .slice C o.rep.lost.length e] 58)) fun x w' => GreatA x ∧ Kp No w w' := fun w hk => by
    refine (h_great26 [o] (some ⟨w.heap.size, 0, none⟩) 1 _ (fun _ => True) (play_lit w o _ _ _ (fun _ => True) trivial hn (Rp.opl.slice.more (Rp.opl.slice.keptNo h1 hk) (fun _ _ => trivial)) (Rp.str.slice.more (Rp.str.slice.keptNo h2 hk) (fun _ _ => trivial)) (Rp.opl.slice.more (Rp.opl.slice.keptNo h3 hk) (fun _ _ => trivial)))).mono ?_
    rintro x w' ⟨h1, h2⟩
    exact ⟨h1, ((Kp.refl No w).alloc _).trans' h2⟩
  have hli := fun w => run_lit_play w o (.slice A o.ops.length c) (.slice B o.rep.names.length d) (.slice C o.rep.lost.length e)
  obtain ⟨on, hon⟩ : ∃ k, o.ops.length = k := ⟨_, rfl⟩
  obtain ⟨nn, hnn⟩ : ∃ k, o.rep.names.length = k := ⟨_, rfl⟩
  obtain ⟨ln, hln⟩ : ∃ k, o.rep.lost.length = k := ⟨_, rfl⟩
  rw [hon, hnn, hln] at hgr hli ⊢
  obtain ⟨x, hx⟩ : ∃ x, W.heap.size = x := ⟨_, rfl⟩
  obtain ⟨wa, hwa⟩ : ∃ w, W.alloc (.cells #[.int .i64 o.kind, .slice A on c, .int .i64 o.ask.kind, .int .i64 o.ask.client, .int .i64 o.ask.seq, .string o.ask.name, .string o.ask.data, .int .i64 o.ask.mode, .int .i64 o.ask.lag, .int .i64 o.rep.ask, .int .i64 o.rep.err, .int .i64 o.rep.an, .int .i64 o.rep.ae, .slice B nn d, .string o.rep.data, .slice C ln e] 58) = w := ⟨_, rfl⟩
  have HK0 : Hid (Kp No W wa) := Lib.hid (by rw [← hwa]; exact (Kp.refl _ _).alloc _)
  have HB0 : Hid (Blk wa x 58 [.int .i64 o.kind, .slice A on c, .int .i64 o.ask.kind, .int .i64 o.ask.client, .int .i64 o.ask.seq, .string o.ask.name, .string o.ask.data, .int .i64 o.ask.mode, .int .i64 o.ask.lag, .int .i64 o.rep.ask, .int .i64 o.rep.err, .int .i64 o.rep.an, .int .i64 o.rep.ae, .slice B nn d, .string o.rep.data, .slice C ln e]) := Lib.hid (by rw [← hwa, ← hx]; exact Blk.new W _ _)
  have hasked := m_asked_nil o.ask
  have hjudge := m_judge_nil o.ask o.rep.ask o.rep.err o.rep.an o.rep.ae B C nn d ln e o.rep.data
  have hpath := m_path_nil (0, 0)
  have hnames := m_names_nil (0, 0)
  have hfind := m_find_nil (0, 0) o.ask.name
  unfold askV at hasked hjudge
  unfold spotV at hpath hnames hfind
  unfold playV at hli ⊢
  have HGR := Lib.hid hgr
  have HLI := Lib.hid hli
  have HAS := Lib.hid hasked
  have HJU := Lib.hid hjudge
  have HPA := Lib.hid hpath
  have HNA := Lib.hid hnames
  have HFI := Lib.hid hfind
  clear hgr hli hasked hjudge hpath hnames hfind hon hnn hln h1 h2 h3 hn
  obtain ⟨ok, ops, ⟨ak, ac, aq, an, ad, am, al⟩, ⟨ra, re, rn, rp, rnm, rd, rl⟩⟩ := o
  simp only at *
  go_enter Try.func6, Try.ntmps6
  go_wp2_with fail
  clear hwa hx
  refine (h_awake26 wa).mono ?_
  rintro e w1 ⟨rfl, hk1⟩
  have hb1 := HB0.out.kept hk1 (fun x => x)
  have HK1 := Lib.hid (HK0.out.trans' hk1)
  have HB1 := Lib.hid hb1
  have z0 : w1.cell? ⟨x, 0, none⟩ = some _ := Blk.cell hb1 rfl
  have z1 : w1.cell? ⟨x, 1, none⟩ = some _ := Blk.cell hb1 rfl
  have z2 : w1.cell? ⟨x, 2, none⟩ = some _ := Blk.cell hb1 rfl
  have z3 : w1.cell? ⟨x, 3, none⟩ = some _ := Blk.cell hb1 rfl
  have z4 : w1.cell? ⟨x, 4, none⟩ = some _ := Blk.cell hb1 rfl
  have z5 : w1.cell? ⟨x, 5, none⟩ = some _ := Blk.cell hb1 rfl
  have z6 : w1.cell? ⟨x, 6, none⟩ = some _ := Blk.cell hb1 rfl
  have z7 : w1.cell? ⟨x, 7, none⟩ = some _ := Blk.cell hb1 rfl
  have z8 : w1.cell? ⟨x, 8, none⟩ = some _ := Blk.cell hb1 rfl
  have z9 : w1.cell? ⟨x, 9, none⟩ = some _ := Blk.cell hb1 rfl
  have z10 : w1.cell? ⟨x, 10, none⟩ = some _ := Blk.cell hb1 rfl
  have z11 : w1.cell? ⟨x, 11, none⟩ = some _ := Blk.cell hb1 rfl
  have z12 : w1.cell? ⟨x, 12, none⟩ = some _ := Blk.cell hb1 rfl
  have z13 : w1.cell? ⟨x, 13, none⟩ = some _ := Blk.cell hb1 rfl
  have z14 : w1.cell? ⟨x, 14, none⟩ = some _ := Blk.cell hb1 rfl
  have z15 : w1.cell? ⟨x, 15, none⟩ = some _ := Blk.cell hb1 rfl
  have hl1 := HLI.out w1
  have HL1 := Lib.hid hl1
  clear hk1 hb1 HK0 HB0 hl1 HLI
  go_wp2_with (refine wpList_litW (by first | rfl | go_simp) 50 _ rfl _ _ (by go_simp) HL1.out ?_; go_simp)
  clear z0 z1 z2 z3 z4 z5 z6 z7 z8 z9 z10 z11 z12 z13 z14 z15
  clear HL1
  refine (HGR.out w1 HK1.out).mono ?_
  rintro e w2 ⟨⟨b, rfl⟩, hk2⟩
  have hb2 := HB1.out.kept hk2 (fun x => x)
  have HK2 := Lib.hid (HK1.out.trans' hk2)
  have HB2 := Lib.hid hb2
  clear hk2 HB1 HGR HK1
  cases b
  case true =>
    clear hb2
    go_wp2_with fail
    refine (h_awake26 w2).mono ?_
    rintro e w3 ⟨rfl, hk3⟩
    have HK3 := Lib.hid (HK2.out.trans' hk3)
    clear hk3
    go_wp2_with fail
    go_ret
    exact ⟨rfl, HK3.out⟩
  case false =>
    have z0 : w2.cell? ⟨x, 0, none⟩ = some _ := Blk.cell hb2 rfl
    have z1 : w2.cell? ⟨x, 1, none⟩ = some _ := Blk.cell hb2 rfl
    have z2 : w2.cell? ⟨x, 2, none⟩ = some _ := Blk.cell hb2 rfl
    have z3 : w2.cell? ⟨x, 3, none⟩ = some _ := Blk.cell hb2 rfl
    have z4 : w2.cell? ⟨x, 4, none⟩ = some _ := Blk.cell hb2 rfl
    have z5 : w2.cell? ⟨x, 5, none⟩ = some _ := Blk.cell hb2 rfl
    have z6 : w2.cell? ⟨x, 6, none⟩ = some _ := Blk.cell hb2 rfl
    have z7 : w2.cell? ⟨x, 7, none⟩ = some _ := Blk.cell hb2 rfl
    have z8 : w2.cell? ⟨x, 8, none⟩ = some _ := Blk.cell hb2 rfl
    have z9 : w2.cell? ⟨x, 9, none⟩ = some _ := Blk.cell hb2 rfl
    have z10 : w2.cell? ⟨x, 10, none⟩ = some _ := Blk.cell hb2 rfl
    have z11 : w2.cell? ⟨x, 11, none⟩ = some _ := Blk.cell hb2 rfl
    have z12 : w2.cell? ⟨x, 12, none⟩ = some _ := Blk.cell hb2 rfl
    have z13 : w2.cell? ⟨x, 13, none⟩ = some _ := Blk.cell hb2 rfl
    have z14 : w2.cell? ⟨x, 14, none⟩ = some _ := Blk.cell hb2 rfl
    have z15 : w2.cell? ⟨x, 15, none⟩ = some _ := Blk.cell hb2 rfl
    clear hb2
    go_wp2_with fail
    clear z0 z1 z2 z3 z4 z5 z6 z7 z8 z9 z10 z11 z12 z13 z14 z15
    refine (HAS.out w2).mono ?_
    rintro e w3 ⟨rfl, hkv⟩
    have hbv := HB2.out.kept hkv (fun z => z)
    have HK3 := Lib.hid (HK2.out.trans' hkv)
    have HB3 := Lib.hid hbv
    have z0 : w3.cell? ⟨x, 0, none⟩ = some _ := Blk.cell hbv rfl
    have z1 : w3.cell? ⟨x, 1, none⟩ = some _ := Blk.cell hbv rfl
    have z2 : w3.cell? ⟨x, 2, none⟩ = some _ := Blk.cell hbv rfl
    have z3 : w3.cell? ⟨x, 3, none⟩ = some _ := Blk.cell hbv rfl
    have z4 : w3.cell? ⟨x, 4, none⟩ = some _ := Blk.cell hbv rfl
    have z5 : w3.cell? ⟨x, 5, none⟩ = some _ := Blk.cell hbv rfl
    have z6 : w3.cell? ⟨x, 6, none⟩ = some _ := Blk.cell hbv rfl
    have z7 : w3.cell? ⟨x, 7, none⟩ = some _ := Blk.cell hbv rfl
    have z8 : w3.cell? ⟨x, 8, none⟩ = some _ := Blk.cell hbv rfl
    have z9 : w3.cell? ⟨x, 9, none⟩ = some _ := Blk.cell hbv rfl
    have z10 : w3.cell? ⟨x, 10, none⟩ = some _ := Blk.cell hbv rfl
    have z11 : w3.cell? ⟨x, 11, none⟩ = some _ := Blk.cell hbv rfl
    have z12 : w3.cell? ⟨x, 12, none⟩ = some _ := Blk.cell hbv rfl
    have z13 : w3.cell? ⟨x, 13, none⟩ = some _ := Blk.cell hbv rfl
    have z14 : w3.cell? ⟨x, 14, none⟩ = some _ := Blk.cell hbv rfl
    have z15 : w3.cell? ⟨x, 15, none⟩ = some _ := Blk.cell hbv rfl
    clear hkv hbv
    go_wp2_with fail
    clear z0 z1 z2 z3 z4 z5 z6 z7 z8 z9 z10 z11 z12 z13 z14 z15
    refine (HPA.out w3).mono ?_
    rintro e w4 ⟨rfl, hkv⟩
    have hbv := HB3.out.kept hkv (fun z => z)
    have HK4 := Lib.hid (HK3.out.trans' hkv)
    have HB4 := Lib.hid hbv
    have z0 : w4.cell? ⟨x, 0, none⟩ = some _ := Blk.cell hbv rfl
    have z1 : w4.cell? ⟨x, 1, none⟩ = some _ := Blk.cell hbv rfl
    have z2 : w4.cell? ⟨x, 2, none⟩ = some _ := Blk.cell hbv rfl
    have z3 : w4.cell? ⟨x, 3, none⟩ = some _ := Blk.cell hbv rfl
    have z4 : w4.cell? ⟨x, 4, none⟩ = some _ := Blk.cell hbv rfl
    have z5 : w4.cell? ⟨x, 5, none⟩ = some _ := Blk.cell hbv rfl
    have z6 : w4.cell? ⟨x, 6, none⟩ = some _ := Blk.cell hbv rfl
    have z7 : w4.cell? ⟨x, 7, none⟩ = some _ := Blk.cell hbv rfl
    have z8 : w4.cell? ⟨x, 8, none⟩ = some _ := Blk.cell hbv rfl
    have z9 : w4.cell? ⟨x, 9, none⟩ = some _ := Blk.cell hbv rfl
    have z10 : w4.cell? ⟨x, 10, none⟩ = some _ := Blk.cell hbv rfl
    have z11 : w4.cell? ⟨x, 11, none⟩ = some _ := Blk.cell hbv rfl
    have z12 : w4.cell? ⟨x, 12, none⟩ = some _ := Blk.cell hbv rfl
    have z13 : w4.cell? ⟨x, 13, none⟩ = some _ := Blk.cell hbv rfl
    have z14 : w4.cell? ⟨x, 14, none⟩ = some _ := Blk.cell hbv rfl
    have z15 : w4.cell? ⟨x, 15, none⟩ = some _ := Blk.cell hbv rfl
    clear hkv hbv
    go_wp2_with fail
    clear z0 z1 z2 z3 z4 z5 z6 z7 z8 z9 z10 z11 z12 z13 z14 z15
    refine (HNA.out w4).mono ?_
    rintro e w5 ⟨A5, c5, rfl, hkv⟩
    have hbv := HB4.out.kept hkv (fun z => z)
    have HK5 := Lib.hid (HK4.out.trans' hkv)
    have HB5 := Lib.hid hbv
    have z0 : w5.cell? ⟨x, 0, none⟩ = some _ := Blk.cell hbv rfl
    have z1 : w5.cell? ⟨x, 1, none⟩ = some _ := Blk.cell hbv rfl
    have z2 : w5.cell? ⟨x, 2, none⟩ = some _ := Blk.cell hbv rfl
    have z3 : w5.cell? ⟨x, 3, none⟩ = some _ := Blk.cell hbv rfl
    have z4 : w5.cell? ⟨x, 4, none⟩ = some _ := Blk.cell hbv rfl
    have z5 : w5.cell? ⟨x, 5, none⟩ = some _ := Blk.cell hbv rfl
    have z6 : w5.cell? ⟨x, 6, none⟩ = some _ := Blk.cell hbv rfl
    have z7 : w5.cell? ⟨x, 7, none⟩ = some _ := Blk.cell hbv rfl
    have z8 : w5.cell? ⟨x, 8, none⟩ = some _ := Blk.cell hbv rfl
    have z9 : w5.cell? ⟨x, 9, none⟩ = some _ := Blk.cell hbv rfl
    have z10 : w5.cell? ⟨x, 10, none⟩ = some _ := Blk.cell hbv rfl
    have z11 : w5.cell? ⟨x, 11, none⟩ = some _ := Blk.cell hbv rfl
    have z12 : w5.cell? ⟨x, 12, none⟩ = some _ := Blk.cell hbv rfl
    have z13 : w5.cell? ⟨x, 13, none⟩ = some _ := Blk.cell hbv rfl
    have z14 : w5.cell? ⟨x, 14, none⟩ = some _ := Blk.cell hbv rfl
    have z15 : w5.cell? ⟨x, 15, none⟩ = some _ := Blk.cell hbv rfl
    clear hkv hbv
    go_wp2_with fail
    clear z0 z1 z2 z3 z4 z5 z6 z7 z8 z9 z10 z11 z12 z13 z14 z15
    refine (HFI.out w5).mono ?_
    rintro e w6 ⟨q, A6, n6, c6, rfl, hkv⟩
    unfold opV
    obtain ⟨w7, hw7⟩ : ∃ v, w6.alloc (.cells #[.int .i64 q.n, .int .i64 q.epoch, .int .i64 q.kind, .int .i64 q.site, .int .i64 q.client, .int .i64 q.seq, .string q.name, .int .i64 q.size, .slice A6 n6 c6] 38) = v := ⟨_, rfl⟩
    have hkw := hkv.trans' (show Kp No w6 w7 by rw [← hw7]; exact (Kp.refl _ _).alloc _)
    have hbv := HB5.out.kept hkw (fun z => z)
    have HK7 := Lib.hid (HK5.out.trans' hkw)
    have HB7 := Lib.hid hbv
    have HB6 := Lib.hid (HB5.out.kept hkv (fun z => z))
    have z0 : w7.cell? ⟨x, 0, none⟩ = some _ := Blk.cell hbv rfl
    have z1 : w7.cell? ⟨x, 1, none⟩ = some _ := Blk.cell hbv rfl
    have z2 : w7.cell? ⟨x, 2, none⟩ = some _ := Blk.cell hbv rfl
    have z3 : w7.cell? ⟨x, 3, none⟩ = some _ := Blk.cell hbv rfl
    have z4 : w7.cell? ⟨x, 4, none⟩ = some _ := Blk.cell hbv rfl
    have z5 : w7.cell? ⟨x, 5, none⟩ = some _ := Blk.cell hbv rfl
    have z6 : w7.cell? ⟨x, 6, none⟩ = some _ := Blk.cell hbv rfl
    have z7 : w7.cell? ⟨x, 7, none⟩ = some _ := Blk.cell hbv rfl
    have z8 : w7.cell? ⟨x, 8, none⟩ = some _ := Blk.cell hbv rfl
    have z9 : w7.cell? ⟨x, 9, none⟩ = some _ := Blk.cell hbv rfl
    have z10 : w7.cell? ⟨x, 10, none⟩ = some _ := Blk.cell hbv rfl
    have z11 : w7.cell? ⟨x, 11, none⟩ = some _ := Blk.cell hbv rfl
    have z12 : w7.cell? ⟨x, 12, none⟩ = some _ := Blk.cell hbv rfl
    have z13 : w7.cell? ⟨x, 13, none⟩ = some _ := Blk.cell hbv rfl
    have z14 : w7.cell? ⟨x, 14, none⟩ = some _ := Blk.cell hbv rfl
    have z15 : w7.cell? ⟨x, 15, none⟩ = some _ := Blk.cell hbv rfl
    clear hkv hkw hbv
    go_wp2_with fail
    clear z0 z1 z2 z3 z4 z5 z6 z7 z8 z9 z10 z11 z12 z13 z14 z15
    refine (m_see_nil A on c w7).mono ?_
    rintro e w8 ⟨rfl, rfl⟩
    obtain ⟨w7, rfl⟩ : ∃ v, v = w8 := ⟨_, rfl⟩
    have hbv := HB7.out
    have z0 : w7.cell? ⟨x, 0, none⟩ = some _ := Blk.cell hbv rfl
    have z1 : w7.cell? ⟨x, 1, none⟩ = some _ := Blk.cell hbv rfl
    have z2 : w7.cell? ⟨x, 2, none⟩ = some _ := Blk.cell hbv rfl
    have z3 : w7.cell? ⟨x, 3, none⟩ = some _ := Blk.cell hbv rfl
    have z4 : w7.cell? ⟨x, 4, none⟩ = some _ := Blk.cell hbv rfl
    have z5 : w7.cell? ⟨x, 5, none⟩ = some _ := Blk.cell hbv rfl
    have z6 : w7.cell? ⟨x, 6, none⟩ = some _ := Blk.cell hbv rfl
    have z7 : w7.cell? ⟨x, 7, none⟩ = some _ := Blk.cell hbv rfl
    have z8 : w7.cell? ⟨x, 8, none⟩ = some _ := Blk.cell hbv rfl
    have z9 : w7.cell? ⟨x, 9, none⟩ = some _ := Blk.cell hbv rfl
    have z10 : w7.cell? ⟨x, 10, none⟩ = some _ := Blk.cell hbv rfl
    have z11 : w7.cell? ⟨x, 11, none⟩ = some _ := Blk.cell hbv rfl
    have z12 : w7.cell? ⟨x, 12, none⟩ = some _ := Blk.cell hbv rfl
    have z13 : w7.cell? ⟨x, 13, none⟩ = some _ := Blk.cell hbv rfl
    have z14 : w7.cell? ⟨x, 14, none⟩ = some _ := Blk.cell hbv rfl
    have z15 : w7.cell? ⟨x, 15, none⟩ = some _ := Blk.cell hbv rfl
    clear hbv hw7
    go_wp2_with fail
    clear z0 z1 z2 z3 z4 z5 z6 z7 z8 z9 z10 z11 z12 z13 z14 z15
    refine (HJU.out w7).mono ?_
    rintro e w9 ⟨rfl, hkv⟩
    have HK9 := Lib.hid (HK7.out.trans' hkv)
    clear hkv
    go_wp2_with fail
    refine (m_copy_nil w9).mono ?_
    rintro e w10 ⟨rfl, rfl⟩
    go_wp2_with fail
    go_ret
    exact ⟨rfl, HK9.out⟩
theorem modelNil_holds : Rows.ModelNilSaid := modelNil_of modelNil_walk
end Go.Proofs.Ytbncblnchcmgbaa
