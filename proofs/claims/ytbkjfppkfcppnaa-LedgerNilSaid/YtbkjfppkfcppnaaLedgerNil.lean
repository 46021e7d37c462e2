/-
  A ledger that is none has nothing: LedgerNil answers true for every input.
-/
import Derived.Test.YtbkjfppkfcppnaaAwk12
import Derived.Test.YtbkjfppkfcppnaaGrt12
import Derived.Test.YtbkjfppkfcppnaaNil12
import Derived.Test.YtbkjfppkfcppnaaFLedgerNil
namespace Go.Proofs.Ytbkjfppkfcppnaa
open Go.RowKit Go.ChangeShapes Go.WideShapes Go.ChangeAt

/-- a new row of one command -/
theorem Own.oneC (w : World) (c : CmdL) (hv ov : Value) (S : Nat → Prop) (hn : c.nums) (h1 : Rp.str.slice.R w S [hv] c.op.hashes) (h2 : Rp.opl.slice.R w S [ov] c.ops) (h3 : hv.oneCell' = true) (h4 : ov.oneCell' = true) :
    Own Rp.cmd (w.alloc (.cells (cmdC c hv ov).toArray 36)) S w.heap.size 36 (.slice (some ⟨w.heap.size, 0, none⟩) 1 1) [c] := by
  refine ⟨cmdC c hv ov, ⟨rfl, .inr ⟨w.heap.size, 1, _, rfl, Nat.le_refl _, heap_alloc_new _ _, Nat.le_refl _, by unfold maxLen; omega, rfl, rfl⟩⟩, ?_, fun i a hi => ?_⟩
  · intro u hu
    simp only [cmdC, List.mem_cons, List.not_mem_nil, or_false] at hu
    rcases hu with rfl | rfl | rfl | rfl | rfl | rfl | rfl | rfl | rfl | rfl | rfl | rfl | rfl | rfl | rfl | rfl <;> first | rfl | exact h3 | exact h4
  · obtain rfl : i = 0 := by have := (List.getElem?_eq_some_iff.1 hi).1; simp at this; exact this
    injection hi with hi
    subst hi
    exact ⟨hv, ov, rfl, hn, Rp.str.slice.keptNo h1 ((Kp.refl _ _).alloc _), Rp.opl.slice.keptNo h2 ((Kp.refl _ _).alloc _)⟩
set_option maxRecDepth 100000 in
set_option maxHeartbeats 20000000 in
theorem ledgerNil_walk : LedgerNilWalk := by
  intro W v0 c v1 n h0 h1
  obtain ⟨A, ca, B, cb, hv0, hn, hh, ho⟩ := h0
  obtain ⟨hv1, _⟩ := h1
  simp only [List.cons.injEq, and_true] at hv0 hv1
  subst hv0 hv1
  have hk0 : Kp No W (W.alloc (.cells (cmdC c (.slice A c.op.hashes.length ca) (.slice B c.ops.length cb)).toArray 36)) := (Kp.refl _ _).alloc _
  have hb0 : Blk (W.alloc (.cells (cmdC c (.slice A c.op.hashes.length ca) (.slice B c.ops.length cb)).toArray 36)) W.heap.size 36 (cmdC c (.slice A c.op.hashes.length ca) (.slice B c.ops.length cb)) := Blk.new W _ _
  have hgr : ∀ w, Kp No W w → Calls Try.prog 14 #[.slice (some ⟨w.heap.size, 0, none⟩) 1 1] (w.alloc (.cells (cmdC c (.slice A c.op.hashes.length ca) (.slice B c.ops.length cb)).toArray 36)) fun e w' => GreatB 1 e ∧ Kp No (w.alloc (.cells (cmdC c (.slice A c.op.hashes.length ca) (.slice B c.ops.length cb)).toArray 36)) w' := fun w hk =>
    h_great12 [c] (some ⟨w.heap.size, 0, none⟩) 1 _ _ (Own.oneC w c _ _ _ hn (Rp.str.slice.keptNo hh hk) (Rp.opl.slice.keptNo ho hk) rfl rfl).readFrom
  have hli := fun w => run_lit_cmd w c (.slice A c.op.hashes.length ca) (.slice B c.ops.length cb)
  have hap := nil_apply_ c (.slice A c.op.hashes.length ca) (.slice B c.ops.length cb)
  obtain ⟨hnm, hhn⟩ : ∃ k, c.op.hashes.length = k := ⟨_, rfl⟩
  obtain ⟨onm, hon⟩ : ∃ k, c.ops.length = k := ⟨_, rfl⟩
  rw [hhn, hon] at hk0 hb0 hgr hli hap ⊢
  clear hhn hon hh ho hn
  obtain ⟨x, hx⟩ : ∃ x, W.heap.size = x := ⟨_, rfl⟩
  obtain ⟨wa, hwa⟩ : ∃ w, W.alloc (.cells (cmdC c (.slice A hnm ca) (.slice B onm cb)).toArray 36) = w := ⟨_, rfl⟩
  rw [hwa] at hk0 hb0
  rw [hx] at hb0
  unfold cmdC at hwa hb0 hgr hli
  unfold cmdV at hli hap ⊢
  have HGR := Lib.hid hgr
  have HLI := Lib.hid hli
  have HAP := Lib.hid hap
  have HK0 := Lib.hid hk0
  have HB0 := Lib.hid hb0
  clear hgr hli hap hk0 hb0
  obtain ⟨ck, ep, st, ⟨on, oe, ok, os, oc, oq, onm2, osz, ohs⟩, an, ae, ops, tg⟩ := c
  simp only at *
  go_enter Try.func11, Try.ntmps11
  go_wp2_with fail
  clear hwa hx
  refine (h_awake12 wa).mono ?_
  rintro e w1 ⟨rfl, hk1⟩
  have hb1 := HB0.out.kept hk1 (fun x => x)
  have HK1 := Lib.hid (HK0.out.trans' hk1)
  have HB1 := Lib.hid hb1
  have z0 : w1.cell? ⟨x, 0, none⟩ = some _ := Blk.cell hb1 rfl
  have z1 : w1.cell? ⟨x, 1, none⟩ = some _ := Blk.cell hb1 rfl
  have z2 : w1.cell? ⟨x, 2, none⟩ = some _ := Blk.cell hb1 rfl
  have z3 : w1.cell? ⟨x, 3, none⟩ = some _ := Blk.cell hb1 rfl
  have z4 : w1.cell? ⟨x, 4, none⟩ = some _ := Blk.cell hb1 rfl
  have z5 : w1.cell? ⟨x, 5, none⟩ = some _ := Blk.cell hb1 rfl
  have z6 : w1.cell? ⟨x, 6, none⟩ = some _ := Blk.cell hb1 rfl
  have z7 : w1.cell? ⟨x, 7, none⟩ = some _ := Blk.cell hb1 rfl
  have z8 : w1.cell? ⟨x, 8, none⟩ = some _ := Blk.cell hb1 rfl
  have z9 : w1.cell? ⟨x, 9, none⟩ = some _ := Blk.cell hb1 rfl
  have z10 : w1.cell? ⟨x, 10, none⟩ = some _ := Blk.cell hb1 rfl
  have z11 : w1.cell? ⟨x, 11, none⟩ = some _ := Blk.cell hb1 rfl
  have z12 : w1.cell? ⟨x, 12, none⟩ = some _ := Blk.cell hb1 rfl
  have z13 : w1.cell? ⟨x, 13, none⟩ = some _ := Blk.cell hb1 rfl
  have z14 : w1.cell? ⟨x, 14, none⟩ = some _ := Blk.cell hb1 rfl
  have z15 : w1.cell? ⟨x, 15, none⟩ = some _ := Blk.cell hb1 rfl
  clear hk1 hb1 HK0 HB0
  have hl1 := HLI.out w1
  have HL1 := Lib.hid hl1
  clear hl1 HLI
  go_wp2_with (refine wpList_litW (by first | rfl | go_simp) 22 _ rfl _ _ (by go_simp) HL1.out ?_; go_simp)
  clear z0 z1 z2 z3 z4 z5 z6 z7 z8 z9 z10 z11 z12 z13 z14 z15 HL1
  refine (HGR.out w1 HK1.out).mono ?_
  rintro e w2 ⟨⟨b, rfl, _⟩, hk2⟩
  have hk12 := ((Kp.refl No w1).alloc _).trans' hk2
  have HK2 := Lib.hid (HK1.out.trans' hk12)
  have HB2 := Lib.hid (HB1.out.kept hk12 (fun x => x))
  clear hk2 hk12 HB1 HGR HK1
  cases b
  case true =>
    go_wp2_with fail
    refine (h_awake12 w2).mono ?_
    rintro e w3 ⟨rfl, hk3⟩
    have HK3 := Lib.hid (HK2.out.trans' hk3)
    clear hk3
    go_wp2_with fail
    go_ret
    exact ⟨rfl, HK3.out⟩
  case false =>
    go_wp2_with fail
    refine (l_sheet_nil n w2).mono ?_
    rintro e w3 ⟨rfl, hk3⟩
    have hk4 : Kp No w3 (w3.alloc (.cells #[.int .i64 0, .slice none 0 0] 31)) := (Kp.refl _ _).alloc _
    have hb3 := HB2.out.kept hk3 (fun x => x)
    have hlt := Blk.lt hb3
    have hb4 : Blk (w3.alloc (.cells #[.int .i64 0, .slice none 0 0] 31)) w3.heap.size 31 [.int .i64 0, .slice none 0 0] := Blk.new w3 _ _
    have HK4 := Lib.hid ((HK2.out.trans' hk3).trans' hk4)
    have HB4 := Lib.hid hb4
    have z0 : w3.cell? ⟨x, 0, none⟩ = some _ := Blk.cell hb3 rfl
    have z1 : w3.cell? ⟨x, 1, none⟩ = some _ := Blk.cell hb3 rfl
    have z2 : w3.cell? ⟨x, 2, none⟩ = some _ := Blk.cell hb3 rfl
    have z3 : w3.cell? ⟨x, 3, none⟩ = some _ := Blk.cell hb3 rfl
    have z4 : w3.cell? ⟨x, 4, none⟩ = some _ := Blk.cell hb3 rfl
    have z5 : w3.cell? ⟨x, 5, none⟩ = some _ := Blk.cell hb3 rfl
    have z6 : w3.cell? ⟨x, 6, none⟩ = some _ := Blk.cell hb3 rfl
    have z7 : w3.cell? ⟨x, 7, none⟩ = some _ := Blk.cell hb3 rfl
    have z8 : w3.cell? ⟨x, 8, none⟩ = some _ := Blk.cell hb3 rfl
    have z9 : w3.cell? ⟨x, 9, none⟩ = some _ := Blk.cell hb3 rfl
    have z10 : w3.cell? ⟨x, 10, none⟩ = some _ := Blk.cell hb3 rfl
    have z11 : w3.cell? ⟨x, 11, none⟩ = some _ := Blk.cell hb3 rfl
    have z12 : w3.cell? ⟨x, 12, none⟩ = some _ := Blk.cell hb3 rfl
    have z13 : w3.cell? ⟨x, 13, none⟩ = some _ := Blk.cell hb3 rfl
    have z14 : w3.cell? ⟨x, 14, none⟩ = some _ := Blk.cell hb3 rfl
    have z15 : w3.cell? ⟨x, 15, none⟩ = some _ := Blk.cell hb3 rfl
    clear hk3 hk4 hb3 hb4 HK2 HB2
    go_wp2_with fail
    clear z0 z1 z2 z3 z4 z5 z6 z7 z8 z9 z10 z11 z12 z13 z14 z15 hlt
    refine (HAP.out _).mono ?_
    rintro e w5 ⟨rfl, hk5⟩
    have HK5 := Lib.hid (HK4.out.trans' hk5)
    have HB5 := Lib.hid (HB4.out.kept hk5 (fun x => x))
    clear hk5 HK4 HB4 HAP
    go_wp2_with fail
    refine (l_ops_nil _).mono ?_
    rintro e wn ⟨rfl, rfl⟩
    go_wp2_with fail
    refine (l_lost_nil _).mono ?_
    rintro e wn ⟨rfl, rfl⟩
    go_wp2_with fail
    refine (l_fence_nil _).mono ?_
    rintro e wn ⟨rfl, rfl⟩
    go_wp2_with fail
    refine (l_holder_nil _).mono ?_
    rintro e w6 ⟨rfl, hk6⟩
    have HK6 := Lib.hid (HK5.out.trans' hk6)
    have HB6 := Lib.hid (HB5.out.kept hk6 (fun x => x))
    clear hk6 HK5 HB5
    go_wp2_with fail
    refine (l_last_nil _).mono ?_
    rintro e w7 ⟨rfl, hk7⟩
    have HK7 := Lib.hid (HK6.out.trans' hk7)
    have hb7 := HB6.out.kept hk7 (fun x => x)
    have y0 : w7.cell? ⟨w3.heap.size, 0, none⟩ = some _ := Blk.cell hb7 rfl
    have y1 : w7.cell? ⟨w3.heap.size, 1, none⟩ = some _ := Blk.cell hb7 rfl
    clear hk7 HK6 HB6 hb7
    go_wp2_with fail
    refine (l_names_nil w7).mono ?_
    rintro e wn ⟨rfl, rfl⟩
    go_wp2_with fail
    clear y0 y1
    refine (l_puts_nil _).mono ?_
    rintro e wn ⟨rfl, rfl⟩
    go_wp2_with fail
    refine (l_needs_nil _).mono ?_
    rintro e wn ⟨rfl, rfl⟩
    go_wp2_with fail
    refine (l_settled_nil _).mono ?_
    rintro e wn ⟨rfl, rfl⟩
    go_wp2_with fail
    refine (l_used_nil _).mono ?_
    rintro e wn ⟨rfl, rfl⟩
    go_wp2_with fail
    refine (l_pack_nil _).mono ?_
    rintro e wn ⟨rfl, rfl⟩
    go_wp2_with fail
    refine (l_copy_nil _).mono ?_
    rintro e wn ⟨rfl, rfl⟩
    go_wp2_with fail
    go_ret
    exact ⟨rfl, HK7.out⟩
theorem ledgerNil_holds : Rows.LedgerNilSaid := ledgerNil_of ledgerNil_walk
#print axioms ledgerNil_holds
end Go.Proofs.Ytbkjfppkfcppnaa
