/-
  (*Ledger).put.
-/
import Derived.Test.YtbncblnchcmgbaaLedM
import Derived.Test.YtbncblnchcmgbaaDeed6
namespace Go.Proofs.Ytbncblnchcmgbaa
open Go.RowKit Go.ChangeShapes Go.WideShapes Go.ChangeAt

set_option maxRecDepth 100000 in
set_option maxHeartbeats 2000000 in
theorem l_put (o : OpL) (ep st : Int) (Ah : Option Addr) (ch : Nat) (SA : Nat → Prop) (l b1 b2 : Nat) (ov lv : Value) (S : Nat → Prop) (L : LV) (w : World) (h : LIn w l b1 b2 ov lv S L.fold L) (hh : Rp.str.slice.R w SA [.slice Ah o.hashes.length ch] o.hashes)
    (hn : (o.placed (L.ops.length + 1) ep st).nums) (hll : o.hashes.length ≤ 1000000) (hl : L.ops.length ≤ 1000) (hf : L.fold.Ok L.ops.length) (hsz : o.kind = 1 → Small o.size) :
    Calls Try.prog 90 #[.pointer (some ⟨l, 0, none⟩), opV o (.slice Ah o.hashes.length ch), .int .i64 ep, .int .i64 st] w fun x w' => x = .returned (doneV (putL o ep st L).1) ∧
      ∃ ov' S', LIn w' l b1 b2 ov' lv S' (putL o ep st L).2.fold (putL o ep st L).2 ∧ Upd (Foot l b1 b2 ov lv S) w w' (Foot l b1 b2 ov' lv S') := by
  obtain ⟨A, c, hov⟩ := h.oshape
  subst hov
  unfold opV
  obtain ⟨on, oe, ok, os, oc, oq, onm, osz, ohs⟩ := o
  simp only at *
  have H := Lib.hid h
  have HH := Lib.hid hh
  have HN := Lib.hid hn
  have HF := Lib.hid hf
  have HSZ := Lib.hid hsz
  clear h hh hn hf hsz
  obtain ⟨n, hnl⟩ : ∃ n, L.ops.length = n := ⟨_, rfl⟩
  obtain ⟨x, hx⟩ : ∃ x, w.heap.size = x := ⟨_, rfl⟩
  obtain ⟨wa, hwa⟩ : ∃ wa, (w.alloc (.cells #[.int .i64 on, .int .i64 oe, .int .i64 ok, .int .i64 os, .int .i64 oc, .int .i64 oq, .string onm, .int .i64 osz, .slice Ah ohs.length ch] 38)).alloc (.cells #[.int .i64 0, .int .i64 0, .int .i64 0] 95) = wa := ⟨_, rfl⟩
  have hka : Kp No w wa := by rw [← hwa]; exact ((Kp.refl _ _).alloc _).alloc _
  have hbx : Blk wa x 38 [.int .i64 on, .int .i64 oe, .int .i64 ok, .int .i64 os, .int .i64 oc, .int .i64 oq, .string onm, .int .i64 osz, .slice Ah ohs.length ch] := by rw [← hwa, ← hx]; exact (Blk.new w _ _).kept (S := No) ((Kp.refl _ _).alloc _) (fun x => x)
  have hbd : Blk wa (x + 1) 95 [.int .i64 0, .int .i64 0, .int .i64 0] := by
    rw [← hwa, ← hx]
    have := Blk.new (w.alloc (.cells #[.int .i64 on, .int .i64 oe, .int .i64 ok, .int .i64 os, .int .i64 oc, .int .i64 oq, .string onm, .int .i64 osz, .slice Ah ohs.length ch] 38)) [.int .i64 0, .int .i64 0, .int .i64 0] 95
    simpa using this
  have HA := Lib.hid (H.out.keptNo hka)
  have HKA := Lib.hid hka
  have HHA := Lib.hid (Rp.str.slice.keptNo HH.out hka)
  have HBX := Lib.hid hbx
  have HBD := Lib.hid hbd
  have hlx : l ≠ x ∧ l ≠ x + 1 := by have := Blk.lt H.out.fat.blk; omega
  have HLX := Lib.hid hlx
  have hlx1 := hlx.1
  clear hlx
  go_enter Try.func90, Try.ntmps90
  go_upto_region 1 with fail
  try rw [hwa, hx]
  have k5 : wa.cell? ⟨l, 5, none⟩ = some (.slice A L.ops.length c) := Blk.cell HA.out.fat.blk rfl
  rw [hnl] at k5
  have y0 : wa.cell? ⟨x, 0, none⟩ = some _ := Blk.cell hbx rfl
  have y1 : wa.cell? ⟨x, 1, none⟩ = some _ := Blk.cell hbx rfl
  have y2 : wa.cell? ⟨x, 2, none⟩ = some _ := Blk.cell hbx rfl
  have y3 : wa.cell? ⟨x, 3, none⟩ = some _ := Blk.cell hbx rfl
  have y4 : wa.cell? ⟨x, 4, none⟩ = some _ := Blk.cell hbx rfl
  have y5 : wa.cell? ⟨x, 5, none⟩ = some _ := Blk.cell hbx rfl
  have y6 : wa.cell? ⟨x, 6, none⟩ = some _ := Blk.cell hbx rfl
  have y7 : wa.cell? ⟨x, 7, none⟩ = some _ := Blk.cell hbx rfl
  have y8 : wa.cell? ⟨x, 8, none⟩ = some _ := Blk.cell hbx rfl
  have f0 := Blk.fr hbx 0
  have f1 := Blk.fr hbx 1
  have f3 := Blk.fr hbx 3
  have hl2 : n ≤ 1000 := by omega
  clear hbx hbd hka hwa
  go_upto_region 2 with fail
  obtain ⟨wb, hwb⟩ : ∃ wb, ((wa.setCell ⟨x, 0, none⟩ (.int .i64 ((n : Int) + 1))).setCell ⟨x, 1, none⟩ (.int .i64 ep)).setCell ⟨x, 3, none⟩ (.int .i64 st) = wb := ⟨_, rfl⟩
  have hkab : Kp (· = x) wa wb := by rw [← hwb]; exact (((Kp.refl (· = x) wa).setCell (p := ⟨x, 0, none⟩) (fun _ => rfl) _).setCell (p := ⟨x, 1, none⟩) (fun _ => rfl) _).setCell (p := ⟨x, 3, none⟩) (fun _ => rfl) _
  have hkb : Kp No w wb := HKA.out.trans hkab (fun i hi e => absurd hi (by omega))
  have hbxb : Blk wb x 38 [.int .i64 ((n : Int) + 1), .int .i64 ep, .int .i64 ok, .int .i64 st, .int .i64 oc, .int .i64 oq, .string onm, .int .i64 osz, .slice Ah ohs.length ch] := by rw [← hwb]; exact Blk.set (Blk.set (Blk.set HBX.out 0 (.int .i64 ((n : Int) + 1))) 1 (.int .i64 ep)) 3 (.int .i64 st)
  have hbdb : Blk wb (x + 1) 95 [.int .i64 0, .int .i64 0, .int .i64 0] := HBD.out.kept hkab (by omega)
  have HB := Lib.hid (H.out.keptNo hkb)
  have HKB := Lib.hid hkb
  have HHB := Lib.hid (Rp.str.slice.keptNo HH.out hkb)
  have HBXB := Lib.hid hbxb
  have HBDB := Lib.hid hbdb
  have hxw : x + 1 < wb.heap.size := Blk.lt hbdb
  have HXW := Lib.hid hxw
  rw [hwb]
  clear hkab hkb hbdb hwb HA HKA HHA HBX HBD k5 y0 y1 y2 y3 y4 y5 y6 y7 y8 f0 f1 f3 hxw
  have k5 : wb.cell? ⟨l, 5, none⟩ = some (.slice A L.ops.length c) := Blk.cell HB.out.fat.blk rfl
  rw [hnl] at k5
  have y0 : wb.cell? ⟨x, 0, none⟩ = some _ := Blk.cell hbxb rfl
  have y1 : wb.cell? ⟨x, 1, none⟩ = some _ := Blk.cell hbxb rfl
  have y2 : wb.cell? ⟨x, 2, none⟩ = some _ := Blk.cell hbxb rfl
  have y3 : wb.cell? ⟨x, 3, none⟩ = some _ := Blk.cell hbxb rfl
  have y4 : wb.cell? ⟨x, 4, none⟩ = some _ := Blk.cell hbxb rfl
  have y5 : wb.cell? ⟨x, 5, none⟩ = some _ := Blk.cell hbxb rfl
  have y6 : wb.cell? ⟨x, 6, none⟩ = some _ := Blk.cell hbxb rfl
  have y7 : wb.cell? ⟨x, 7, none⟩ = some _ := Blk.cell hbxb rfl
  have y8 : wb.cell? ⟨x, 8, none⟩ = some _ := Blk.cell hbxb rfl
  clear hbxb
  obtain ⟨o2, ho2⟩ : ∃ o2, (⟨(n : Int) + 1, ep, ok, st, oc, oq, onm, osz, ohs⟩ : OpL) = o2 := ⟨_, rfl⟩
  have HN2 : Hid o2.nums := Lib.hid (by rw [← ho2]; have := HN.out; rw [hnl] at this; exact this)
  have HO2 := Lib.hid ho2
  clear ho2
  refine Reg.wp_region_plan [⟨0, false, []⟩, ⟨1, false, []⟩, ⟨2, false, []⟩, ⟨3, false, []⟩, ⟨4, false, []⟩, ⟨5, false, []⟩, ⟨6, true, [2, 3, 4]⟩, ⟨7, true, [2, 3, 4]⟩, ⟨8, true, []⟩, ⟨9, false, []⟩, ⟨10, false, []⟩, ⟨11, true, []⟩] rfl (by kernel_rfl) ?_
  repeat (first | (refine Reg.look rfl rfl rfl (by go_simp; rfl) rfl ?_; go_simp) | (refine Reg.skip rfl rfl rfl ?_; go_simp))
  refine Reg.act rfl ?_
  go_wp2_with fail
  obtain ⟨w3, hw3⟩ : ∃ w3, (wb.alloc (.cells #[.int .i64 ((n : Int) + 1), .int .i64 ep, .int .i64 ok, .int .i64 st, .int .i64 oc, .int .i64 oq, .string onm, .int .i64 osz, .slice Ah ohs.length ch] 38)).drew = w3 := ⟨_, rfl⟩
  have hk3 : Kp No wb w3 := by rw [← hw3]; exact ((Kp.refl _ _).alloc _).drew
  have hrd : Rp.opl.slice.R w3 (fun k => SA k ∨ k = wb.heap.size) [.slice (some ⟨wb.heap.size, 0, none⟩) 1 1] [o2] := by
    rw [← hw3]
    have := opl_lit wb o2 (.slice Ah ohs.length ch) (fun k => SA k ∨ k = wb.heap.size) (.inr rfl) HN2.out (by rw [← HO2.out]; exact Rp.str.slice.more HHB.out (fun _ h => .inl h))
    rw [← HO2.out] at this ⊢
    exact Rp.opl.slice.keptNo this ((Kp.refl _ _).drew)
  have hsz3 : wb.heap.size < w3.heap.size := by rw [← hw3]; simp
  have hoh : o2.hashes.length ≤ 1000000 := by rw [← HO2.out]; exact hll
  have k5c : w3.cell? ⟨l, 5, none⟩ = some (.slice A n c) := (hk3.cell (lt_of_cell k5) (fun x => x)).trans k5
  have HRD := Lib.hid hrd
  have HK3 := Lib.hid hk3
  have HSZ3 := Lib.hid hsz3
  have HOH := Lib.hid hoh
  rw [hw3]
  clear hw3 hk3 hrd hsz3 hoh y0 y1 y2 y3 y4 y5 y6 y7 y8 k5
  (refine ⟨?anew, ?_⟩; case anew => ((repeat (refine Reg.anew_cons rfl rfl (fun _ => by go_simp) ?_)); exact Reg.anew_nil))
  refine Reg.act rfl ?_
  go_wp2_with fail
  refine (c_own [o2] (some ⟨wb.heap.size, 0, none⟩) 1 w3 _ HRD.out (by simp) (by intro o ho; simp only [List.mem_cons, List.not_mem_nil, or_false] at ho; subst ho; exact HOH.out)).mono ?_
  rintro e w4 ⟨A1, c1, rfl, _, _, hown, hk4⟩
  have k5d : w4.cell? ⟨l, 5, none⟩ = some (.slice A n c) := (hk4.cell (lt_of_cell k5c) (fun x => x)).trans k5c
  have HK4 := Lib.hid (HK3.out.trans' hk4)
  have h4 := HB.out.keptNo (HK3.out.trans' hk4)
  have hsrc : Rp.opl.slice.R w4 (fun k => w3.heap.size ≤ k ∧ k < w4.heap.size) [.slice A1 [o2].length c1] [o2] := Rp.opl.slice.more (Rp.opl.slice.bnd hown.readFrom) (fun k hk => ⟨by rcases hk.1 with h | h <;> exact h, hk.2⟩)
  have hol := h4.ops
  rw [hnl] at hol
  have hnew : ∀ k, (w3.heap.size ≤ k ∧ k < w4.heap.size) → k < w4.heap.size ∧ ¬ T3 l b1 b2 k ∧ (Value.slice A L.ops.length c).ownBlock ≠ some k ∧ lv.ownBlock ≠ some k := by
    intro k hk
    have hlt := HB.out.footlt k
    have h3 := HSZ3.out
    refine ⟨hk.2, fun h => ?_, fun h => ?_, fun h => ?_⟩
    · have := hlt (.inl h); omega
    · have := hlt (.inr (.inl h)); omega
    · have := hlt (.inr (.inr (.inl h))); omega
  have H4 := Lib.hid h4
  have HSRC := Lib.hid hsrc
  have HOL := Lib.hid hol
  have HNEW := Lib.hid hnew
  have HSO : Hid (∀ k, (Value.slice A n c).ownBlock = some k → ¬ (S k ∨ (w3.heap.size ≤ k ∧ k < w4.heap.size))) := Lib.hid (by
    rw [← hnl]
    rintro k hk (h | h)
    · exact h4.so k hk h
    · exact (hnew k h).2.2.1 hk)
  clear hown hk4 h4 hsrc hol hnew k5c HRD HOH
  go_wp2_with fail
  (refine ⟨?anew, ?_⟩; case anew => ((repeat (refine Reg.anew_cons rfl rfl (fun _ => by go_simp) ?_)); exact Reg.anew_nil))
  refine Reg.act rfl ?_
  refine wpList_append_rp (E := Rp.opl) rfl _ (.tmp 24) (.tmp 27) 42 rfl 0 38 96 el_op (fun k => S k ∨ (w3.heap.size ≤ k ∧ k < w4.heap.size)) (.slice A n c) L.ops rfl ?d0 A1 c1 (fun k => w3.heap.size ≤ k ∧ k < w4.heap.size) [o2] rfl HSRC.out Rp.opl_one ?d1 ?d2 (Nat.zero_le _) (fun _ h => .inr h) ?d3 ?_
  case d0 => exact HOL.out.mono (Nat.le_refl _) (fun _ h => .inl h)
  case d1 => simp [maxLen]; omega
  case d2 => simp; omega
  case d3 => exact HSO.out
  intro v5 w5 hown5 hg5 hb5
  obtain ⟨A5, c5, rfl⟩ := hown5.shape
  have hk5 : Kp (fun k => (Value.slice A n c).ownBlock = some k) w4 w5 := (Kp.refl _ _).grown hg5 (fun g hg _ => hg)
  rw [← hnl] at hg5 hb5 hk5
  have hb5l := H4.out.fat.blk.kept hk5 (fun e => H4.out.ol l e (.inl rfl))
  have k5e := Blk.cell hb5l (i := 5) rfl
  have f5e := Blk.fr hb5l 5
  obtain ⟨h6, hk6⟩ := H4.out.grown HNEW.out hown5 hg5 hb5
  have hlen : (L.ops ++ [o2]).length = n + 1 := by rw [List.length_append, hnl]; rfl
  rw [hlen] at h6 hk6
  have H6 := Lib.hid h6
  have HK6 : Hid (Kp (fun k => k = l ∨ (Value.slice A L.ops.length c).ownBlock = some k) w _) := Lib.hid ((HKB.out.trans' HK4.out).any.trans' hk6)
  have HW3 : Hid (w.heap.size ≤ w3.heap.size) := Lib.hid (by have h1 := HKB.out.size; have h2 := HSZ3.out; omega)
  have HW3b : Hid (wb.heap.size ≤ w3.heap.size) := Lib.hid (by have h2 := HSZ3.out; omega)
  have HB5 : Hid (∀ k, (Value.slice A5 (n + 1) c5).ownBlock = some k → (Value.slice A L.ops.length c).ownBlock = some k ∨ w.heap.size ≤ k) := Lib.hid (by
    intro k hk
    rw [hlen] at hb5
    rcases hb5 with h | h
    · exact .inl (h ▸ hk)
    · rw [h] at hk
      injection hk with hk
      have := (HKB.out.trans' HK4.out).size
      exact .inr (by omega))
  have HK5 := Lib.hid hk5
  rw [hlen]
  clear h6 hk6 hown5 hg5 hb5 hk5 hb5l HSRC HOL HNEW HSO k5d HK3 HSZ3 HB
  go_wp2_with fail
  (refine ⟨?anew, ?_⟩; case anew => ((repeat (refine Reg.anew_cons rfl rfl (fun _ => by go_simp) ?_)); exact Reg.anew_nil))
  repeat (first | (refine Reg.look rfl rfl rfl (by go_simp; rfl) rfl ?_; go_simp) | (refine Reg.skip rfl rfl rfl ?_; go_simp))
  refine Reg.act rfl ?_
  go_wp2_with fail
  (refine ⟨?anew, ?_⟩; case anew => ((repeat (refine Reg.anew_cons rfl rfl (fun _ => by go_simp) ?_)); exact Reg.anew_nil))
  repeat (first | (refine Reg.look rfl rfl rfl (by go_simp; rfl) rfl ?_; go_simp) | (refine Reg.skip rfl rfl rfl ?_; go_simp))
  (refine Reg.done ?_; simp only [Exit.then])
  obtain ⟨w6, hw6⟩ : ∃ w6, w5.setCell ⟨l, 5, none⟩ (.slice A5 (n + 1) c5) = w6 := ⟨_, rfl⟩
  rw [hw6] at H6 HK6
  rw [hw6]
  have HX6 : Hid (Blk w6 x 38 [.int .i64 ((n : Int) + 1), .int .i64 ep, .int .i64 ok, .int .i64 st, .int .i64 oc, .int .i64 oq, .string onm, .int .i64 osz, .slice Ah ohs.length ch]) := Lib.hid (by
    have h4 := HBXB.out.kept HK4.out (fun x => x)
    have h5 := h4.kept HK5.out (fun e => by have := H.out.footlt x (.inr (.inl e)); omega)
    rw [← hw6]
    exact h5.kept ((Kp.refl (· = l) w5).setCell (p := ⟨l, 5, none⟩) (fun _ => rfl) _) (fun e => hlx1 e.symm))
  have HD6 : Hid (Blk w6 (x + 1) 95 [.int .i64 0, .int .i64 0, .int .i64 0]) := Lib.hid (by
    have h4 := HBDB.out.kept HK4.out (fun x => x)
    have h5 := h4.kept HK5.out (fun e => by have := H.out.footlt (x + 1) (.inr (.inl e)); omega)
    rw [← hw6]
    exact h5.kept ((Kp.refl (· = l) w5).setCell (p := ⟨l, 5, none⟩) (fun _ => rfl) _) (fun e => HLX.out.2 e.symm))
  clear hw6 k5e f5e HK5
  have hgat : (L.ops ++ [o2])[n]? = some o2 := by rw [← hnl]; simp
  have h6o := H6.out.ops
  simp only at h6o
  rw [← hlen] at h6o
  obtain ⟨g, A6, c6, rfl, _, _, hcell, _, _, hrd6⟩ := Own.at_opl h6o hgat
  have z0 : w6.cell? ⟨g, n * 9, none⟩ = some _ := hcell 0 _ rfl
  have z1 : w6.cell? ⟨g, n * 9 + 1, none⟩ = some _ := hcell 1 _ rfl
  have z2 : w6.cell? ⟨g, n * 9 + 2, none⟩ = some _ := hcell 2 _ rfl
  have z3 : w6.cell? ⟨g, n * 9 + 3, none⟩ = some _ := hcell 3 _ rfl
  have z4 : w6.cell? ⟨g, n * 9 + 4, none⟩ = some _ := hcell 4 _ rfl
  have z5 : w6.cell? ⟨g, n * 9 + 5, none⟩ = some _ := hcell 5 _ rfl
  have z6 : w6.cell? ⟨g, n * 9 + 6, none⟩ = some _ := hcell 6 _ rfl
  have z7 : w6.cell? ⟨g, n * 9 + 7, none⟩ = some _ := hcell 7 _ rfl
  have z8 : w6.cell? ⟨g, n * 9 + 8, none⟩ = some _ := hcell 8 _ rfl
  have k5 : w6.cell? ⟨l, 5, none⟩ = some (.slice (some ⟨g, 0, none⟩) (n + 1) c5) := Blk.cell H6.out.fat.blk rfl
  have HRD6 := Lib.hid hrd6
  have hwn : IntKind.i64.wrap (n : Int) = (n : Int) := by rw [IntKind.wrap_i64]; omega
  have hnlt : (n : Int) < (n : Int) + 1 := by omega
  clear hgat h6o hcell hrd6
  go_upto_region 3 with fail
  refine Reg.wp_region_plan [⟨0, false, []⟩, ⟨1, false, []⟩, ⟨2, false, []⟩, ⟨3, false, []⟩, ⟨4, false, []⟩, ⟨5, false, []⟩, ⟨6, false, []⟩, ⟨7, false, []⟩, ⟨8, false, []⟩, ⟨9, false, []⟩, ⟨10, false, []⟩, ⟨11, false, []⟩, ⟨12, false, []⟩, ⟨13, false, []⟩, ⟨14, false, []⟩, ⟨15, true, [1, 2]⟩, ⟨16, true, []⟩] rfl (by kernel_rfl) ?_
  repeat (first | (refine Reg.look rfl rfl rfl (by go_simp; rfl) rfl ?_; go_simp) | (refine Reg.skip rfl rfl rfl ?_; go_simp))
  refine Reg.act rfl ?_
  go_wp2_with fail
  obtain ⟨w7, hw7⟩ : ∃ w7, (w6.alloc (.cells #[.int .i64 o2.n, .int .i64 o2.epoch, .int .i64 o2.kind, .int .i64 o2.site, .int .i64 o2.client, .int .i64 o2.seq, .string o2.name, .int .i64 o2.size, .slice A6 o2.hashes.length c6] 38)).drew = w7 := ⟨_, rfl⟩
  have hk7 : Kp No w6 w7 := by rw [← hw7]; exact ((Kp.refl _ _).alloc _).drew
  have hone : Own Rp.opl w7 (fun k => S k ∨ w3.heap.size ≤ k ∧ k < w4.heap.size) w6.heap.size 38 (.slice (some ⟨w6.heap.size, 0, none⟩) 1 1) [o2] := by
    rw [← hw7]
    exact (Own.one w6 o2 (.slice A6 o2.hashes.length c6) _ HN2.out HRD6.out rfl).keptNo ((Kp.refl _ _).drew)
  have H7 := Lib.hid (H6.out.keptNo hk7)
  have HX7 := Lib.hid (HX6.out.kept hk7 (fun x => x))
  have HD7 := Lib.hid (HD6.out.kept hk7 (fun x => x))
  have HK7 := Lib.hid (HK6.out.trans hk7 (fun _ _ e => e.elim))
  have HONE := Lib.hid hone
  have k5f : w7.cell? ⟨l, 5, none⟩ = some (.slice (some ⟨g, 0, none⟩) (n + 1) c5) := Blk.cell H7.out.fat.blk rfl
  rw [hw7]
  clear hw7 hk7 hone H6 HX6 HD6 HK6 z0 z1 z2 z3 z4 z5 z6 z7 z8 k5 HRD6
  (refine ⟨?anew, ?_⟩; case anew => ((repeat (refine Reg.anew_cons rfl rfl (fun _ => by go_simp) ?_)); exact Reg.anew_nil))
  refine Reg.act rfl ?_
  go_wp2_with fail
  refine (c_take [o2] (some ⟨w6.heap.size, 0, none⟩) 1 l _ b1 b2 _ L.fold n w6.heap.size w7 H7.out.fat (by rw [← hnl]; exact HF.out) HONE.out (by intro o ho; simp only [List.mem_cons, List.not_mem_nil, or_false] at ho; subst ho; rw [← HO2.out]; exact HSZ.out) (by simp; omega)).mono ?_
  rintro e w8 ⟨rfl, hf8, _, hk8⟩
  have h8 := H7.out.took hf8 hk8
  have h8x := HX7.out.kept hk8 (fun e => by have := H.out.footlt x (.inl e); omega)
  have h8d := HD7.out.kept hk8 (fun e => by have := H.out.footlt (x + 1) (.inl e); omega)
  have H8 := Lib.hid h8
  have HX8 := Lib.hid h8x
  have HD8 := Lib.hid h8d
  have HK8 : Hid (Kp (Foot l b1 b2 (.slice A L.ops.length c) lv S) w w8) := Lib.hid ((HK7.out.mono (fun k _ e => by
    rcases e with e | e
    · exact .inl (.inl e)
    · exact .inr (.inl e))).trans hk8 (fun _ _ e => .inl e))
  clear hf8 hk8 h8 h8d H7 HX7 HD7 HK7 HONE k5f
  go_wp2_with fail
  (refine ⟨?anew, ?_⟩; case anew => ((repeat (refine Reg.anew_cons rfl rfl (fun _ => by go_simp) ?_)); exact Reg.anew_nil))
  (refine Reg.done ?_; simp only [Exit.then])
  have y0 : w8.cell? ⟨x, 0, none⟩ = some _ := Blk.cell h8x rfl
  have y1 : w8.cell? ⟨x, 1, none⟩ = some _ := Blk.cell h8x rfl
  have y2 : w8.cell? ⟨x, 2, none⟩ = some _ := Blk.cell h8x rfl
  have y3 : w8.cell? ⟨x, 3, none⟩ = some _ := Blk.cell h8x rfl
  have y4 : w8.cell? ⟨x, 4, none⟩ = some _ := Blk.cell h8x rfl
  have y5 : w8.cell? ⟨x, 5, none⟩ = some _ := Blk.cell h8x rfl
  have y6 : w8.cell? ⟨x, 6, none⟩ = some _ := Blk.cell h8x rfl
  have y7 : w8.cell? ⟨x, 7, none⟩ = some _ := Blk.cell h8x rfl
  have y8 : w8.cell? ⟨x, 8, none⟩ = some _ := Blk.cell h8x rfl
  clear h8x
  go_wp2_with fail
  refine (l_spot ⟨(n : Int) + 1, ep, ok, st, oc, oq, onm, osz, ohs⟩ (.slice Ah ohs.length ch) w8).mono ?_
  rintro e w9 ⟨rfl, hk9⟩
  have hd9 := HD8.out.kept hk9 (fun x => x)
  have g0 := Blk.fr hd9 0
  have g1 := Blk.fr hd9 1
  have g2 := Blk.fr hd9 2
  have u0 : w9.cell? ⟨x + 1, 0, none⟩ = some _ := Blk.cell hd9 rfl
  have u1 : w9.cell? ⟨x + 1, 1, none⟩ = some _ := Blk.cell hd9 rfl
  have u2 : w9.cell? ⟨x + 1, 2, none⟩ = some _ := Blk.cell hd9 rfl
  have H9 := Lib.hid (H8.out.keptNo hk9)
  have HD9 := Lib.hid hd9
  have HK9 := Lib.hid (HK8.out.trans hk9 (fun _ _ e => e.elim))
  clear hk9 hd9 H8 HX8 HD8 HK8 y0 y1 y2 y3 y4 y5 y6 y7 y8
  go_wp2_with fail
  obtain ⟨wf, hwf⟩ : ∃ wf, ((w9.setCell ⟨x + 1, 0, none⟩ (.int .i64 0)).setCell ⟨x + 1, 1, none⟩ (.int .i64 ((n : Int) + 1))).setCell ⟨x + 1, 2, none⟩ (.int .i64 ep) = wf := ⟨_, rfl⟩
  have hkf : Kp (· = x + 1) w9 wf := by rw [← hwf]; exact (((Kp.refl (· = x + 1) w9).setCell (p := ⟨x + 1, 0, none⟩) (fun _ => rfl) _).setCell (p := ⟨x + 1, 1, none⟩) (fun _ => rfl) _).setCell (p := ⟨x + 1, 2, none⟩) (fun _ => rfl) _
  have hbf : Blk wf (x + 1) 95 [.int .i64 0, .int .i64 ((n : Int) + 1), .int .i64 ep] := by rw [← hwf]; exact Blk.set (Blk.set (Blk.set HD9.out 0 (.int .i64 0)) 1 (.int .i64 ((n : Int) + 1))) 2 (.int .i64 ep)
  rw [hwf]
  have hputv : doneV (putL ⟨on, oe, ok, os, oc, oq, onm, osz, ohs⟩ ep st L).1 = .agg #[.int .i64 0, .int .i64 ((n : Int) + 1), .int .i64 ep] := by
    show Value.agg #[.int .i64 0, .int .i64 ((L.ops.length : Int) + 1), .int .i64 ep] = _
    rw [hnl]
  have hput2 : (putL ⟨on, oe, ok, os, oc, oq, onm, osz, ohs⟩ ep st L).2 = { L with ops := L.ops ++ [o2] } := by
    rw [← HO2.out, ← hnl]; rfl
  have hfold : ({ L with ops := L.ops ++ [o2] } : LV).fold = L.fold.take [o2] := FV.take_snoc _ _ _
  rw [hputv, hput2, hfold]
  have hfoot : ∀ k, Foot l b1 b2 (.slice (some ⟨g, 0, none⟩) (n + 1) c5) lv (fun k => S k ∨ w3.heap.size ≤ k ∧ k < w4.heap.size) k → k ≠ x + 1 := by
    have hlt := H.out.footlt
    rintro k (hk | hk | hk | hk | hk) e
    · have := hlt k (.inl hk); omega
    · obtain ⟨cs, h1⟩ := H9.out.ops.block hk
      have h2 := HD9.out
      unfold Blk at h2
      rw [e, h2] at h1
      injection h1 with h1
      injection h1 with _ h1
      exact absurd h1 (by decide)
    · have := hlt k (.inr (.inr (.inl hk))); omega
    · have := hlt k (.inr (.inr (.inr hk))); omega
    · have h1 := HXW.out
      have h2 := HW3b.out
      omega
  have hfin : LIn wf l b1 b2 (.slice (some ⟨g, 0, none⟩) (n + 1) c5) lv _ (L.fold.take [o2]) { L with ops := L.ops ++ [o2] } := H9.out.kept hkf hfoot
  have hkw : Kp (Foot l b1 b2 (.slice A L.ops.length c) lv S) w wf := HK9.out.trans hkf (fun i hi e => absurd hi (by omega))
  have hupd : Upd (Foot l b1 b2 (.slice A L.ops.length c) lv S) w wf (Foot l b1 b2 (.slice (some ⟨g, 0, none⟩) (n + 1) c5) lv (fun k => S k ∨ w3.heap.size ≤ k ∧ k < w4.heap.size)) := ⟨hkw, by
    rintro k (hk | hk | hk | hk | hk)
    · exact .inl (.inl hk)
    · rcases HB5.out k hk with h | h
      · exact .inl (.inr (.inl h))
      · exact .inr h
    · exact .inl (.inr (.inr (.inl hk)))
    · exact .inl (.inr (.inr (.inr hk)))
    · exact .inr (Nat.le_trans HW3.out hk.1)⟩
  clear hwf u0 u1 u2 g0 g1 g2 hputv hput2 hfold hfoot H9 HD9 HK9 hkw hkf HB5 HW3 HW3b HXW
  exact bodyPost_ret (results_cell_row rfl _ _ (x + 1) _ _ _ _ rfl hbf Try.underlying95 rfl (by kernel_rfl)) rfl ⟨rfl, _, _, hfin, hupd⟩
end Go.Proofs.Ytbncblnchcmgbaa
