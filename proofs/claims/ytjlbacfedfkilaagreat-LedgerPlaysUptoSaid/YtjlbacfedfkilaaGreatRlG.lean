/-
  The document's ledger: append.
-/
import Derived.Test.YtjlbacfedfkilaaGreatRlF
import Derived.Test.YtjlbacfedfkilaaGreatGE
namespace Go.Proofs.YtjlbacfedfkilaaGreat
open Go.RowKit Go.ChangeShapes Go.WideShapes Go.ChangeAt
theorem RLIn.grown {w w' : World} {l : Nat} {ov gv : Value} {S : Nat → Prop} {L : LV} (h : RLIn w l ov gv S L) {S' : Nat → Prop} {m : List OpL} {v' : Value} (hs' : ∀ k,S' k → k < w.heap.size ∧ k ≠ l ∧ ov.ownBlock ≠ some k ∧ gv.ownBlock ≠ some k) (hown : Own Rp.opl w' (fun k => S k ∨ S' k) 0 36 v' (L.ops ++ m)) (hg : w.grownBy w' ov.ownBlock)
 (hb : v'.ownBlock = ov.ownBlock ∨ v'.ownBlock = some w.heap.size) :
 RLIn (w'.setCell ⟨l,0,none⟩ v') l v' gv (fun k => S k ∨ S' k) { L with ops := L.ops ++ m } ∧ Kp (fun k => k = l ∨ ov.ownBlock = some k) w (w'.setCell ⟨l,0,none⟩ v') := by
 have hk1 : Kp (fun k => ov.ownBlock = some k) w w' := (Kp.refl _ _).grown hg (fun g hg _ => hg)
 have hk2 : Kp (· = l) w' (w'.setCell ⟨l,0,none⟩ v') := (Kp.refl (· = l) w').setCell (p := ⟨l,0,none⟩) (fun _ => rfl) _
 have hk : Kp (fun k => k = l ∨ ov.ownBlock = some k) w (w'.setCell ⟨l,0,none⟩ v') := (hk1.mono (fun _ _ e => .inr e)).trans (hk2.mono (fun _ _ e => .inl e)) (fun _ _ e => e)
 have hlb : l < w.heap.size := Blk.lt h.blk
 have hS : ∀ k,S k ∨ S' k → k < w.heap.size ∧ k ≠ l ∧ ov.ownBlock ≠ some k ∧ gv.ownBlock ≠ some k := by
  rintro k (hk | hk)
  · exact ⟨h.hi k hk,fun ht => h.sl (ht ▸ hk),fun e => h.so k hk e,fun e => h.sg k hk e⟩
  · exact hs' k hk
 have hvb : ∀ k,v'.ownBlock = some k → ov.ownBlock = some k ∨ k = w.heap.size := by
  intro k hk
  rcases hb with e | e
  · exact .inl (e ▸ hk)
  · rw [e] at hk;injection hk with hk;exact .inr hk.symm
 have hbl := h.blk.kept hk1 (fun e => h.ol e)
 have hvl : ∀ k,v'.ownBlock = some k → k ≠ l := fun k hv e => by
  rcases hvb k hv with e2 | e2
  · exact h.ol (e ▸ e2)
  · omega
 refine ⟨⟨Blk.set hbl 0 _,hown.kept hk2 (fun k hk _ e => (hS k hk).2.1 e) (fun k hv e => hvl k hv e),(h.gone.kept hk1 (fun k hs _ _ => hs) (fun k hv e => h.og k e hv)).kept hk2 (fun k hs _ _ => hs) (fun k hv e => h.gl (e ▸ hv)),fun e => hvl l e rfl,h.gl,fun k hv e => ?_,fun e => (hS l e).2.1 rfl,fun k hs hv => ?_,fun k hs e => (hS k hs).2.2.2 e,fun k hs => Nat.lt_of_lt_of_le (hS k hs).1 hk.size⟩,hk⟩
 · rcases hvb k hv with e2 | e2
   · exact h.og k e2 e
   · have := (h.gone.lt k e).2;omega
 · rcases hvb k hv with e2 | e2
   · exact (hS k hs).2.2.1 e2
   · have := (hS k hs).1;omega
set_option maxRecDepth 100000 in
set_option maxHeartbeats 4000000 in
theorem r_lappend (o : OpL) (ep st : Int) (Ah : Option Addr) (ch : Nat) (SA : Nat → Prop) (l : Nat) (ov gv : Value) (S : Nat → Prop) (L : LV) (w : World) (h : RLIn w l ov gv S L) (hh : Rp.str.slice.R w SA [.slice Ah o.hashes.length ch] o.hashes)
 (hn : (o.placed (L.ops.length + 1) ep st).nums) (hll : o.hashes.length ≤ 1000000) (hl : L.ops.length ≤ 1000) :
 Calls Tryz.prog 43 #[.pointer (some ⟨l,0,none⟩),opV o (.slice Ah o.hashes.length ch),.int .i64 ep,.int .i64 st] w fun x w' => x = .returned (doneV (putL o ep st L).1) ∧
  ∃ ov' S',RLIn w' l ov' gv S' (putL o ep st L).2 ∧ UpdS (RLCore l ov gv) S w w' (RLCore l ov' gv) S' := by
 obtain ⟨A,c,hov⟩ := h.ops.shape
 subst hov
 unfold opV
 obtain ⟨on,oe,ok,os,oc,oq,onm,osz,ohs⟩ := o
 simp only at *
 have H := Lib.hid h
 have HH := Lib.hid hh
 have HN := Lib.hid hn
 clear h hh hn
 obtain ⟨n,hnl⟩ : ∃ n,L.ops.length = n := ⟨_,rfl⟩
 obtain ⟨x,hx⟩ : ∃ x,w.heap.size = x := ⟨_,rfl⟩
 obtain ⟨wa,hwa⟩ : ∃ wa,(w.alloc (.cells #[.int .i64 on,.int .i64 oe,.int .i64 ok,.int .i64 os,.int .i64 oc,.int .i64 oq,.string onm,.int .i64 osz,.slice Ah ohs.length ch] 36)).alloc (.cells #[.int .i64 0,.int .i64 0,.int .i64 0] 44) = wa := ⟨_,rfl⟩
 have hka : Kp No w wa := by rw [← hwa];exact ((Kp.refl _ _).alloc _).alloc _
 have hbx : Blk wa x 36 [.int .i64 on,.int .i64 oe,.int .i64 ok,.int .i64 os,.int .i64 oc,.int .i64 oq,.string onm,.int .i64 osz,.slice Ah ohs.length ch] := by rw [← hwa,← hx];exact (Blk.new w _ _).kept (S := No) ((Kp.refl _ _).alloc _) (fun x => x)
 have hbd : Blk wa (x + 1) 44 [.int .i64 0,.int .i64 0,.int .i64 0] := by
  rw [← hwa,← hx]
  have := Blk.new (w.alloc (.cells #[.int .i64 on,.int .i64 oe,.int .i64 ok,.int .i64 os,.int .i64 oc,.int .i64 oq,.string onm,.int .i64 osz,.slice Ah ohs.length ch] 36)) [.int .i64 0,.int .i64 0,.int .i64 0] 44
  simpa using this
 have HA := Lib.hid (H.out.keptNo hka)
 have HKA := Lib.hid hka
 have HBX := Lib.hid hbx
 have HBD := Lib.hid hbd
 have hlx : l ≠ x ∧ l ≠ x + 1 := by have := Blk.lt H.out.blk;omega
 have HLX := Lib.hid hlx
 have hlx1 := hlx.1
 clear hlx
 go_enter Tryz.func43,Tryz.ntmps43
 go_upto_region 1 with fail
 try rw [hwa,hx]
 have k5 : wa.cell? ⟨l,0,none⟩ = some (.slice A L.ops.length c) := Blk.cell HA.out.blk rfl
 rw [hnl] at k5
 have y0 : wa.cell? ⟨x,0,none⟩ = some _ := Blk.cell hbx rfl
 have y1 : wa.cell? ⟨x,1,none⟩ = some _ := Blk.cell hbx rfl
 have y2 : wa.cell? ⟨x,2,none⟩ = some _ := Blk.cell hbx rfl
 have y3 : wa.cell? ⟨x,3,none⟩ = some _ := Blk.cell hbx rfl
 have y4 : wa.cell? ⟨x,4,none⟩ = some _ := Blk.cell hbx rfl
 have y5 : wa.cell? ⟨x,5,none⟩ = some _ := Blk.cell hbx rfl
 have y6 : wa.cell? ⟨x,6,none⟩ = some _ := Blk.cell hbx rfl
 have y7 : wa.cell? ⟨x,7,none⟩ = some _ := Blk.cell hbx rfl
 have y8 : wa.cell? ⟨x,8,none⟩ = some _ := Blk.cell hbx rfl
 have f0 := Blk.fr hbx 0
 have f1 := Blk.fr hbx 1
 have f3 := Blk.fr hbx 3
 have hl2 : n ≤ 1000 := by omega
 clear hbx hbd hka hwa
 go_upto_region 4 with fail
 obtain ⟨wb,hwb⟩ : ∃ wb,((wa.setCell ⟨x,0,none⟩ (.int .i64 ((n : Int) + 1))).setCell ⟨x,1,none⟩ (.int .i64 ep)).setCell ⟨x,3,none⟩ (.int .i64 st) = wb := ⟨_,rfl⟩
 have hkab : Kp (· = x) wa wb := by rw [← hwb];exact (((Kp.refl (· = x) wa).setCell (p := ⟨x,0,none⟩) (fun _ => rfl) _).setCell (p := ⟨x,1,none⟩) (fun _ => rfl) _).setCell (p := ⟨x,3,none⟩) (fun _ => rfl) _
 have hkb : Kp No w wb := HKA.out.trans hkab (fun i hi e => absurd hi (by omega))
 have hbxb : Blk wb x 36 [.int .i64 ((n : Int) + 1),.int .i64 ep,.int .i64 ok,.int .i64 st,.int .i64 oc,.int .i64 oq,.string onm,.int .i64 osz,.slice Ah ohs.length ch] := by rw [← hwb];exact Blk.set (Blk.set (Blk.set HBX.out 0 (.int .i64 ((n : Int) + 1))) 1 (.int .i64 ep)) 3 (.int .i64 st)
 have hbdb : Blk wb (x + 1) 44 [.int .i64 0,.int .i64 0,.int .i64 0] := HBD.out.kept hkab (by omega)
 have HB := Lib.hid (H.out.keptNo hkb)
 have HKB := Lib.hid hkb
 have HHB := Lib.hid (Rp.str.slice.keptNo HH.out hkb)
 have HBXB := Lib.hid hbxb
 have HBDB := Lib.hid hbdb
 have hxw : x + 1 < wb.heap.size := Blk.lt hbdb
 have HXW := Lib.hid hxw
 rw [hwb]
 clear hkab hkb hbdb hwb HA HKA HBX HBD k5 y0 y1 y2 y3 y4 y5 y6 y7 y8 f0 f1 f3 hxw
 have k5 : wb.cell? ⟨l,0,none⟩ = some (.slice A L.ops.length c) := Blk.cell HB.out.blk rfl
 rw [hnl] at k5
 have y0 : wb.cell? ⟨x,0,none⟩ = some _ := Blk.cell hbxb rfl
 have y1 : wb.cell? ⟨x,1,none⟩ = some _ := Blk.cell hbxb rfl
 have y2 : wb.cell? ⟨x,2,none⟩ = some _ := Blk.cell hbxb rfl
 have y3 : wb.cell? ⟨x,3,none⟩ = some _ := Blk.cell hbxb rfl
 have y4 : wb.cell? ⟨x,4,none⟩ = some _ := Blk.cell hbxb rfl
 have y5 : wb.cell? ⟨x,5,none⟩ = some _ := Blk.cell hbxb rfl
 have y6 : wb.cell? ⟨x,6,none⟩ = some _ := Blk.cell hbxb rfl
 have y7 : wb.cell? ⟨x,7,none⟩ = some _ := Blk.cell hbxb rfl
 have y8 : wb.cell? ⟨x,8,none⟩ = some _ := Blk.cell hbxb rfl
 clear hbxb
 obtain ⟨o2,ho2⟩ : ∃ o2,(⟨(n : Int) + 1,ep,ok,st,oc,oq,onm,osz,ohs⟩ : OpL) = o2 := ⟨_,rfl⟩
 have HN2 : Hid o2.nums := Lib.hid (by rw [← ho2];have := HN.out;rw [hnl] at this;exact this)
 have HO2 := Lib.hid ho2
 clear ho2
 refine Reg.wp_region_plan [⟨0,false,[]⟩,⟨1,false,[]⟩,⟨2,false,[]⟩,⟨3,false,[]⟩,⟨4,false,[]⟩,⟨5,false,[]⟩,⟨6,true,[2,3,4]⟩,⟨7,true,[2,3,4]⟩,⟨8,true,[]⟩,⟨9,false,[]⟩,⟨10,false,[]⟩,⟨11,true,[]⟩] rfl (by kernel_rfl) ?_
 repeat (first | (refine Reg.look rfl rfl rfl (by go_simp;rfl) rfl ?_;go_simp) | (refine Reg.skip rfl rfl rfl ?_;go_simp))
 refine Reg.act rfl ?_
 go_wp2_with fail
 obtain ⟨w3,hw3⟩ : ∃ w3,(wb.alloc (.cells #[.int .i64 ((n : Int) + 1),.int .i64 ep,.int .i64 ok,.int .i64 st,.int .i64 oc,.int .i64 oq,.string onm,.int .i64 osz,.slice Ah ohs.length ch] 36)).drew = w3 := ⟨_,rfl⟩
 have hk3 : Kp No wb w3 := by rw [← hw3];exact ((Kp.refl _ _).alloc _).drew
 have hrd : Rp.opl.slice.R w3 (fun k => SA k ∨ k = wb.heap.size) [.slice (some ⟨wb.heap.size,0,none⟩) 1 1] [o2] := by
  rw [← hw3]
  have := opl_lit wb o2 (.slice Ah ohs.length ch) (fun k => SA k ∨ k = wb.heap.size) (.inr rfl) HN2.out (by rw [← HO2.out];exact Rp.str.slice.more HHB.out (fun _ h => .inl h))
  rw [← HO2.out] at this ⊢
  exact Rp.opl.slice.keptNo this ((Kp.refl _ _).drew)
 have hsz3 : wb.heap.size < w3.heap.size := by rw [← hw3];simp
 have hoh : o2.hashes.length ≤ 1000000 := by rw [← HO2.out];exact hll
 have k5c : w3.cell? ⟨l,0,none⟩ = some (.slice A n c) := (hk3.cell (lt_of_cell k5) (fun x => x)).trans k5
 have HRD := Lib.hid hrd
 have HK3 := Lib.hid hk3
 have HSZ3 := Lib.hid hsz3
 have HOH := Lib.hid hoh
 rw [hw3]
 clear hw3 hk3 hrd hsz3 hoh y0 y1 y2 y3 y4 y5 y6 y7 y8 k5
 (refine ⟨?anew,?_⟩;case anew => ((repeat (refine Reg.anew_cons rfl rfl (fun _ => by go_simp) ?_));exact Reg.anew_nil))
 refine Reg.act rfl ?_
 go_wp2_with fail
 refine (r_ownops [o2] (some ⟨wb.heap.size,0,none⟩) 1 w3 _ HRD.out (by simp) (by intro o ho;simp only [List.mem_cons,List.not_mem_nil,or_false] at ho;subst ho;exact HOH.out)).mono ?_
 rintro e w4 ⟨A1,c1,rfl,hown,hk4⟩
 have k5d : w4.cell? ⟨l,0,none⟩ = some (.slice A n c) := (hk4.cell (lt_of_cell k5c) (fun x => x)).trans k5c
 have HK4 := Lib.hid (HK3.out.trans' hk4)
 have h4 := HB.out.keptNo (HK3.out.trans' hk4)
 have hsrc : Rp.opl.slice.R w4 (fun k => w3.heap.size ≤ k ∧ k < w4.heap.size) [.slice A1 [o2].length c1] [o2] := Rp.opl.slice.more (Rp.opl.slice.bnd hown.readFrom) (fun k hk => ⟨by
  rcases hk.1 with h | h
  · exact h.1
  · exact h,hk.2⟩)
 have hol := h4.ops
 rw [hnl] at hol
 have hnew : ∀ k,(w3.heap.size ≤ k ∧ k < w4.heap.size) → k < w4.heap.size ∧ k ≠ l ∧ (Value.slice A L.ops.length c).ownBlock ≠ some k ∧ gv.ownBlock ≠ some k := by
  intro k hk
  have hlt := fun k => HB.out.lt (k := k)
  have h3 := HSZ3.out
  refine ⟨hk.2,fun h => ?_,fun h => ?_,fun h => ?_⟩
  · have := hlt k (.inl h);omega
  · have := hlt k (.inr (.inl h));omega
  · have := hlt k (.inr (.inr (.inl h)));omega
 have H4 := Lib.hid h4
 have HSRC := Lib.hid hsrc
 have HOL := Lib.hid hol
 have HNEW := Lib.hid hnew
 have HSO : Hid (∀ k,(Value.slice A n c).ownBlock = some k → ¬ (S k ∨ (w3.heap.size ≤ k ∧ k < w4.heap.size))) := Lib.hid (by
  rw [← hnl]
  rintro k hk (h | h)
  · exact h4.so k h hk
  · exact (hnew k h).2.2.1 hk)
 clear hown hk4 h4 hsrc hol hnew k5c HRD HOH
 go_wp2_with fail
 (refine ⟨?anew,?_⟩;case anew => ((repeat (refine Reg.anew_cons rfl rfl (fun _ => by go_simp) ?_));exact Reg.anew_nil))
 refine Reg.act rfl ?_
 refine wpList_append_rp (E := Rp.opl) rfl _ (.tmp 24) (.tmp 27) 37 rfl 0 36 96 el_op (fun k => S k ∨ (w3.heap.size ≤ k ∧ k < w4.heap.size)) (.slice A n c) L.ops rfl ?d0 A1 c1 (fun k => w3.heap.size ≤ k ∧ k < w4.heap.size) [o2] rfl HSRC.out Rp.opl_one ?d1 ?d2 (Nat.zero_le _) (fun _ h => .inr h) ?d3 ?_
 case d0 => exact HOL.out.mono (Nat.le_refl _) (fun _ h => .inl h)
 case d1 => simp [maxLen];omega
 case d2 => simp;omega
 case d3 => exact HSO.out
 intro v5 w5 hown5 hg5 hb5
 obtain ⟨A5,c5,rfl⟩ := hown5.shape
 have hk5 : Kp (fun k => (Value.slice A n c).ownBlock = some k) w4 w5 := (Kp.refl _ _).grown hg5 (fun g hg _ => hg)
 rw [← hnl] at hg5 hb5 hk5
 have hb5l := H4.out.blk.kept hk5 (fun e => H4.out.ol e)
 have k5e := Blk.cell hb5l (i := 0) rfl
 have f5e := Blk.fr hb5l 0
 obtain ⟨h6,hk6⟩ := H4.out.grown HNEW.out hown5 hg5 hb5
 have hlen : (L.ops ++ [o2]).length = n + 1 := by rw [List.length_append,hnl];rfl
 rw [hlen] at h6 hk6
 have H6 := Lib.hid h6
 have HK6 : Hid (Kp (fun k => k = l ∨ (Value.slice A L.ops.length c).ownBlock = some k) w _) := Lib.hid ((HKB.out.trans' HK4.out).any.trans' hk6)
 have HW3 : Hid (w.heap.size ≤ w3.heap.size) := Lib.hid (by have h1 := HKB.out.size;have h2 := HSZ3.out;omega)
 have HW3b : Hid (wb.heap.size ≤ w3.heap.size) := Lib.hid (by have h2 := HSZ3.out;omega)
 have HB5 : Hid (∀ k,(Value.slice A5 (n + 1) c5).ownBlock = some k → (Value.slice A L.ops.length c).ownBlock = some k ∨ w.heap.size ≤ k) := Lib.hid (by
  intro k hk
  rw [hlen] at hb5
  rcases hb5 with h | h
  · exact .inl (h ▸ hk)
  · rw [h] at hk
    injection hk with hk
    have := (HKB.out.trans' HK4.out).size
    exact .inr (by omega))
 have HK5 := Lib.hid hk5
 rw [hlen]
 clear h6 hk6 hown5 hg5 hb5 hk5 hb5l HSRC HOL HNEW HSO k5d HK3 HSZ3 HB
 go_wp2_with fail
 (refine ⟨?anew,?_⟩;case anew => ((repeat (refine Reg.anew_cons rfl rfl (fun _ => by go_simp) ?_));exact Reg.anew_nil))
 repeat (first | (refine Reg.look rfl rfl rfl (by go_simp;rfl) rfl ?_;go_simp) | (refine Reg.skip rfl rfl rfl ?_;go_simp))
 refine Reg.act rfl ?_
 go_wp2_with fail
 (refine ⟨?anew,?_⟩;case anew => ((repeat (refine Reg.anew_cons rfl rfl (fun _ => by go_simp) ?_));exact Reg.anew_nil))
 repeat (first | (refine Reg.look rfl rfl rfl (by go_simp;rfl) rfl ?_;go_simp) | (refine Reg.skip rfl rfl rfl ?_;go_simp))
 (refine Reg.done ?_;simp only [Exit.then])
 obtain ⟨w6,hw6⟩ : ∃ w6,w5.setCell ⟨l,0,none⟩ (.slice A5 (n + 1) c5) = w6 := ⟨_,rfl⟩
 rw [hw6] at H6 HK6
 rw [hw6]
 have HX6 : Hid (Blk w6 x 36 [.int .i64 ((n : Int) + 1),.int .i64 ep,.int .i64 ok,.int .i64 st,.int .i64 oc,.int .i64 oq,.string onm,.int .i64 osz,.slice Ah ohs.length ch]) := Lib.hid (by
  have h4 := HBXB.out.kept HK4.out (fun x => x)
  have h5 := h4.kept HK5.out (fun e => by have := H.out.lt (k := x) (.inr (.inl e));omega)
  rw [← hw6]
  exact h5.kept ((Kp.refl (· = l) w5).setCell (p := ⟨l,0,none⟩) (fun _ => rfl) _) (fun e => hlx1 e.symm))
 have HD6 : Hid (Blk w6 (x + 1) 44 [.int .i64 0,.int .i64 0,.int .i64 0]) := Lib.hid (by
  have h4 := HBDB.out.kept HK4.out (fun x => x)
  have h5 := h4.kept HK5.out (fun e => by have := H.out.lt (k := x + 1) (.inr (.inl e));omega)
  rw [← hw6]
  exact h5.kept ((Kp.refl (· = l) w5).setCell (p := ⟨l,0,none⟩) (fun _ => rfl) _) (fun e => HLX.out.2 e.symm))
 clear hw6 k5e f5e HK5
 have hd9 := HD6.out
 have g0 := Blk.fr hd9 0
 have g1 := Blk.fr hd9 1
 have g2 := Blk.fr hd9 2
 have u0 : w6.cell? ⟨x + 1,0,none⟩ = some _ := Blk.cell hd9 rfl
 have u1 : w6.cell? ⟨x + 1,1,none⟩ = some _ := Blk.cell hd9 rfl
 have u2 : w6.cell? ⟨x + 1,2,none⟩ = some _ := Blk.cell hd9 rfl
 have y0 : w6.cell? ⟨x,0,none⟩ = some _ := Blk.cell HX6.out rfl
 clear hd9
 go_wp2_with fail
 obtain ⟨wf,hwf⟩ : ∃ wf,((w6.setCell ⟨x + 1,0,none⟩ (.int .i64 0)).setCell ⟨x + 1,1,none⟩ (.int .i64 ((n : Int) + 1))).setCell ⟨x + 1,2,none⟩ (.int .i64 ep) = wf := ⟨_,rfl⟩
 have hkf : Kp (· = x + 1) w6 wf := by rw [← hwf];exact (((Kp.refl (· = x + 1) w6).setCell (p := ⟨x + 1,0,none⟩) (fun _ => rfl) _).setCell (p := ⟨x + 1,1,none⟩) (fun _ => rfl) _).setCell (p := ⟨x + 1,2,none⟩) (fun _ => rfl) _
 have hbf : Blk wf (x + 1) 44 [.int .i64 0,.int .i64 ((n : Int) + 1),.int .i64 ep] := by rw [← hwf];exact Blk.set (Blk.set (Blk.set HD6.out 0 (.int .i64 0)) 1 (.int .i64 ((n : Int) + 1))) 2 (.int .i64 ep)
 rw [hwf]
 have hputv : doneV (putL ⟨on,oe,ok,os,oc,oq,onm,osz,ohs⟩ ep st L).1 = .agg #[.int .i64 0,.int .i64 ((n : Int) + 1),.int .i64 ep] := by
  show Value.agg #[.int .i64 0,.int .i64 ((L.ops.length : Int) + 1),.int .i64 ep] = _
  rw [hnl]
 have hput2 : (putL ⟨on,oe,ok,os,oc,oq,onm,osz,ohs⟩ ep st L).2 = { L with ops := L.ops ++ [o2] } := by
  rw [← HO2.out,← hnl];rfl
 rw [hputv,hput2]
 have hfoot : ∀ k,RLFoot l (.slice A5 (n + 1) c5) gv (fun k => S k ∨ w3.heap.size ≤ k ∧ k < w4.heap.size) k → k ≠ x + 1 := by
  have hlt := fun k => H.out.lt (k := k)
  rintro k (hk | hk | hk | hk | hk) e
  · have := hlt k (.inl hk);omega
  · obtain ⟨cs,h1⟩ := H6.out.ops.block hk
    have h2 := HD6.out
    unfold Blk at h2
    rw [e,h2] at h1
    injection h1 with h1
    injection h1 with _ h1
    exact absurd h1 (by decide)
  · have := hlt k (.inr (.inr (.inl hk)));omega
  · have := hlt k (.inr (.inr (.inr hk)));omega
  · have h1 := HXW.out
    have h2 := HW3b.out
    omega
 have hfin : RLIn wf l (.slice A5 (n + 1) c5) gv _ { L with ops := L.ops ++ [o2] } := H6.out.kept hkf hfoot
 have hkw : Kp (RLCore l (.slice A L.ops.length c) gv) w wf := (HK6.out.mono (fun k _ e => by
  rcases e with e | e
  · exact .inl e
  · exact .inr (.inl e))).trans hkf (fun i hi e => absurd hi (by omega))
 have hupd : UpdS (RLCore l (.slice A L.ops.length c) gv) S w wf (RLCore l (.slice A5 (n + 1) c5) gv) (fun k => S k ∨ w3.heap.size ≤ k ∧ k < w4.heap.size) := ⟨hkw,by
  rintro k (hk | hk | hk)
  · exact .inl (.inl hk)
  · rcases HB5.out k hk with h | h
    · exact .inl (.inr (.inl h))
    · exact .inr h
  · exact .inl (.inr (.inr hk)),fun k hk => by
  rcases hk with hk | hk
  · exact .inl (.inl hk)
  · exact .inr (Nat.le_trans HW3.out hk.1),fun k hk => .inl hk⟩
 clear hwf u0 u1 u2 g0 g1 g2 hputv hput2 hfoot y0 HX6 HD6 HK6 hkw hkf HB5 HW3 HW3b HXW
 exact bodyPost_ret (results_cell_row rfl _ _ (x + 1) _ _ _ _ rfl hbf Tryz.underlying44 rfl (by kernel_rfl)) rfl ⟨rfl,_,_,hfin,hupd⟩
end Go.Proofs.YtjlbacfedfkilaaGreat
