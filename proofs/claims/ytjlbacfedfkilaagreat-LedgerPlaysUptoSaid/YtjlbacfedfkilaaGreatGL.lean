/-
  Put together: WSet, RlA, RlB, RlC, RlD.
-/
import Derived.Test.YtjlbacfedfkilaaGreatGB
import Derived.Test.YtjlbacfedfkilaaGreatGK
import Derived.Test.YtjlbacfedfkilaaGreatGI
import Derived.Test.YtjlbacfedfkilaaGreatLedQ
import Derived.Test.YtjlbacfedfkilaaGreatGH
import Derived.Test.YtjlbacfedfkilaaGreatRegT
namespace Go.Proofs.YtjlbacfedfkilaaGreat
section
open Go.RowKit Go.ChangeShapes Go.WideShapes Go.ChangeAt
def wset (w : World) (g o : Nat) : List Value → World
 | [] => w
 | v :: vs => wset (w.setCell ⟨g,o,none⟩ v) g (o + 1) vs
def lset (cs : List Value) (o : Nat) : List Value → List Value
 | [] => cs
 | v :: vs => lset (cs.set o v) (o + 1) vs
theorem wset_blk {g : Nat} {T : TypeId} : ∀ {vs : List Value} {w : World} {cs : List Value} {o : Nat},Blk w g T cs → Blk (wset w g o vs) g T (lset cs o vs)
 | [],_,_,_,h => h
 | v :: vs,_,_,o,h => wset_blk (vs := vs) (Blk.set h o v)
theorem wset_kp {g : Nat} : ∀ {vs : List Value} {w : World} {o : Nat},Kp (· = g) w (wset w g o vs)
 | [],_,_ => Kp.refl _ _
 | v :: vs,w,o => ((Kp.refl (· = g) w).setCell (p := ⟨g,o,none⟩) (fun _ => rfl) v).trans' (wset_kp (vs := vs))
end
section
open Go.RowKit Go.ChangeShapes Go.WideShapes Go.ChangeAt
structure RLIn (w : World) (l : Nat) (ov gv : Value) (S : Nat → Prop) (L : LV) : Prop where
 blk : Blk w l 92 [ov,gv,.int .i64 L.fence,.int .i64 L.settled,.int .i64 L.quota,.int .i64 L.room]
 ops : Own Rp.opl w S 0 36 ov L.ops
 gone : Own Rp.opl w No 0 36 gv L.lost
 ol : ov.ownBlock ≠ some l
 gl : gv.ownBlock ≠ some l
 og : ∀ k,ov.ownBlock = some k → gv.ownBlock ≠ some k
 sl : ¬ S l
 so : ∀ k,S k → ov.ownBlock ≠ some k
 sg : ∀ k,S k → gv.ownBlock ≠ some k
 hi : ∀ k,S k → k < w.heap.size
def RLFoot (l : Nat) (ov gv : Value) (S : Nat → Prop) (k : Nat) : Prop := k = l ∨ ov.ownBlock = some k ∨ gv.ownBlock = some k ∨ S k
def RLCore (l : Nat) (ov gv : Value) (k : Nat) : Prop := k = l ∨ ov.ownBlock = some k ∨ gv.ownBlock = some k
def RLAt (w : World) (l : Nat) (L : LV) (F S : Nat → Prop) : Prop := ∃ ov gv,RLIn w l ov gv S L ∧ ∀ k,F k ↔ RLCore l ov gv k
theorem RLFoot.split {l : Nat} {ov gv : Value} {S : Nat → Prop} {k : Nat} (h : RLFoot l ov gv S k) : RLCore l ov gv k ∨ S k := by
 rcases h with h | h | h | h
 · exact .inl (.inl h)
 · exact .inl (.inr (.inl h))
 · exact .inl (.inr (.inr h))
 · exact .inr h
theorem RLCore.foot {l : Nat} {ov gv : Value} {S : Nat → Prop} {k : Nat} (h : RLCore l ov gv k) : RLFoot l ov gv S k := by
 rcases h with h | h | h
 · exact .inl h
 · exact .inr (.inl h)
 · exact .inr (.inr (.inl h))
structure UpdS (F S : Nat → Prop) (w w' : World) (F' S' : Nat → Prop) : Prop where
 kp : Kp F w w'
 foot : ∀ k,F' k → F k ∨ w.heap.size ≤ k
 sfoot : ∀ k,S' k → (S k ∨ F k) ∨ w.heap.size ≤ k
 more : ∀ k,S k → S' k
theorem UpdS.none {F S : Nat → Prop} {w w' : World} (h : Kp F w w') : UpdS F S w w' F S := ⟨h,fun _ h => .inl h,fun _ h => .inl (.inl h),fun _ h => h⟩
theorem UpdS.trans {F S F1 S1 F2 S2 : Nat → Prop} {a b c : World} (h : UpdS F S a b F1 S1) (k : UpdS F1 S1 b c F2 S2) : UpdS F S a c F2 S2 :=
 ⟨h.kp.trans k.kp (fun i hi e => (h.foot i e).elim id (fun h2 => absurd hi (by omega))),fun i hi => by
  rcases k.foot i hi with h1 | h1
  · exact h.foot i h1
  · have := h.kp.size;exact .inr (by omega),fun i hi => by
  rcases k.sfoot i hi with (h1 | h1) | h1
  · exact h.sfoot i h1
  · exact (h.foot i h1).imp .inr id
  · have := h.kp.size;exact .inr (by omega),fun i hi => k.more i (h.more i hi)⟩
namespace RLIn
variable {w w' : World} {l : Nat} {ov gv : Value} {S T : Nat → Prop} {L : LV}
theorem kept (h : RLIn w l ov gv S L) (hk : Kp T w w') (hT : ∀ k,RLFoot l ov gv S k → ¬ T k) : RLIn w' l ov gv S L :=
 ⟨h.blk.kept hk (hT l (.inl rfl)),h.ops.kept hk (fun k hs _ => hT k (.inr (.inr (.inr hs)))) (fun k hv => hT k (.inr (.inl hv))),h.gone.kept hk (fun _ hs _ => hs.elim) (fun k hv => hT k (.inr (.inr (.inl hv)))),h.ol,h.gl,h.og,h.sl,h.so,h.sg,fun k hs => Nat.lt_of_lt_of_le (h.hi k hs) hk.size⟩
theorem keptNo (h : RLIn w l ov gv S L) (hk : Kp No w w') : RLIn w' l ov gv S L := h.kept hk (fun _ _ z => z)
theorem lt (h : RLIn w l ov gv S L) {k : Nat} (hk : RLFoot l ov gv S k) : k < w.heap.size := by
 rcases hk with rfl | hk | hk | hk
 · exact Blk.lt h.blk
 · exact (h.ops.lt k hk).2
 · exact (h.gone.lt k hk).2
 · exact h.hi k hk
end RLIn
namespace RLAt
variable {w w' : World} {l : Nat} {L : LV} {F S T : Nat → Prop}
theorem kept (h : RLAt w l L F S) (hk : Kp T w w') (hT : ∀ k,F k ∨ S k → ¬ T k) : RLAt w' l L F S := by
 obtain ⟨ov,gv,h1,h2⟩ := h
 exact ⟨ov,gv,h1.kept hk (fun k hf => hT k (hf.split.imp (h2 k).2 id)),h2⟩
theorem keptNo (h : RLAt w l L F S) (hk : Kp No w w') : RLAt w' l L F S := h.kept hk (fun _ _ x => x)
theorem lt (h : RLAt w l L F S) {k : Nat} (hk : F k ∨ S k) : k < w.heap.size := by
 obtain ⟨ov,gv,h1,h2⟩ := h
 exact h1.lt (hk.elim (fun h => ((h2 k).1 h).foot) (fun h => .inr (.inr (.inr h))))
theorem apart (h : RLAt w l L F S) {k : Nat} (hf : F k) (hs : S k) : False := by
 obtain ⟨ov,gv,h1,h2⟩ := h
 rcases (h2 k).1 hf with h | h | h
 · exact h1.sl (h ▸ hs)
 · exact h1.so k hs h
 · exact h1.sg k hs h
end RLAt
set_option maxRecDepth 100000 in
theorem r_lnew (q r : Int) (w : World) (h : newP q r) : Calls Tryz.prog 8 #[.int .i64 q,.int .i64 r] w fun x w' => ∃ l F,x = .returned (.tuple #[.pointer (some ⟨l,0,none⟩),.int .i64 0]) ∧ RLAt w' l (newL q r) F No ∧ (∀ k,F k → w.heap.size ≤ k) ∧ Kp No w w' := by
 obtain ⟨h1,h2,h3,h4⟩ := h
 obtain ⟨w1,hw1⟩ : ∃ v,w.alloc (.cells #[.slice none 0 0,.slice none 0 0,.int .i64 0,.int .i64 0,.int .i64 q,.int .i64 r] 92) = v := ⟨_,rfl⟩
 have hk1 : Kp No w w1 := by rw [← hw1];exact (Kp.refl _ _).alloc _
 have hb1 : Blk w1 w.heap.size 92 [.slice none 0 0,.slice none 0 0,.int .i64 0,.int .i64 0,.int .i64 q,.int .i64 r] := by rw [← hw1];exact Blk.new w _ _
 have HK := Lib.hid hk1
 have HB := Lib.hid hb1
 clear hk1 hb1
 go_enter Tryz.func8,Tryz.ntmps8
 go_wp2_with fail
 try rw [hw1]
 go_ret2
 refine ⟨w.heap.size,RLCore w.heap.size (.slice none 0 0) (.slice none 0 0),rfl,⟨_,_,⟨HB.out,Own.nil _ _ _ _ _,Own.nil _ _ _ _ _,by simp [Value.ownBlock],by simp [Value.ownBlock],fun _ hk => by simp [Value.ownBlock] at hk,fun h => h,fun k h => h.elim,fun k h => h.elim,fun k h => h.elim⟩,fun k => Iff.rfl⟩,fun k hk => ?_,HK.out⟩
 rcases hk with rfl | h | h
 · exact Nat.le_refl _
 · simp [Value.ownBlock] at h
 · simp [Value.ownBlock] at h
set_option maxRecDepth 100000 in
theorem r_lnew_bad (q r : Int) (w : World) (h : ¬ newP q r) : Calls Tryz.prog 8 #[.int .i64 q,.int .i64 r] w fun x w' => x = .returned (.tuple #[.pointer none,.int .i64 1]) ∧ w' = w := by
 by_cases h1 : q < 1
 · go_enter Tryz.func8,Tryz.ntmps8
   go_wp2_with fail
   go_ret2
   exact ⟨rfl,rfl⟩
 by_cases h2 : 65536 < q
 · go_enter Tryz.func8,Tryz.ntmps8
   go_wp2_with fail
   go_ret2
   exact ⟨rfl,rfl⟩
 by_cases h3 : r < 1
 · go_enter Tryz.func8,Tryz.ntmps8
   go_wp2_with fail
   go_ret2
   exact ⟨rfl,rfl⟩
 have h4 : 64 < r := by
  unfold newP at h
  omega
 clear h
 go_enter Tryz.func8,Tryz.ntmps8
 go_wp2_with fail
 go_ret2
 exact ⟨rfl,rfl⟩
theorem live_one (l : List OpL) (o : OpL) (nm : ByteArray) (hk : o.kind = 1 ∨ o.kind = 2 ∨ o.kind = 3) (hn : (((FV.fresh.take l).live).map (·.1)).Nodup) : mget nm (FV.fresh.take (l ++ [o])).live = if o.kind = 3 ∨ o.name ≠ nm then mget nm (FV.fresh.take l).live else if o.kind = 1 then some (o.size,o.hashes) else none := by
 rw [FV.take_snoc]
 unfold FV.take1
 rcases hk with h | h | h
 · rw [if_neg (by omega)]
   simp only
   rw [if_pos h,mget_put]
   by_cases e : o.name = nm
   · rw [if_pos e.symm,if_neg (by rintro (h2 | h2);omega;exact h2 e),if_pos h]
   · rw [if_neg (fun e2 => e e2.symm),if_pos (.inr e),mget_del _ _ _ hn,if_neg (fun e2 => e e2.symm)]
 · rw [if_neg (by omega)]
   simp only
   rw [if_neg (by omega),mget_del _ _ _ hn]
   by_cases e : o.name = nm
   · rw [if_pos e.symm,if_neg (by rintro (h2 | h2);omega;exact h2 e),if_neg (by omega)]
   · rw [if_neg (fun e2 => e e2.symm),if_pos (.inr e)]
 · rw [if_pos h,if_pos (.inl h)]
end
section
open Go.RowKit Go.ChangeShapes Go.WideShapes Go.ChangeAt
theorem run_store_op9 (w : World) (g : Nat) (x : OpL) (A : Option Addr) (n c : Nat) (cs : List Value) (h : Blk w g 36 cs) (hl : cs.length = 9) :
 (Instr.storeAt 36 (.pointer (some ⟨g,0,none⟩)) (opV x (.slice A n c))).run Tryz.prog w = .ok () (wset w g 0 (x.cells (.slice A n c))) := by
 match cs,hl with
 | [u0,u1,u2,u3,u4,u5,u6,u7,u8],_ =>
   have h0 : w.cell? ⟨g,0,none⟩ = some _ := Blk.cell h rfl
   have h1 : w.cell? ⟨g,1,none⟩ = some _ := Blk.cell h rfl
   have h2 : w.cell? ⟨g,2,none⟩ = some _ := Blk.cell h rfl
   have h3 : w.cell? ⟨g,3,none⟩ = some _ := Blk.cell h rfl
   have h4 : w.cell? ⟨g,4,none⟩ = some _ := Blk.cell h rfl
   have h5 : w.cell? ⟨g,5,none⟩ = some _ := Blk.cell h rfl
   have h6 : w.cell? ⟨g,6,none⟩ = some _ := Blk.cell h rfl
   have h7 : w.cell? ⟨g,7,none⟩ = some _ := Blk.cell h rfl
   have h8 : w.cell? ⟨g,8,none⟩ = some _ := Blk.cell h rfl
   have hf := Blk.fr h
   clear h
   unfold opV
   go_simp
   rfl
theorem store_op9 {w : World} {g : Nat} (x : OpL) (A : Option Addr) (n c : Nat) {cs : List Value} (h : Blk w g 36 cs) (hl : cs.length = 9) :
 ∃ w',(Instr.storeAt 36 (.pointer (some ⟨g,0,none⟩)) (opV x (.slice A n c))).run Tryz.prog w = .ok () w' ∧ Blk w' g 36 (x.cells (.slice A n c)) ∧ Kp (· = g) w w' := by
 refine ⟨_,run_store_op9 w g x A n c cs h hl,?_,wset_kp⟩
 have := wset_blk (vs := x.cells (.slice A n c)) (o := 0) h
 match cs,hl with
 | [u0,u1,u2,u3,u4,u5,u6,u7,u8],_ => exact this
set_option maxRecDepth 100000 in
set_option maxHeartbeats 8000000 in
theorem r_llast (l : Nat) (L : LV) (F S : Nat → Prop) (w : World) (h : RLAt w l L F S) (hl : L.ops.length ≤ 1000000) :
 Calls Tryz.prog 44 #[.pointer (some ⟨l,0,none⟩)] w fun x w' => x = .returned (.agg #[.int .i64 (lastL L).1,.int .i64 (lastL L).2]) ∧ Kp No w w' := by
 obtain ⟨ov,gv,hin,_⟩ := h
 obtain ⟨A,c,rfl⟩ := hin.ops.shape
 obtain ⟨x,hx⟩ : ∃ x,w.heap.size = x := ⟨_,rfl⟩
 obtain ⟨wa,hwa⟩ : ∃ wa,w.alloc (.cells #[.int .i64 0,.int .i64 0] 42) = wa := ⟨_,rfl⟩
 have hk : Kp No w wa := by rw [← hwa];exact (Kp.refl _ _).alloc _
 have hb : Blk wa x 42 [.int .i64 0,.int .i64 0] := by rw [← hwa,← hx];exact Blk.new w _ _
 have hi := hin.keptNo hk
 have HBL := Lib.hid hi.blk
 have HO := Lib.hid hi.ops
 have HB := Lib.hid hb
 have HK := Lib.hid hk
 have HX : Hid (w.heap.size ≤ x) := Lib.hid (Nat.le_of_eq hx)
 obtain ⟨⟨p,q⟩,hp⟩ : ∃ p,lastL L = p := ⟨_,rfl⟩
 rw [hp]
 have HP := Lib.hid hp
 clear hp hi hk hin
 rcases Nat.eq_zero_or_pos L.ops.length with h0 | h0
 · have hz := List.eq_nil_of_length_eq_zero h0
   have hpq := HP.out
   unfold lastL at hpq
   rw [hz] at hpq
   simp only [List.getLast?_nil,Prod.mk.injEq] at hpq
   obtain ⟨rfl,rfl⟩ := hpq
   rw [h0] at HBL
   have k0 : wa.cell? ⟨l,0,none⟩ = some _ := Blk.cell HBL.out rfl
   have g0 := Blk.fr hb 0
   have g1 := Blk.fr hb 1
   have u0 : wa.cell? ⟨x,0,none⟩ = some _ := Blk.cell hb rfl
   have u1 : wa.cell? ⟨x,1,none⟩ = some _ := Blk.cell hb rfl
   clear h0 hz hb HP HO
   go_enter Tryz.func44,Tryz.ntmps44
   go_wp2_with fail
   have hbf : Blk ((wa.setCell ⟨x,0,none⟩ (.int .i64 0)).setCell ⟨x,1,none⟩ (.int .i64 0)) x 42 [.int .i64 0,.int .i64 0] := Blk.set (Blk.set HB.out 0 (.int .i64 0)) 1 (.int .i64 0)
   have hkf : Kp No w ((wa.setCell ⟨x,0,none⟩ (.int .i64 0)).setCell ⟨x,1,none⟩ (.int .i64 0)) := HK.out.trans (((Kp.refl (· = x) wa).setCell (p := ⟨x,0,none⟩) (fun _ => rfl) _).setCell (p := ⟨x,1,none⟩) (fun _ => rfl) _) (fun i hi e => by have := HX.out;omega)
   exact bodyPost_ret (results_cell_row rfl _ _ x _ _ _ _ rfl hbf Tryz.underlying42 rfl (by kernel_rfl)) rfl ⟨rfl,hkf⟩
 · obtain ⟨n,hn⟩ : ∃ n,L.ops.length = n + 1 := ⟨L.ops.length - 1,by omega⟩
   obtain ⟨o,ho⟩ : ∃ o,L.ops[n]? = some o := ⟨_,List.getElem?_eq_getElem (by omega)⟩
   have hpq := HP.out
   unfold lastL at hpq
   rw [List.getLast?_eq_getElem?,hn,show n + 1 - 1 = n from rfl,ho] at hpq
   simp only [Prod.mk.injEq] at hpq
   obtain ⟨rfl,rfl⟩ := hpq
   obtain ⟨g,A',c',rfl,hgl,_,hcell,_,_,_⟩ := Own.at_opl HO.out ho
   have hglt : g < wa.heap.size := lt_of_cell (p := ⟨g,n * 9 + 0,none⟩) (hcell 0 _ rfl)
   have HCE := Lib.hid (fun w' (hk' : Kp No wa w') (j : Nat) u (hu : (o.cells (.slice A' o.hashes.length c'))[j]? = some u) => (hk'.cell (p := ⟨g,n * 9 + j,none⟩) hglt (fun z => z)).trans (hcell j u hu))
   rw [hn] at HBL
   have hn6 : n ≤ 1000000 := by omega
   have hwn : IntKind.i64.wrap (n : Int) = (n : Int) := by rw [IntKind.wrap_i64];omega
   have hnlt : (n : Int) < (n : Int) + 1 := by omega
   clear ho hcell h0 hn hb HP hl hgl hglt
   have k0 : wa.cell? ⟨l,0,none⟩ = some _ := Blk.cell (HBL.out.kept (Kp.refl No wa) (fun h => h)) rfl
   have z0 : wa.cell? ⟨g,n * 9,none⟩ = some _ := HCE.out wa (Kp.refl No wa) 0 _ rfl
   have z1 : wa.cell? ⟨g,n * 9 + 1,none⟩ = some _ := HCE.out wa (Kp.refl No wa) 1 _ rfl
   have z2 : wa.cell? ⟨g,n * 9 + 2,none⟩ = some _ := HCE.out wa (Kp.refl No wa) 2 _ rfl
   have z3 : wa.cell? ⟨g,n * 9 + 3,none⟩ = some _ := HCE.out wa (Kp.refl No wa) 3 _ rfl
   have z4 : wa.cell? ⟨g,n * 9 + 4,none⟩ = some _ := HCE.out wa (Kp.refl No wa) 4 _ rfl
   have z5 : wa.cell? ⟨g,n * 9 + 5,none⟩ = some _ := HCE.out wa (Kp.refl No wa) 5 _ rfl
   have z6 : wa.cell? ⟨g,n * 9 + 6,none⟩ = some _ := HCE.out wa (Kp.refl No wa) 6 _ rfl
   have z7 : wa.cell? ⟨g,n * 9 + 7,none⟩ = some _ := HCE.out wa (Kp.refl No wa) 7 _ rfl
   have z8 : wa.cell? ⟨g,n * 9 + 8,none⟩ = some _ := HCE.out wa (Kp.refl No wa) 8 _ rfl
   go_enter Tryz.func44,Tryz.ntmps44
   go_upto_region 3 with fail
   clear k0 z0 z1 z2 z3 z4 z5 z6 z7 z8
   try rw [hwa]
   try rw [hx]
   clear hwa hx
   obtain ⟨wd,hwd⟩ : ∃ v,wa.drew = v := ⟨_,rfl⟩
   have HKD : Hid (Kp No wa wd) := Lib.hid (by rw [← hwd];exact (Kp.refl _ _).drew)
   have k0 : wd.cell? ⟨l,0,none⟩ = some _ := Blk.cell (HBL.out.kept HKD.out (fun h => h)) rfl
   have z0 : wd.cell? ⟨g,n * 9,none⟩ = some _ := HCE.out wd HKD.out 0 _ rfl
   have z1 : wd.cell? ⟨g,n * 9 + 1,none⟩ = some _ := HCE.out wd HKD.out 1 _ rfl
   have z2 : wd.cell? ⟨g,n * 9 + 2,none⟩ = some _ := HCE.out wd HKD.out 2 _ rfl
   have z3 : wd.cell? ⟨g,n * 9 + 3,none⟩ = some _ := HCE.out wd HKD.out 3 _ rfl
   have z4 : wd.cell? ⟨g,n * 9 + 4,none⟩ = some _ := HCE.out wd HKD.out 4 _ rfl
   have z5 : wd.cell? ⟨g,n * 9 + 5,none⟩ = some _ := HCE.out wd HKD.out 5 _ rfl
   have z6 : wd.cell? ⟨g,n * 9 + 6,none⟩ = some _ := HCE.out wd HKD.out 6 _ rfl
   have z7 : wd.cell? ⟨g,n * 9 + 7,none⟩ = some _ := HCE.out wd HKD.out 7 _ rfl
   have z8 : wd.cell? ⟨g,n * 9 + 8,none⟩ = some _ := HCE.out wd HKD.out 8 _ rfl
   refine Reg.wp_region_plan [⟨0,false,[]⟩,⟨1,false,[]⟩,⟨2,false,[]⟩,⟨3,false,[]⟩,⟨4,false,[]⟩,⟨5,false,[]⟩,⟨6,false,[]⟩,⟨7,false,[]⟩,⟨8,false,[]⟩,⟨9,false,[]⟩,⟨10,false,[]⟩,⟨11,false,[]⟩,⟨12,true,[1,2,3,5,6,7,8,9,10,11]⟩,⟨13,true,[]⟩] rfl (by kernel_rfl) ?_
   rw [hwd]
   clear hwd
   repeat (first | (refine Reg.look rfl rfl rfl (by go_simp;rfl) rfl ?_;go_simp) | (refine Reg.skip rfl rfl rfl ?_;go_simp))
   refine Reg.act rfl ?_
   obtain ⟨y,hy⟩ : ∃ v,wd.heap.size = v := ⟨_,rfl⟩
   obtain ⟨w3,hw3⟩ : ∃ v,wd.alloc (.cells #[.int .i64 0,.int .i64 0,.int .i64 0,.int .i64 0,.int .i64 0,.int .i64 0,.string { data := #[] },.int .i64 0,.slice none 0 0] 36) = v := ⟨_,rfl⟩
   have hk3 : Kp No wd w3 := by rw [← hw3];exact (Kp.refl _ _).alloc _
   have hb3 : Blk w3 y 36 [.int .i64 0,.int .i64 0,.int .i64 0,.int .i64 0,.int .i64 0,.int .i64 0,.string { data := #[] },.int .i64 0,.slice none 0 0] := by rw [← hw3,← hy];exact Blk.new _ _ _
   have HK3 := Lib.hid (HKD.out.trans' hk3)
   have HYW : Hid (wa.heap.size ≤ y) := Lib.hid (by rw [← hy];exact HKD.out.size)
   obtain ⟨w4,hst,hb4,hk4⟩ := store_op9 o A' o.hashes.length c' hb3 rfl
   have HST := Lib.hid hst
   have HB4 := Lib.hid hb4
   have HK4 := Lib.hid hk4
   unfold opV at HST
   clear k0 z0 z1 z2 z3 z4 z5 z6 z7 z8
   clear hk3 hb3 hst hb4 hk4
   go_wp2_with fail
   try rw [hw3]
   try rw [hy]
   clear hw3 hy
   have k0 : w3.cell? ⟨l,0,none⟩ = some _ := Blk.cell (HBL.out.kept HK3.out (fun h => h)) rfl
   have z0 : w3.cell? ⟨g,n * 9,none⟩ = some _ := HCE.out w3 HK3.out 0 _ rfl
   have z1 : w3.cell? ⟨g,n * 9 + 1,none⟩ = some _ := HCE.out w3 HK3.out 1 _ rfl
   have z2 : w3.cell? ⟨g,n * 9 + 2,none⟩ = some _ := HCE.out w3 HK3.out 2 _ rfl
   have z3 : w3.cell? ⟨g,n * 9 + 3,none⟩ = some _ := HCE.out w3 HK3.out 3 _ rfl
   have z4 : w3.cell? ⟨g,n * 9 + 4,none⟩ = some _ := HCE.out w3 HK3.out 4 _ rfl
   have z5 : w3.cell? ⟨g,n * 9 + 5,none⟩ = some _ := HCE.out w3 HK3.out 5 _ rfl
   have z6 : w3.cell? ⟨g,n * 9 + 6,none⟩ = some _ := HCE.out w3 HK3.out 6 _ rfl
   have z7 : w3.cell? ⟨g,n * 9 + 7,none⟩ = some _ := HCE.out w3 HK3.out 7 _ rfl
   have z8 : w3.cell? ⟨g,n * 9 + 8,none⟩ = some _ := HCE.out w3 HK3.out 8 _ rfl
   (refine ⟨?anew,?_⟩;case anew => ((repeat (refine Reg.anew_cons rfl rfl (fun _ => by go_simp) ?_));exact Reg.anew_nil))
   repeat (first | (refine Reg.look rfl rfl rfl (by go_simp;rfl) rfl ?_;go_simp) | (refine Reg.skip rfl rfl rfl ?_;go_simp))
   refine Reg.act rfl ?_
   clear k0 z0 z1 z2 z3 z4 z5 z6 z7 z8
   go_wp2_with (refine wpl_store (by first | rfl | go_simp) 36 _ _ rfl _ _ (by go_simp) (by go_simp) HST.out ?_;go_simp)
   refine ⟨Reg.anew_nil,?_⟩
   (refine Reg.done ?_;simp only [Exit.then])
   have hxy : x ≠ y := by have h1 := Blk.lt HB.out;have h2 := HYW.out;omega
   have hb4 := (HB.out.kept HK3.out (fun h => h)).kept HK4.out hxy
   have HB5 := Lib.hid hb4
   have y0 : w4.cell? ⟨y,0,none⟩ = some _ := Blk.cell HB4.out rfl
   have y1 : w4.cell? ⟨y,1,none⟩ = some _ := Blk.cell HB4.out rfl
   have u0 : w4.cell? ⟨x,0,none⟩ = some _ := Blk.cell hb4 rfl
   have u1 : w4.cell? ⟨x,1,none⟩ = some _ := Blk.cell hb4 rfl
   have g0 := Blk.fr hb4 0
   have g1 := Blk.fr hb4 1
   clear hb4 hxy
   go_wp2_with fail
   have hbf : Blk ((w4.setCell ⟨x,0,none⟩ (.int .i64 o.n)).setCell ⟨x,1,none⟩ (.int .i64 o.epoch)) x 42 [.int .i64 o.n,.int .i64 o.epoch] := Blk.set (Blk.set HB5.out 0 (.int .i64 o.n)) 1 (.int .i64 o.epoch)
   have hkf : Kp No w ((w4.setCell ⟨x,0,none⟩ (.int .i64 o.n)).setCell ⟨x,1,none⟩ (.int .i64 o.epoch)) := ((HK.out.trans' HK3.out).trans HK4.out (fun i hi e => by have := HYW.out;have := HK.out.size;omega)).trans (((Kp.refl (· = x) w4).setCell (p := ⟨x,0,none⟩) (fun _ => rfl) _).setCell (p := ⟨x,1,none⟩) (fun _ => rfl) _) (fun i hi e => by have := HX.out;omega)
   exact bodyPost_ret (results_cell_row rfl _ _ x _ _ _ _ rfl hbf Tryz.underlying42 rfl (by kernel_rfl)) rfl ⟨rfl,hkf⟩
end
section
open Go.RowKit Go.ChangeShapes Go.WideShapes Go.ChangeAt
set_option maxRecDepth 100000 in
set_option maxHeartbeats 8000000 in
theorem r_lholder (l : Nat) (L : LV) (F S : Nat → Prop) (w : World) (h : RLAt w l L F S) (hl : L.ops.length ≤ 1000000) :
 Calls Tryz.prog 48 #[.pointer (some ⟨l,0,none⟩)] w fun x w' => x = .returned (.agg #[.int .i64 L.fold.hE,.int .i64 L.fold.hS]) ∧ Kp No w w' := by
 obtain ⟨ov,gv,hin,_⟩ := h
 obtain ⟨A,c,rfl⟩ := hin.ops.shape
 obtain ⟨x,hx⟩ : ∃ x,w.heap.size = x := ⟨_,rfl⟩
 obtain ⟨wa,hwa⟩ : ∃ wa,w.alloc (.cells #[.int .i64 0,.int .i64 0] 85) = wa := ⟨_,rfl⟩
 have hka : Kp No w wa := by rw [← hwa];exact (Kp.refl _ _).alloc _
 have hba : Blk wa x 85 [.int .i64 0,.int .i64 0] := by rw [← hwa,← hx];exact Blk.new w _ _
 obtain ⟨y,hy⟩ : ∃ x,wa.heap.size = x := ⟨_,rfl⟩
 obtain ⟨wb,hwb⟩ : ∃ v,wa.alloc (.cells #[.int .i64 0,.int .i64 0] 85) = v := ⟨_,rfl⟩
 have hkb : Kp No wa wb := by rw [← hwb];exact (Kp.refl _ _).alloc _
 have hbb : Blk wb y 85 [.int .i64 0,.int .i64 0] := by rw [← hwb,← hy];exact Blk.new wa _ _
 have HK := Lib.hid (hka.trans' hkb)
 have hi := hin.keptNo HK.out
 have HBL := Lib.hid hi.blk
 have HO := Lib.hid hi.ops
 have HX := Lib.hid (hba.kept hkb (fun h => h))
 have HY0 := Lib.hid hbb
 have HYT := Lib.hid hbb
 have HXY : Hid (w.heap.size ≤ x ∧ x < y ∧ y < wb.heap.size ∧ l ≠ y) := Lib.hid ⟨Nat.le_of_eq hx,by rw [← hy];exact Blk.lt hba,Blk.lt hbb,fun e => by have h1 := Blk.lt hin.blk;have h2 := hka.size;omega⟩
 obtain ⟨O,hO⟩ : ∃ v,L.ops = v := ⟨_,rfl⟩
 have hhE : L.fold.hE = (FV.fresh.take (O.take O.length)).hE := by rw [List.take_length,← hO];rfl
 have hhS : L.fold.hS = (FV.fresh.take (O.take O.length)).hS := by rw [List.take_length,← hO];rfl
 rw [hhE,hhS]
 rw [hO] at HBL HO hl
 have hli : (O.length : Int) ≤ 1000000 := by omega
 have HWA := Lib.hid hwa
 have HXX := Lib.hid hx
 have HWB := Lib.hid hwb
 have HYY := Lib.hid hy
 have HX1 : Hid (x + 1 = y) := Lib.hid (by rw [← hy,← hwa,← hx];simp)
 clear hka hba hkb hbb hi hin hO hhE hhS hl hwa hx hwb hy
 go_enter Tryz.func48,Tryz.ntmps48
 go_upto_region 2 with fail
 try rw [HXX.out]
 try rw [HWA.out]
 try rw [HYY.out]
 try rw [HX1.out]
 try rw [HWB.out]
 clear HWA HXX HWB HYY
 go_wp2_with fail
 go_loopw [4] (fun iv wr => ∃ i : Nat,i ≤ O.length ∧ iv = .int .i64 (i : Int) ∧ Hid (Blk wr y 85 [.int .i64 (FV.fresh.take (O.take i)).hE,.int .i64 (FV.fresh.take (O.take i)).hS]) ∧ Hid (Kp (· = y) wb wr)) (fun iv _ => O.length - (intOf iv).toNat)
 case atStart => exact ⟨0,Nat.zero_le _,rfl,HY0,Lib.hid (Kp.refl _ _)⟩
 case round =>
  clear HY0
  obtain ⟨i,hi,rfl,HY,HKR⟩ := hrel
  have hly : l ≠ y := HXY.out.2.2.2
  have k0 : wr.cell? ⟨l,0,none⟩ = some _ := Blk.cell (HBL.out.kept HKR.out hly) rfl
  clear hly
  by_cases hlt : i < O.length
  case neg =>
   obtain rfl : i = O.length := by omega
   obtain ⟨E,hE⟩ : ∃ v,(FV.fresh.take (O.take O.length)).hE = v := ⟨_,rfl⟩
   obtain ⟨H,hH⟩ : ∃ v,(FV.fresh.take (O.take O.length)).hS = v := ⟨_,rfl⟩
   have HE := Lib.hid hE
   have HH := Lib.hid hH
   rw [hE,hH] at HY
   have hxy : x ≠ y := by have := HXY.out;omega
   have hbx := HX.out.kept HKR.out hxy
   have HBX := Lib.hid hbx
   have y0 : wr.cell? ⟨y,0,none⟩ = some _ := Blk.cell HY.out rfl
   have y1 : wr.cell? ⟨y,1,none⟩ = some _ := Blk.cell HY.out rfl
   have u0 : wr.cell? ⟨x,0,none⟩ = some _ := Blk.cell hbx rfl
   have u1 : wr.cell? ⟨x,1,none⟩ = some _ := Blk.cell hbx rfl
   have g0 := Blk.fr hbx 0
   have g1 := Blk.fr hbx 1
   clear hxy hbx hE hH
   go_wp2_with fail
   have hbf : Blk ((wr.setCell ⟨x,0,none⟩ (.int .i64 E)).setCell ⟨x,1,none⟩ (.int .i64 H)) x 85 [.int .i64 E,.int .i64 H] := Blk.set (Blk.set HBX.out 0 (.int .i64 E)) 1 (.int .i64 H)
   have hkf : Kp No w ((wr.setCell ⟨x,0,none⟩ (.int .i64 E)).setCell ⟨x,1,none⟩ (.int .i64 H)) := (HK.out.trans HKR.out (fun i hi e => by have := HXY.out;omega)).trans (((Kp.refl (· = x) wr).setCell (p := ⟨x,0,none⟩) (fun _ => rfl) _).setCell (p := ⟨x,1,none⟩) (fun _ => rfl) _) (fun i hi e => by have := HXY.out;omega)
   exact bodyPost_ret (results_cell_row rfl _ _ x _ _ _ _ rfl hbf Tryz.underlying85 rfl (by kernel_rfl)) rfl ⟨by rw [HE.out,HH.out],hkf⟩
  case pos =>
  have hlti : (i : Int) < (O.length : Int) := by omega
  obtain ⟨o,ho⟩ : ∃ o,O[i]? = some o := ⟨_,List.getElem?_eq_getElem hlt⟩
  obtain ⟨g,A',c',rfl,_,⟨cs',hgt⟩,hcell,_,_,_⟩ := Own.at_opl HO.out ho
  have hglt : g < wb.heap.size := lt_of_cell (p := ⟨g,i * 9 + 0,none⟩) (hcell 0 _ rfl)
  have hgy : g ≠ y := fun e => by
   have h1 := HXY.out
   subst e
   rcases Nat.lt_or_ge g wb.heap.size with h2 | h2
   · have h3 := HO.out.lt g rfl
     have h4 := HYT.out
     unfold Blk at h4
     rw [hgt] at h4
     injection h4 with h4
     injection h4 with _ h4
     exact absurd h4 (by decide)
   · omega
  have z1 : wr.cell? ⟨g,i * 9 + 1,none⟩ = some _ := (HKR.out.cell (p := ⟨g,i * 9 + 1,none⟩) hglt hgy).trans (hcell 1 _ rfl)
  have z2 : wr.cell? ⟨g,i * 9 + 2,none⟩ = some _ := (HKR.out.cell (p := ⟨g,i * 9 + 2,none⟩) hglt hgy).trans (hcell 2 _ rfl)
  have z3 : wr.cell? ⟨g,i * 9 + 3,none⟩ = some _ := (HKR.out.cell (p := ⟨g,i * 9 + 3,none⟩) hglt hgy).trans (hcell 3 _ rfl)
  have HTE : Hid ((FV.fresh.take (O.take (i + 1))).hE = if o.kind = 3 then o.epoch else (FV.fresh.take (O.take i)).hE) := Lib.hid (by rw [take_snoc ho,foldE_snoc])
  have HTS : Hid ((FV.fresh.take (O.take (i + 1))).hS = if o.kind = 3 then o.site else (FV.fresh.take (O.take i)).hS) := Lib.hid (by rw [take_snoc ho,foldS_snoc])
  clear ho hcell hgt
  by_cases h3 : o.kind = 3
  case neg =>
   have hb : (o.kind == 3) = false := beq_eq_false_iff_ne.2 h3
   have HY2 : Hid (Blk wr y 85 [.int .i64 (FV.fresh.take (O.take (i + 1))).hE,.int .i64 (FV.fresh.take (O.take (i + 1))).hS]) := Lib.hid (by rw [HTE.out,HTS.out,if_neg h3,if_neg h3];exact HY.out)
   clear h3 hglt hgy
   go_wp2_with fail
   go_roundw
   case rel => exact ⟨i + 1,by omega,by go_num,HY2,HKR⟩
   case measure => simp [intOf];omega
  case pos =>
   have hb : (o.kind == 3) = true := beq_iff_eq.2 h3
   obtain ⟨wd,hwd⟩ : ∃ v,wr.drew = v := ⟨_,rfl⟩
   have HKD : Hid (Kp No wr wd) := Lib.hid (by rw [← hwd];exact (Kp.refl _ _).drew)
   have hyd := HY.out.kept HKD.out (fun h => h)
   have HY2 : Hid (Blk ((wd.setCell ⟨y,0,none⟩ (.int .i64 o.epoch)).setCell ⟨y,1,none⟩ (.int .i64 o.site)) y 85 [.int .i64 (FV.fresh.take (O.take (i + 1))).hE,.int .i64 (FV.fresh.take (O.take (i + 1))).hS]) := Lib.hid (by rw [HTE.out,HTS.out,if_pos h3,if_pos h3];exact Blk.set (Blk.set hyd 0 (.int .i64 o.epoch)) 1 (.int .i64 o.site))
   have HK2 : Hid (Kp (· = y) wb ((wd.setCell ⟨y,0,none⟩ (.int .i64 o.epoch)).setCell ⟨y,1,none⟩ (.int .i64 o.site))) := Lib.hid (((HKR.out.transNo HKD.out).setCell (p := ⟨y,0,none⟩) (fun _ => rfl) _).setCell (p := ⟨y,1,none⟩) (fun _ => rfl) _)
   have hly : l ≠ y := HXY.out.2.2.2
   have j0 : wd.cell? ⟨l,0,none⟩ = some _ := Blk.cell ((HBL.out.kept HKR.out hly).kept HKD.out (fun h => h)) rfl
   have j1 : wd.cell? ⟨g,i * 9 + 1,none⟩ = some _ := (HKD.out.cell (p := ⟨g,i * 9 + 1,none⟩) (Nat.lt_of_lt_of_le hglt HKR.out.size) (fun h => h)).trans z1
   have j3 : wd.cell? ⟨g,i * 9 + 3,none⟩ = some _ := (HKD.out.cell (p := ⟨g,i * 9 + 3,none⟩) (Nat.lt_of_lt_of_le hglt HKR.out.size) (fun h => h)).trans z3
   have y0 : wd.cell? ⟨y,0,none⟩ = some _ := Blk.cell hyd rfl
   have y1 : wd.cell? ⟨y,1,none⟩ = some _ := Blk.cell hyd rfl
   have g0 := Blk.fr hyd 0
   have g1 := Blk.fr hyd 1
   clear h3 hglt hgy hyd hly
   go_upto_region 6 with fail
   refine Reg.wp_region_plan [⟨0,false,[]⟩,⟨1,false,[]⟩,⟨2,false,[]⟩,⟨3,false,[]⟩,⟨4,false,[]⟩,⟨5,false,[]⟩,⟨6,false,[]⟩,⟨7,false,[]⟩,⟨8,false,[]⟩,⟨9,false,[]⟩,⟨10,false,[]⟩,⟨11,false,[]⟩,⟨12,false,[]⟩,⟨13,false,[]⟩,⟨14,false,[]⟩,⟨15,false,[]⟩,⟨16,false,[]⟩,⟨17,true,[]⟩] rfl (by kernel_rfl) ?_
   rw [hwd]
   clear hwd k0 z1 z2 z3
   repeat (first | (refine Reg.look rfl rfl rfl (by go_simp;rfl) rfl ?_;go_simp) | (refine Reg.skip rfl rfl rfl ?_;go_simp))
   refine Reg.act rfl ?_
   go_wp2_with fail
   refine ⟨Reg.anew_nil,?_⟩
   repeat (first | (refine Reg.look rfl rfl rfl (by go_simp;rfl) rfl ?_;go_simp) | (refine Reg.skip rfl rfl rfl ?_;go_simp))
   (refine Reg.done ?_;simp only [Exit.then])
   go_wp2_with fail
   go_roundw
   case rel => exact ⟨i + 1,by omega,by go_num,HY2,HK2⟩
   case measure => simp [intOf];omega
end
section
open Go.RowKit Go.ChangeShapes Go.WideShapes Go.ChangeAt
set_option maxRecDepth 100000 in
set_option maxHeartbeats 8000000 in
theorem r_lsheet (B : Nat) (nm : ByteArray) (l : Nat) (L : LV) (F S : Nat → Prop) (w : World) (h : RLAt w l L F S) (hok : OkL B L) :
 Calls Tryz.prog 59 #[.pointer (some ⟨l,0,none⟩),.string nm] w fun e w' => ∃ A c,e = .returned (.tuple #[.agg #[.int .i64 (sheetOf nm L).1,.slice A (sheetOf nm L).2.length c],.bool (mget nm L.fold.live).isSome]) ∧ (∃ S',(∀ k,S' k → S k) ∧ Rp.str.slice.R w' S' [.slice A (sheetOf nm L).2.length c] (sheetOf nm L).2) ∧ Kp No w w' := by
 obtain ⟨ov,gv,hin,_⟩ := h
 obtain ⟨A,c,rfl⟩ := hin.ops.shape
 obtain ⟨x,hx⟩ : ∃ x,w.heap.size = x := ⟨_,rfl⟩
 obtain ⟨wa,hwa⟩ : ∃ wa,w.alloc (.cells #[.int .i64 0,.slice none 0 0] 34) = wa := ⟨_,rfl⟩
 have hka : Kp No w wa := by rw [← hwa];exact (Kp.refl _ _).alloc _
 have HX : Hid (Blk wa x 34 [.int .i64 0,.slice none 0 0]) := Lib.hid (by rw [← hwa,← hx];exact Blk.new w _ _)
 have hi := hin.keptNo hka
 have HBL := Lib.hid hi.blk
 have HO := Lib.hid hi.ops
 have HK := Lib.hid hka
 have HXW : Hid (w.heap.size ≤ x) := Lib.hid (Nat.le_of_eq hx)
 have HLX : Hid (l ≠ x) := Lib.hid (fun e => by have h1 := Blk.lt hin.blk;omega)
 have HSW : Hid (∀ k,S k → k < w.heap.size) := Lib.hid hin.hi
 have HSF : Hid (∀ k,S k → S k) := Lib.hid (fun k hk => hk)
 have HOP : Hid (∀ o ∈ L.ops,okP o) := Lib.hid (fun o ho => hok.okOf ho)
 have hli : (L.ops.length : Int) ≤ 80 := by have := hok.len;omega
 have HSM := Lib.hid hok.small
 obtain ⟨Z,hZ⟩ : ∃ Z,mget nm L.fold.live = Z := ⟨_,rfl⟩
 have HZF : Hid (sheetOf nm L = Z.getD (0,[]) ∧ mget nm L.fold.live = Z) := Lib.hid ⟨by unfold sheetOf;rw [hZ],hZ⟩
 obtain ⟨O,hO⟩ : ∃ v,L.ops = v := ⟨_,rfl⟩
 have HZ0 : Hid (mget nm (FV.fresh.take (O.take O.length)).live = Z) := Lib.hid (by rw [List.take_length,← hO];exact hZ)
 rw [hO] at HBL HO HOP hli HSM
 clear hka hi hin hok hZ hO
 go_enter Tryz.func59,Tryz.ntmps59
 go_upto_region 1 with fail
 try rw [hwa]
 try rw [hx]
 clear hwa hx
 have k0 : wa.cell? ⟨l,0,none⟩ = some _ := Blk.cell HBL.out rfl
 go_wp2_with fail
 clear k0
 go_loopw [6] (fun iv wr => ∃ k : Nat,k ≤ O.length ∧ iv = .int .i64 ((k : Int) - 1) ∧ wr = wa ∧ Hid (mget nm (FV.fresh.take (O.take k)).live = Z)) (fun iv _ => (intOf iv + 1).toNat)
 case atStart => exact ⟨O.length,Nat.le_refl _,rfl,rfl,HZ0⟩
 case round =>
  clear HZ0
  obtain ⟨k,hk,rfl,rfl,HZ⟩ := hrel
  obtain ⟨wa,rfl⟩ : ∃ v,v = wr := ⟨_,rfl⟩
  rcases Nat.eq_zero_or_pos k with hk0 | hk0
  case inl =>
   subst hk0
   have e0 : ((0 : Nat) : Int) - 1 = -1 := rfl
   rw [e0]
   have hZn : Z = none := by rw [← HZ.out];rfl
   subst hZn
   have x0 : wa.cell? ⟨x,0,none⟩ = some _ := Blk.cell HX.out rfl
   have x1 : wa.cell? ⟨x,1,none⟩ = some _ := Blk.cell HX.out rfl
   have g0 := Blk.fr HX.out 0
   have g1 := Blk.fr HX.out 1
   clear e0 hk
   go_wp2_with fail
   have hbf : Blk ((wa.setCell ⟨x,0,none⟩ (.int .i64 0)).setCell ⟨x,1,none⟩ (.slice none 0 0)) x 34 [.int .i64 0,.slice none 0 0] := Blk.set (Blk.set HX.out 0 (.int .i64 0)) 1 (.slice none 0 0)
   have hkf : Kp No w ((wa.setCell ⟨x,0,none⟩ (.int .i64 0)).setCell ⟨x,1,none⟩ (.slice none 0 0)) := HK.out.trans (((Kp.refl (· = x) wa).setCell (p := ⟨x,0,none⟩) (fun _ => rfl) _).setCell (p := ⟨x,1,none⟩) (fun _ => rfl) _) (fun i hi e => by have := HXW.out;omega)
   refine bodyPost_ret (results_cuD rfl _ _ x _ _ _ _ rfl hbf Tryz.underlying34 rfl (by kernel_rfl)) rfl ?_
   rw [HZF.out.1,HZF.out.2]
   exact ⟨none,0,rfl,⟨No,fun k h => h.elim,Rp.none_ _ _ _⟩,hkf⟩
  case inr =>
   obtain ⟨j,rfl⟩ : ∃ j,k = j + 1 := ⟨k - 1,by omega⟩
   have hij : ((j + 1 : Nat) : Int) - 1 = (j : Int) := by omega
   rw [hij]
   have hji : (j : Int) < (O.length : Int) := by omega
   have hj0 : (0 : Int) ≤ (j : Int) := by omega
   obtain ⟨o,ho⟩ : ∃ o,O[j]? = some o := ⟨_,List.getElem?_eq_getElem (by omega)⟩
   obtain ⟨g,A',c',rfl,_,⟨cs',hgt⟩,hcell,_,_,hro⟩ := Own.at_opl HO.out ho
   have hglt : g < wa.heap.size := lt_of_cell (p := ⟨g,j * 9 + 0,none⟩) (hcell 0 _ rfl)
   have HGX : Hid (g < wa.heap.size ∧ g ≠ x) := Lib.hid ⟨hglt,fun e => by
    subst e
    have h4 := HX.out
    unfold Blk at h4
    rw [hgt] at h4
    injection h4 with h4
    injection h4 with _ h4
    exact absurd h4 (by decide)⟩
   have HCE := Lib.hid (fun w' (hk' : Kp No wa w') (i : Nat) u (hu : (o.cells (.slice A' o.hashes.length c'))[i]? = some u) => (hk'.cell (p := ⟨g,j * 9 + i,none⟩) hglt (fun z => z)).trans (hcell i u hu))
   have HRO := Lib.hid hro
   have hop := HOP.out o (List.mem_of_getElem? ho)
   have hkd : o.kind = 1 ∨ o.kind = 2 ∨ o.kind = 3 := by
    rcases hop.2 with h | h | h
    · exact .inl h.1
    · exact .inr (.inl h.1)
    · exact .inr (.inr h.1)
   have hst := live_one (O.take j) o nm hkd ((FV.fresh_ok.take (O.take j) (fun q hq => HSM.out q (List.mem_of_mem_take hq))).nodup)
   rw [← take_snoc ho,HZ.out] at hst
   have HST := Lib.hid hst
   have HOK := Lib.hid hop
   have k0 : wa.cell? ⟨l,0,none⟩ = some _ := Blk.cell (HBL.out.kept (Kp.refl No wa) (fun h => h)) rfl
   have z2 : wa.cell? ⟨g,j * 9 + 2,none⟩ = some _ := HCE.out wa (Kp.refl No wa) 2 _ rfl
   have z6 : wa.cell? ⟨g,j * 9 + 6,none⟩ = some _ := HCE.out wa (Kp.refl No wa) 6 _ rfl
   have z7 : wa.cell? ⟨g,j * 9 + 7,none⟩ = some _ := HCE.out wa (Kp.refl No wa) 7 _ rfl
   have z8 : wa.cell? ⟨g,j * 9 + 8,none⟩ = some _ := HCE.out wa (Kp.refl No wa) 8 _ rfl
   clear hcell hro hop hkd hst hij hk hgt ho hglt
   by_cases h3 : o.kind = 3
   case pos =>
    have HZ2 : Hid (mget nm (FV.fresh.take (O.take j)).live = Z) := Lib.hid (by rw [HST.out,if_pos (.inl h3)])
    have kn : (o.kind != 3) = false := by rw [h3];rfl
    clear h3
    go_wp2_with fail
    go_roundw
    case rel => exact ⟨j,by omega,by go_num,(by first | rfl | trivial),HZ2⟩
    case measure => simp [intOf]
   have kn : (o.kind != 3) = true := bne_iff_ne.2 h3
   by_cases hnm : o.name = nm
   case neg =>
    have HZ2 : Hid (mget nm (FV.fresh.take (O.take j)).live = Z) := Lib.hid (by rw [HST.out,if_pos (.inr hnm)])
    have nb : (o.name.toList == nm.toList) = false := by rw [bytes_list_beq];exact decide_eq_false hnm
    clear h3 hnm
    go_wp2_with fail
    go_roundw
    case rel => exact ⟨j,by omega,by go_num,(by first | rfl | trivial),HZ2⟩
    case measure => simp [intOf]
   have nb : (o.name.toList == nm.toList) = true := by rw [bytes_list_beq];exact decide_eq_true hnm
   have HZ3 : Hid (Z = if o.kind = 1 then some (o.size,o.hashes) else none) := Lib.hid (by rw [HST.out,if_neg (by rintro (h | h);exact h3 h;exact h hnm)])
   clear hnm
   by_cases h1 : o.kind = 1
   case pos =>
    have hZs : Z = some (o.size,o.hashes) := by rw [HZ3.out,if_pos h1]
    have kb : (o.kind == 1) = true := beq_iff_eq.2 h1
    subst hZs
    clear h1 h3 HZ HST HZ3
    go_upto_region 5 with fail
    clear k0 z2 z6 z7 z8
    obtain ⟨wd,hwd⟩ : ∃ v,wa.drew = v := ⟨_,rfl⟩
    have HKD : Hid (Kp No wa wd) := Lib.hid (by rw [← hwd];exact (Kp.refl _ _).drew)
    have k0 : wd.cell? ⟨l,0,none⟩ = some _ := Blk.cell (HBL.out.kept HKD.out (fun h => h)) rfl
    have z2 : wd.cell? ⟨g,j * 9 + 2,none⟩ = some _ := HCE.out wd HKD.out 2 _ rfl
    have z6 : wd.cell? ⟨g,j * 9 + 6,none⟩ = some _ := HCE.out wd HKD.out 6 _ rfl
    have z7 : wd.cell? ⟨g,j * 9 + 7,none⟩ = some _ := HCE.out wd HKD.out 7 _ rfl
    have z8 : wd.cell? ⟨g,j * 9 + 8,none⟩ = some _ := HCE.out wd HKD.out 8 _ rfl
    have hxd := HX.out.kept HKD.out (fun h => h)
    have x0 : wd.cell? ⟨x,0,none⟩ = some _ := Blk.cell hxd rfl
    have x1 : wd.cell? ⟨x,1,none⟩ = some _ := Blk.cell hxd rfl
    have g0 := Blk.fr hxd 0
    have g1 := Blk.fr hxd 1
    obtain ⟨w5,hw5⟩ : ∃ v,(wd.setCell ⟨x,0,none⟩ (.int .i64 o.size)).setCell ⟨x,1,none⟩ (.slice A' o.hashes.length c') = v := ⟨_,rfl⟩
    have HB5 : Hid (Blk w5 x 34 [.int .i64 o.size,.slice A' o.hashes.length c']) := Lib.hid (by rw [← hw5];exact Blk.set (Blk.set hxd 0 (.int .i64 o.size)) 1 (.slice A' o.hashes.length c'))
    have HK5x : Hid (Kp (· = x) wa w5) := Lib.hid (by rw [← hw5];exact HKD.out.any.trans' (((Kp.refl (· = x) wd).setCell (p := ⟨x,0,none⟩) (fun _ => rfl) _).setCell (p := ⟨x,1,none⟩) (fun _ => rfl) _))
    clear hxd
    refine Reg.wp_region_plan [⟨0,false,[]⟩,⟨1,false,[]⟩,⟨2,false,[]⟩,⟨3,false,[]⟩,⟨4,false,[]⟩,⟨5,false,[]⟩,⟨6,false,[]⟩,⟨7,false,[]⟩,⟨8,false,[]⟩,⟨9,false,[]⟩,⟨10,false,[]⟩,⟨11,false,[]⟩,⟨12,false,[]⟩,⟨13,false,[]⟩,⟨14,false,[]⟩,⟨15,false,[]⟩,⟨16,false,[]⟩,⟨17,true,[9,10,11,13,14,15,16]⟩,⟨18,false,[]⟩] rfl (by kernel_rfl) ?_
    rw [hwd]
    clear hwd
    repeat (first | (refine Reg.look rfl rfl rfl (by go_simp;rfl) rfl ?_;go_simp) | (refine Reg.skip rfl rfl rfl ?_;go_simp))
    refine Reg.act rfl ?_
    clear k0 z2 z6 z7 z8
    go_wp2_with fail
    try rw [hw5]
    clear hw5 x0 x1 g0 g1
    have z2 : w5.cell? ⟨g,j * 9 + 2,none⟩ = some _ := (HK5x.out.cell (p := ⟨g,j * 9 + 2,none⟩) HGX.out.1 HGX.out.2).trans (HCE.out wa (Kp.refl _ _) 2 _ rfl)
    have k0 : w5.cell? ⟨l,0,none⟩ = some _ := Blk.cell (HBL.out.kept HK5x.out HLX.out) rfl
    (refine ⟨?anew,?_⟩;case anew => ((repeat (refine Reg.anew_cons rfl rfl (fun _ => by go_simp) ?_));exact Reg.anew_nil))
    clear z2 k0
    repeat (first | (refine Reg.look rfl rfl rfl (by go_simp;rfl) rfl ?_;go_simp) | (refine Reg.skip rfl rfl rfl ?_;go_simp))
    (refine Reg.done ?_;simp only [Exit.then])
    go_wp2_with fail
    have HK5 : Hid (Kp No w w5) := Lib.hid (HK.out.trans HK5x.out (fun k hk e => by have := HXW.out;omega))
    have HR5 : Hid (Rp.str.slice.R w5 S [.slice A' o.hashes.length c'] o.hashes) := Lib.hid (Rp.str.slice.kept HRO.out HK5x.out (fun k hs _ e => by have h1 := HSW.out k hs;have h2 := HXW.out;omega))
    refine bodyPost_ret (results_cuD rfl _ _ x _ _ _ _ rfl HB5.out Tryz.underlying34 rfl (by kernel_rfl)) rfl ?_
    rw [HZF.out.1,HZF.out.2]
    exact ⟨A',c',rfl,⟨S,HSF.out,HR5.out⟩,HK5.out⟩
   case neg =>
    have hZs : Z = none := by rw [HZ3.out,if_neg h1]
    have kb : (o.kind == 1) = false := beq_eq_false_iff_ne.2 h1
    have HBR : Hid (o.size = 0 ∧ o.hashes = []) := Lib.hid (by
     rcases HOK.out.2 with h | h | h
     · exact absurd h.1 h1
     · exact ⟨h.2.2.1,List.eq_nil_of_length_eq_zero h.2.2.2⟩
     · exact absurd h.1 h3)
    subst hZs
    clear h1 h3 HZ HST HZ3
    go_upto_region 5 with fail
    clear k0 z2 z6 z7 z8
    obtain ⟨wd,hwd⟩ : ∃ v,wa.drew = v := ⟨_,rfl⟩
    have HKD : Hid (Kp No wa wd) := Lib.hid (by rw [← hwd];exact (Kp.refl _ _).drew)
    have k0 : wd.cell? ⟨l,0,none⟩ = some _ := Blk.cell (HBL.out.kept HKD.out (fun h => h)) rfl
    have z2 : wd.cell? ⟨g,j * 9 + 2,none⟩ = some _ := HCE.out wd HKD.out 2 _ rfl
    have z6 : wd.cell? ⟨g,j * 9 + 6,none⟩ = some _ := HCE.out wd HKD.out 6 _ rfl
    have z7 : wd.cell? ⟨g,j * 9 + 7,none⟩ = some _ := HCE.out wd HKD.out 7 _ rfl
    have z8 : wd.cell? ⟨g,j * 9 + 8,none⟩ = some _ := HCE.out wd HKD.out 8 _ rfl
    have hxd := HX.out.kept HKD.out (fun h => h)
    have x0 : wd.cell? ⟨x,0,none⟩ = some _ := Blk.cell hxd rfl
    have x1 : wd.cell? ⟨x,1,none⟩ = some _ := Blk.cell hxd rfl
    have g0 := Blk.fr hxd 0
    have g1 := Blk.fr hxd 1
    obtain ⟨w5,hw5⟩ : ∃ v,(wd.setCell ⟨x,0,none⟩ (.int .i64 o.size)).setCell ⟨x,1,none⟩ (.slice A' o.hashes.length c') = v := ⟨_,rfl⟩
    have HB5 : Hid (Blk w5 x 34 [.int .i64 o.size,.slice A' o.hashes.length c']) := Lib.hid (by rw [← hw5];exact Blk.set (Blk.set hxd 0 (.int .i64 o.size)) 1 (.slice A' o.hashes.length c'))
    have HK5x : Hid (Kp (· = x) wa w5) := Lib.hid (by rw [← hw5];exact HKD.out.any.trans' (((Kp.refl (· = x) wd).setCell (p := ⟨x,0,none⟩) (fun _ => rfl) _).setCell (p := ⟨x,1,none⟩) (fun _ => rfl) _))
    clear hxd
    refine Reg.wp_region_plan [⟨0,false,[]⟩,⟨1,false,[]⟩,⟨2,false,[]⟩,⟨3,false,[]⟩,⟨4,false,[]⟩,⟨5,false,[]⟩,⟨6,false,[]⟩,⟨7,false,[]⟩,⟨8,false,[]⟩,⟨9,false,[]⟩,⟨10,false,[]⟩,⟨11,false,[]⟩,⟨12,false,[]⟩,⟨13,false,[]⟩,⟨14,false,[]⟩,⟨15,false,[]⟩,⟨16,false,[]⟩,⟨17,true,[9,10,11,13,14,15,16]⟩,⟨18,false,[]⟩] rfl (by kernel_rfl) ?_
    rw [hwd]
    clear hwd
    repeat (first | (refine Reg.look rfl rfl rfl (by go_simp;rfl) rfl ?_;go_simp) | (refine Reg.skip rfl rfl rfl ?_;go_simp))
    refine Reg.act rfl ?_
    clear k0 z2 z6 z7 z8
    go_wp2_with fail
    try rw [hw5]
    clear hw5 x0 x1 g0 g1
    have z2 : w5.cell? ⟨g,j * 9 + 2,none⟩ = some _ := (HK5x.out.cell (p := ⟨g,j * 9 + 2,none⟩) HGX.out.1 HGX.out.2).trans (HCE.out wa (Kp.refl _ _) 2 _ rfl)
    have k0 : w5.cell? ⟨l,0,none⟩ = some _ := Blk.cell (HBL.out.kept HK5x.out HLX.out) rfl
    (refine ⟨?anew,?_⟩;case anew => ((repeat (refine Reg.anew_cons rfl rfl (fun _ => by go_simp) ?_));exact Reg.anew_nil))
    clear z2 k0
    repeat (first | (refine Reg.look rfl rfl rfl (by go_simp;rfl) rfl ?_;go_simp) | (refine Reg.skip rfl rfl rfl ?_;go_simp))
    (refine Reg.done ?_;simp only [Exit.then])
    go_wp2_with fail
    have HK5 : Hid (Kp No w w5) := Lib.hid (HK.out.trans HK5x.out (fun k hk e => by have := HXW.out;omega))
    have HR5 : Hid (Rp.str.slice.R w5 S [.slice A' o.hashes.length c'] o.hashes) := Lib.hid (Rp.str.slice.kept HRO.out HK5x.out (fun k hs _ e => by have h1 := HSW.out k hs;have h2 := HXW.out;omega))
    refine bodyPost_ret (results_cuD rfl _ _ x _ _ _ _ rfl HB5.out Tryz.underlying34 rfl (by kernel_rfl)) rfl ?_
    rw [HZF.out.1,HZF.out.2,HBR.out.1,HBR.out.2]
    exact ⟨A',c',rfl,⟨No,fun k h => h.elim,⟨A',c',rfl,Nat.zero_le _,(by obtain ⟨_,_,he,_,hc,_⟩ := HRO.out;simp only [List.cons.injEq,Value.slice.injEq,and_true] at he;rw [he.2.2];exact hc),fun h => absurd h (by simp)⟩⟩,HK5.out⟩
end
end Go.Proofs.YtjlbacfedfkilaaGreat
