/-
  ledger.New; what a ledger tells: Fence, Settled, Used, Holder, Ops, Lost.
-/
import Derived.Test.YtjlbacfedfkilaaGreatGG
namespace Go.Proofs.YtjlbacfedfkilaaGreat
open Go.RowKit Go.ChangeShapes Go.WideShapes Go.ChangeAt
def newP (q r : Int) : Prop := 1 ≤ q ∧ q ≤ 65536 ∧ 1 ≤ r ∧ r ≤ 64
instance (q r : Int) : Decidable (newP q r) := by unfold newP;exact inferInstance
theorem newL_ok {q r : Int} (h : newP q r) : OkL 0 (newL q r) :=
 ⟨rfl,(fun _ h => (by cases h)),⟨Int.le_refl _,by show (0 : Int) ≤ 16;omega⟩,⟨Int.le_refl _,by show (0 : Int) ≤ ((0 : Nat) : Int);omega⟩,(fun _ h => (by cases h)),Nat.le_refl _,⟨h.1,h.2.1⟩,⟨h.2.2.1,h.2.2.2⟩⟩
set_option maxRecDepth 100000 in
theorem a_new (q r : Int) (w : World) (h : newP q r) : Calls Tryz.prog 7 #[.int .i64 q,.int .i64 r] w fun x w' => ∃ l F,x = .returned (.tuple #[.pointer (some ⟨l,0,none⟩),.int .i64 0]) ∧ LAt w' l (newL q r) F ∧ (∀ k,F k → w.heap.size ≤ k) ∧ Kp No w w' := by
 obtain ⟨h1,h2,h3,h4⟩ := h
 have n1 : ¬ q < 1 := by omega
 have n2 : ¬ 65536 < q := by omega
 have n3 : ¬ r < 1 := by omega
 have n4 : ¬ 64 < r := by omega
 go_enter Tryz.func7,Tryz.ntmps7
 go_wp2_with fail
 refine (l_fresh w).mono ?_
 rintro e w1 ⟨b1,b2,rfl,hm1,hm2,hne,hb1,hb2,hk1⟩
 have HM1 := Lib.hid hm1
 have HM2 := Lib.hid hm2
 have HNE := Lib.hid (And.intro hne (And.intro hb1 hb2))
 have HK1 := Lib.hid hk1
 clear hm1 hm2 hne hb1 hb2 hk1
 go_wp2_with fail
 go_ret2
 have hb : Blk (w1.alloc (.cells #[.map (some b1),.int .i64 0,.map (some b2),.int .i64 0,.int .i64 0,.slice none 0 0,.slice none 0 0,.int .i64 0,.int .i64 0,.int .i64 q,.int .i64 r] 90)) w1.heap.size 90 [.map (some b1),.int .i64 0,.map (some b2),.int .i64 0,.int .i64 0,.slice none 0 0,.slice none 0 0,.int .i64 0,.int .i64 0,.int .i64 q,.int .i64 r] := Blk.new w1 _ _
 have hk : Kp No w1 (w1.alloc (.cells #[.map (some b1),.int .i64 0,.map (some b2),.int .i64 0,.int .i64 0,.slice none 0 0,.slice none 0 0,.int .i64 0,.int .i64 0,.int .i64 q,.int .i64 r] 90)) := (Kp.refl _ _).alloc _
 refine ⟨w1.heap.size,Foot w1.heap.size b1 b2 (.slice none 0 0) (.slice none 0 0) No,rfl,⟨b1,b2,.slice none 0 0,.slice none 0 0,No,⟨⟨hb,(HM1.out No).keptNo hk,(HM2.out No).keptNo hk,HNE.out.1,fun x => x,fun x => x,fun x => x⟩,Own.nil _ _ _ _ _,Own.nil _ _ _ _ _,fun k h => (by cases h),fun k h => (by cases h),fun k h => (by cases h),fun k h => h.elim⟩,fun k => Iff.rfl⟩,?_,HK1.out.trans' hk⟩
 rintro k ((rfl | rfl | rfl) | hk2 | hk2 | hk2)
 · exact HK1.out.size
 · exact HNE.out.2.1
 · exact HNE.out.2.2
 · cases hk2
 · cases hk2
 · exact hk2.elim
set_option maxRecDepth 100000 in
theorem a_new_bad (q r : Int) (w : World) (h : ¬ newP q r) : Calls Tryz.prog 7 #[.int .i64 q,.int .i64 r] w fun x w' => x = .returned (.tuple #[.pointer none,.int .i64 1]) ∧ w' = w := by
 unfold newP at h
 by_cases h1 : q < 1
 · clear h
   go_enter Tryz.func7,Tryz.ntmps7
   go_wp2_with fail
   go_ret2
   exact ⟨rfl,rfl⟩
 by_cases h2 : 65536 < q
 · clear h
   go_enter Tryz.func7,Tryz.ntmps7
   go_wp2_with fail
   go_ret2
   exact ⟨rfl,rfl⟩
 by_cases h3 : r < 1
 · clear h
   go_enter Tryz.func7,Tryz.ntmps7
   go_wp2_with fail
   go_ret2
   exact ⟨rfl,rfl⟩
 have h4 : 64 < r := by omega
 clear h
 go_enter Tryz.func7,Tryz.ntmps7
 go_wp2_with fail
 go_ret2
 exact ⟨rfl,rfl⟩
set_option maxRecDepth 100000 in
theorem a_fence (l : Nat) (L : LV) (F : Nat → Prop) (w : World) (h : LAt w l L F) : Calls Tryz.prog 47 #[.pointer (some ⟨l,0,none⟩)] w fun x w' => x = .returned (.int .i64 (L.fence)) ∧ w' = w := by
 obtain ⟨b1,b2,Ao,co,ll,hblk⟩ := h.blk
 have k := Blk.cell hblk (i := 7) rfl
 obtain ⟨v,hv⟩ : ∃ v,L.fence = v := ⟨_,rfl⟩
 rw [hv] at k
 rw [hv]
 clear hblk hv h
 go_enter Tryz.func47,Tryz.ntmps47
 go_wp2_with fail
 go_ret
 exact ⟨rfl,rfl⟩
set_option maxRecDepth 100000 in
theorem a_holder (l : Nat) (L : LV) (F : Nat → Prop) (w : World) (h : LAt w l L F) : Calls Tryz.prog 30 #[.pointer (some ⟨l,0,none⟩)] w fun x w' => x = .returned (.agg #[.int .i64 L.fold.hE,.int .i64 L.fold.hS]) ∧ Kp No w w' := by
 obtain ⟨x,hx⟩ : ∃ x,w.heap.size = x := ⟨_,rfl⟩
 obtain ⟨wa,hwa⟩ : ∃ wa,w.alloc (.cells #[.int .i64 0,.int .i64 0] 85) = wa := ⟨_,rfl⟩
 have hk : Kp No w wa := by rw [← hwa];exact (Kp.refl _ _).alloc _
 have hb : Blk wa x 85 [.int .i64 0,.int .i64 0] := by rw [← hwa,← hx];exact Blk.new w _ _
 obtain ⟨b1,b2,Ao,co,ll,hblk⟩ := (h.keptNo hk).blk
 have k3 := Blk.cell hblk (i := 3) rfl
 have k4 := Blk.cell hblk (i := 4) rfl
 obtain ⟨e,he⟩ : ∃ e,L.fold.hE = e := ⟨_,rfl⟩
 obtain ⟨s,hs⟩ : ∃ s,L.fold.hS = s := ⟨_,rfl⟩
 rw [he] at k3
 rw [hs] at k4
 rw [he,hs]
 have HB := Lib.hid hb
 have HK := Lib.hid hk
 have HX := Lib.hid hx
 have g0 := Blk.fr hb 0
 have g1 := Blk.fr hb 1
 have u0 : wa.cell? ⟨x,0,none⟩ = some _ := Blk.cell hb rfl
 have u1 : wa.cell? ⟨x,1,none⟩ = some _ := Blk.cell hb rfl
 clear hblk he hs h hk hb
 go_enter Tryz.func30,Tryz.ntmps30
 go_wp2_with fail
 have hbf : Blk ((wa.setCell ⟨x,0,none⟩ (.int .i64 e)).setCell ⟨x,1,none⟩ (.int .i64 s)) x 85 [.int .i64 e,.int .i64 s] := Blk.set (Blk.set HB.out 0 (.int .i64 e)) 1 (.int .i64 s)
 have hkf : Kp No w ((wa.setCell ⟨x,0,none⟩ (.int .i64 e)).setCell ⟨x,1,none⟩ (.int .i64 s)) := HK.out.trans (((Kp.refl (· = x) wa).setCell (p := ⟨x,0,none⟩) (fun _ => rfl) _).setCell (p := ⟨x,1,none⟩) (fun _ => rfl) _) (fun i hi e => by have := HX.out;omega)
 exact bodyPost_ret (results_cell_row rfl _ _ x _ _ _ _ rfl hbf Tryz.underlying85 rfl (by kernel_rfl)) rfl ⟨rfl,hkf⟩
set_option maxRecDepth 100000 in
theorem a_opsF (l : Nat) (L : LV) (F : Nat → Prop) (w : World) (h : LAt w l L F) (hl : (L.ops).length ≤ 1000000) (hs : ∀ o ∈ L.ops,o.hashes.length ≤ 1000000) : Calls Tryz.prog 14 #[.pointer (some ⟨l,0,none⟩)] w fun x w' => ∃ A c,x = .returned (.slice A (L.ops).length c) ∧ Own Rp.oplF w' (fun k => w.heap.size ≤ k) w.heap.size 36 (.slice A (L.ops).length c) (L.ops) ∧ Kp No w w' := by
 obtain ⟨b1,b2,ov,lv,S,hin,_⟩ := h
 obtain ⟨A,c,hsh⟩ := hin.oshape
 have hown := hin.ops
 have k := Blk.cell hin.fat.blk (i := 5) rfl
 rw [hsh] at hown
 have hc := c_ownF (L.ops) A c w _ hown.readFrom hl hs
 obtain ⟨n,hn⟩ : ∃ n,(L.ops).length = n := ⟨_,rfl⟩
 have k' : w.cell? ⟨l,5,none⟩ = some (.slice A n c) := by rw [← hn,← hsh];exact k
 rw [hn] at hc
 rw [hn]
 have HC := Lib.hid hc
 clear hc hown hsh hin k hl hs
 go_enter Tryz.func14,Tryz.ntmps14
 go_wp2_with fail
 refine HC.out.mono ?_
 rintro e w1 ⟨A1,c1,rfl,_,_,hown,hk1⟩
 have HO := Lib.hid hown
 have HK := Lib.hid hk1
 clear hown hk1 HC
 go_wp2_with fail
 go_ret
 exact ⟨A1,c1,rfl,HO.out,HK.out⟩
theorem a_ops (l : Nat) (L : LV) (F : Nat → Prop) (w : World) (h : LAt w l L F) (hl : L.ops.length ≤ 1000000) (hs : ∀ o ∈ L.ops,o.hashes.length ≤ 1000000) : Calls Tryz.prog 14 #[.pointer (some ⟨l,0,none⟩)] w fun x w' => ∃ A c,x = .returned (.slice A L.ops.length c) ∧ Own Rp.opl w' (fun k => w.heap.size ≤ k) w.heap.size 36 (.slice A L.ops.length c) L.ops ∧ Kp No w w' :=
 (a_opsF l L F w h hl hs).mono fun _ _ ⟨A,c,h1,h2,h3⟩ => ⟨A,c,h1,h2.opl_of,h3⟩
set_option maxRecDepth 100000 in
theorem a_lost (l : Nat) (L : LV) (F : Nat → Prop) (w : World) (h : LAt w l L F) (hl : (L.lost).length ≤ 1000000) (hs : ∀ o ∈ L.lost,o.hashes.length ≤ 1000000) : Calls Tryz.prog 29 #[.pointer (some ⟨l,0,none⟩)] w fun x w' => ∃ A c,x = .returned (.slice A (L.lost).length c) ∧ Own Rp.opl w' (fun k => w.heap.size ≤ k) w.heap.size 36 (.slice A (L.lost).length c) (L.lost) ∧ Kp No w w' := by
 obtain ⟨b1,b2,ov,lv,S,hin,_⟩ := h
 obtain ⟨A,c,hsh⟩ := hin.lshape
 have hown := hin.lost
 have k := Blk.cell hin.fat.blk (i := 6) rfl
 rw [hsh] at hown
 have hc := c_own (L.lost) A c w _ hown.readFrom hl hs
 obtain ⟨n,hn⟩ : ∃ n,(L.lost).length = n := ⟨_,rfl⟩
 have k' : w.cell? ⟨l,6,none⟩ = some (.slice A n c) := by rw [← hn,← hsh];exact k
 rw [hn] at hc
 rw [hn]
 have HC := Lib.hid hc
 clear hc hown hsh hin k hl hs
 go_enter Tryz.func29,Tryz.ntmps29
 go_wp2_with fail
 refine HC.out.mono ?_
 rintro e w1 ⟨A1,c1,rfl,_,_,hown,hk1⟩
 have HO := Lib.hid hown
 have HK := Lib.hid hk1
 clear hown hk1 HC
 go_wp2_with fail
 go_ret
 exact ⟨A1,c1,rfl,HO.out,HK.out⟩
end Go.Proofs.YtjlbacfedfkilaaGreat
