/-
  Put together: Led2, Part.
-/
import Derived.Test.YtjlbacfedfkilaaGreatGF
namespace Go.Proofs.YtjlbacfedfkilaaGreat
section
open Go.RowKit Go.ChangeShapes Go.WideShapes Go.ChangeAt
theorem I64.of {n : Int} (h : -9223372036854775808 ≤ n ∧ n ≤ 9223372036854775807) : I64 n := by
 unfold I64
 simp [Lit.wf,IntKind.bits,IntKind.signed,IntKind.min,IntKind.max]
 omega
theorem LAt.lt {w : World} {l : Nat} {L : LV} {F : Nat → Prop} (h : LAt w l L F) : ∀ k,F k → k < w.heap.size := by
 obtain ⟨b1,b2,ov,lv,S,h1,h2⟩ := h
 exact fun k hk => h1.footlt k ((h2 k).1 hk)
theorem LAt.self {w : World} {l : Nat} {L : LV} {F : Nat → Prop} (h : LAt w l L F) : F l := by
 obtain ⟨b1,b2,ov,lv,S,h1,h2⟩ := h
 exact (h2 l).2 (.inl (.inl rfl))
theorem LAt.blk {w : World} {l : Nat} {L : LV} {F : Nat → Prop} (h : LAt w l L F) : ∃ b1 b2 Ao co ll,Blk w l 90 [.map (some b1),.int .i64 L.fold.used,.map (some b2),.int .i64 L.fold.hE,.int .i64 L.fold.hS,.slice Ao L.ops.length co,ll,.int .i64 L.fence,.int .i64 L.settled,.int .i64 L.quota,.int .i64 L.room] := by
 obtain ⟨b1,b2,ov,lv,S,h1,h2⟩ := h
 obtain ⟨A,c,rfl⟩ := h1.oshape
 exact ⟨b1,b2,A,c,lv,h1.fat.blk⟩
theorem done_stored {w : World} {d : Nat} {a b c : Value} (h : Blk w d 44 [a,b,c]) (x y z : Value) :
 Kp (· = d) w (((w.setCell ⟨d,0,none⟩ x).setCell ⟨d,1,none⟩ y).setCell ⟨d,2,none⟩ z) ∧ Blk (((w.setCell ⟨d,0,none⟩ x).setCell ⟨d,1,none⟩ y).setCell ⟨d,2,none⟩ z) d 44 [x,y,z] :=
 ⟨(((Kp.refl (· = d) w).setCell (p := ⟨d,0,none⟩) (fun _ => rfl) _).setCell (p := ⟨d,1,none⟩) (fun _ => rfl) _).setCell (p := ⟨d,2,none⟩) (fun _ => rfl) _,Blk.set (Blk.set (Blk.set h 0 x) 1 y) 2 z⟩
def cmdC (c : CmdL) (hv ov : Value) : List Value := [.int .i64 c.kind,.int .i64 c.epoch,.int .i64 c.site,.int .i64 c.op.n,.int .i64 c.op.epoch,.int .i64 c.op.kind,.int .i64 c.op.site,.int .i64 c.op.client,.int .i64 c.op.seq,.string c.op.name,.int .i64 c.op.size,hv,.int .i64 c.after,.int .i64 c.since,ov,.int .i64 c.tag]
theorem a_put (o : OpL) (ep st : Int) (Ah : Option Addr) (ch : Nat) (SA : Nat → Prop) (l : Nat) (L : LV) (F : Nat → Prop) (w : World) (h : LAt w l L F) (hh : Rp.str.slice.R w SA [.slice Ah o.hashes.length ch] o.hashes)
 (hn : (o.placed (L.ops.length + 1) ep st).nums) (hll : o.hashes.length ≤ 1000000) (hl : L.ops.length ≤ 1000) (hf : L.fold.Ok L.ops.length) (hsz : o.kind = 1 → Small o.size) :
 Calls Tryz.prog 95 #[.pointer (some ⟨l,0,none⟩),opV o (.slice Ah o.hashes.length ch),.int .i64 ep,.int .i64 st] w fun x w' => x = .returned (doneV (putL o ep st L).1) ∧
  ∃ F',LAt w' l (putL o ep st L).2 F' ∧ Upd F w w' F' := by
 obtain ⟨b1,b2,ov,lv,S,h1,h2⟩ := h
 refine (l_put o ep st Ah ch SA l b1 b2 ov lv S L w h1 hh hn hll hl hf hsz).mono ?_
 rintro e w' ⟨he,ov',S',h3,h4,h5⟩
 exact ⟨he,_,⟨b1,b2,ov',lv,S',h3,fun k => Iff.rfl⟩,h4.mono (fun k _ hk => (h2 k).2 hk),fun k hk => by
  rcases h5 k hk with h | h
  · exact .inl ((h2 k).2 h)
  · exact .inr h⟩
theorem LAt.fence {w : World} {l : Nat} {L : LV} {F : Nat → Prop} (h : LAt w l L F) (e : Int) : LAt (w.setCell ⟨l,7,none⟩ (.int .i64 e)) l { L with fence := e } F := by
 obtain ⟨b1,b2,ov,lv,S,h1,h2⟩ := h
 exact ⟨b1,b2,ov,lv,S,h1.fence e,h2⟩
theorem LAt.settled {w : World} {l : Nat} {L : LV} {F : Nat → Prop} (h : LAt w l L F) (e : Int) : LAt (w.setCell ⟨l,8,none⟩ (.int .i64 e)) l { L with settled := e } F := by
 obtain ⟨b1,b2,ov,lv,S,h1,h2⟩ := h
 exact ⟨b1,b2,ov,lv,S,h1.settled e,h2⟩
theorem a_has (n e : Int) (l : Nat) (L : LV) (F : Nat → Prop) (w : World) (h : LAt w l L F) (hn : 0 ≤ n) (hl : L.ops.length ≤ 1000000) :
 Calls Tryz.prog 96 #[.pointer (some ⟨l,0,none⟩),.agg #[.int .i64 n,.int .i64 e]] w fun x w' => x = .returned (.bool (hasL n e L)) ∧ Kp No w w' := by
 obtain ⟨b1,b2,ov,lv,S,h1,h2⟩ := h
 exact l_has n e l b1 b2 ov lv S L.fold L w h1 hn hl
theorem begin_ {w : World} {l : Nat} {L : LV} {F : Nat → Prop} (h : LAt w l L F) (c : CmdL) (hv ov : Value) :
 LAt ((w.alloc (.cells (cmdC c hv ov).toArray 39)).alloc (.cells #[.int .i64 0,.int .i64 0,.int .i64 0] 44)) l L F ∧
 Kp No w ((w.alloc (.cells (cmdC c hv ov).toArray 39)).alloc (.cells #[.int .i64 0,.int .i64 0,.int .i64 0] 44)) ∧
 Blk ((w.alloc (.cells (cmdC c hv ov).toArray 39)).alloc (.cells #[.int .i64 0,.int .i64 0,.int .i64 0] 44)) w.heap.size 39 (cmdC c hv ov) ∧
 Blk ((w.alloc (.cells (cmdC c hv ov).toArray 39)).alloc (.cells #[.int .i64 0,.int .i64 0,.int .i64 0] 44)) (w.heap.size + 1) 44 [.int .i64 0,.int .i64 0,.int .i64 0] ∧
 ((w.alloc (.cells (cmdC c hv ov).toArray 39)).alloc (.cells #[.int .i64 0,.int .i64 0,.int .i64 0] 44)).heap.size = w.heap.size + 2 := by
 have hk : Kp No w ((w.alloc (.cells (cmdC c hv ov).toArray 39)).alloc (.cells #[.int .i64 0,.int .i64 0,.int .i64 0] 44)) := ((Kp.refl _ _).alloc _).alloc _
 refine ⟨h.keptNo hk,hk,(Blk.new w _ _).kept (S := No) ((Kp.refl _ _).alloc _) (fun x => x),?_,by simp⟩
 have := Blk.new (w.alloc (.cells (cmdC c hv ov).toArray 39)) [.int .i64 0,.int .i64 0,.int .i64 0] 44
 simpa using this
set_option maxRecDepth 100000 in
set_option maxHeartbeats 1000000 in
theorem a_reign (c : CmdL) (hv ov : Value) (B : Nat) (l : Nat) (L : LV) (F : Nat → Prop) (w : World) (h : LAt w l L F) (hok : OkL B L) (hr : reignP c.epoch c.site) :
 Calls Tryz.prog 36 #[.pointer (some ⟨l,0,none⟩),cmdV c hv ov] w fun x w' => x = .returned (doneV (reignL c L).1) ∧ ∃ F',LAt w' l (reignL c L).2 F' ∧ Upd F w w' F' := by
 have HOK := Lib.hid hok
 have HRP := Lib.hid hr
 clear hok hr
 obtain ⟨x,hx⟩ : ∃ x,w.heap.size = x := ⟨_,rfl⟩
 obtain ⟨h1,h2,h3,h4,h5⟩ := begin_ h c hv ov
 have hfx : ¬ F x ∧ ¬ F (x + 1) := ⟨fun e => by have := h.lt _ e;omega,fun e => by have := h.lt _ e;omega⟩
 have HFX := Lib.hid hfx
 have hxl : l ≠ x ∧ l ≠ x + 1 := ⟨fun e => hfx.1 (e ▸ h.self),fun e => hfx.2 (e ▸ h.self)⟩
 have HXL := Lib.hid hxl
 obtain ⟨hxl1,hxl2⟩ := hxl
 obtain ⟨wa,hwa⟩ : ∃ wa,(w.alloc (.cells (cmdC c hv ov).toArray 39)).alloc (.cells #[.int .i64 0,.int .i64 0,.int .i64 0] 44) = wa := ⟨_,rfl⟩
 rw [hwa] at h1 h2 h3 h4 h5
 rw [hx] at h3 h4 h5
 unfold cmdC at h3 hwa
 obtain ⟨b1,b2,Ao,co,ll,hblk⟩ := h1.blk
 have HA := Lib.hid h1
 have HK := Lib.hid h2
 have HC := Lib.hid h3
 have HD := Lib.hid h4
 have HSA := Lib.hid h5
 have HB := Lib.hid hblk
 clear h1 h2 h4 h5 h hfx hblk
 unfold cmdV
 have HX := Lib.hid hx
 have k5 : wa.cell? ⟨l,5,none⟩ = some (.slice Ao L.ops.length co) := Blk.cell HB.out rfl
 have k7 : wa.cell? ⟨l,7,none⟩ = some (.int .i64 L.fence) := Blk.cell HB.out rfl
 have z1 : wa.cell? ⟨x,1,none⟩ = some (.int .i64 c.epoch) := Blk.cell h3 rfl
 have z2 : wa.cell? ⟨x,2,none⟩ = some (.int .i64 c.site) := Blk.cell h3 rfl
 have f7 := Blk.fr HB.out 7
 obtain ⟨ep,hep⟩ : ∃ ep,c.epoch = ep := ⟨_,rfl⟩
 obtain ⟨st,hst⟩ : ∃ st,c.site = st := ⟨_,rfl⟩
 obtain ⟨fe,hfe⟩ : ∃ fe,L.fence = fe := ⟨_,rfl⟩
 obtain ⟨n,hn⟩ : ∃ n,L.ops.length = n := ⟨_,rfl⟩
 have hn80 : n ≤ 80 := hn ▸ HOK.out.len
 rw [hep] at z1
 rw [hst] at z2
 rw [hfe] at k7
 rw [hn] at k5
 have HEP := Lib.hid hep
 have HST := Lib.hid hst
 have HFE := Lib.hid hfe
 have HNN := Lib.hid hn
 clear h3 hep hst hfe hn
 go_enter Tryz.func36,Tryz.ntmps36
 by_cases he : ep ≤ fe
 · have HL : Hid (reignL c L = (failD 120,L)) := Lib.hid (by unfold reignL;rw [HEP.out,HFE.out,if_pos he])
   rw [HL.out]
   go_upto_region 1 with fail
   clear hwa hx
   go_quiet (fail)
   go_wp2_with fail
   refine (l_failed 120 _).mono ?_
   rintro e w9 ⟨rfl,hk9⟩
   have hk9 := ((Kp.refl No wa).drewN _).trans' hk9
   have h9k := (HK.out).trans' hk9
   have h9a := (HA.out).keptNo hk9
   have h9d := (HD.out).kept hk9 (fun x => x)
   have H9K := Lib.hid h9k
   have H9A := Lib.hid h9a
   have H9D := Lib.hid h9d
   have g0 := Blk.fr h9d 0
   have g1 := Blk.fr h9d 1
   have g2 := Blk.fr h9d 2
   have u0 : w9.cell? ⟨x + 1,0,none⟩ = some _ := Blk.cell h9d rfl
   have u1 : w9.cell? ⟨x + 1,1,none⟩ = some _ := Blk.cell h9d rfl
   have u2 : w9.cell? ⟨x + 1,2,none⟩ = some _ := Blk.cell h9d rfl
   clear hk9 h9k h9a h9d
   go_wp2_with fail
   clear g0 g1 g2 u0 u1 u2
   obtain ⟨hkf,hbf⟩ := done_stored H9D.out (.int .i64 120) (.int .i64 0) (.int .i64 0)
   have hfd := HFX.out.2
   have hwx : w.heap.size = x := HX.out
   have hAf := (H9A.out).kept hkf (fun k hk e => hfd (e ▸ hk))
   have hKf := (H9K.out).trans hkf (fun i hi e => absurd hi (by omega))
   exact bodyPost_ret (results_cell_row rfl _ _ (x + 1) _ _ _ _ rfl hbf Tryz.underlying44 rfl (by kernel_rfl)) rfl ⟨by rfl,F,hAf,hKf.any,fun k hk => .inl hk⟩
 · by_cases hfull : n = 80
   · subst hfull
     have HL : Hid (reignL c L = (failD 125,L)) := Lib.hid (by unfold reignL;rw [HEP.out,HFE.out,if_neg he,HNN.out,if_pos (by omega)])
     rw [HL.out]
     go_upto_region 1 with fail
     clear hwa hx
     go_quiet (fail)
     go_wp2_with fail
     refine (l_failed 125 _).mono ?_
     rintro e w9 ⟨rfl,hk9⟩
     have hk9 := ((Kp.refl No wa).drewN _).trans' hk9
     have h9k := (HK.out).trans' hk9
     have h9a := (HA.out).keptNo hk9
     have h9d := (HD.out).kept hk9 (fun x => x)
     have H9K := Lib.hid h9k
     have H9A := Lib.hid h9a
     have H9D := Lib.hid h9d
     have g0 := Blk.fr h9d 0
     have g1 := Blk.fr h9d 1
     have g2 := Blk.fr h9d 2
     have u0 : w9.cell? ⟨x + 1,0,none⟩ = some _ := Blk.cell h9d rfl
     have u1 : w9.cell? ⟨x + 1,1,none⟩ = some _ := Blk.cell h9d rfl
     have u2 : w9.cell? ⟨x + 1,2,none⟩ = some _ := Blk.cell h9d rfl
     clear hk9 h9k h9a h9d
     go_wp2_with fail
     clear g0 g1 g2 u0 u1 u2
     obtain ⟨hkf,hbf⟩ := done_stored H9D.out (.int .i64 125) (.int .i64 0) (.int .i64 0)
     have hfd := HFX.out.2
     have hwx : w.heap.size = x := HX.out
     have hAf := (H9A.out).kept hkf (fun k hk e => hfd (e ▸ hk))
     have hKf := (H9K.out).trans hkf (fun i hi e => absurd hi (by omega))
     exact bodyPost_ret (results_cell_row rfl _ _ (x + 1) _ _ _ _ rfl hbf Tryz.underlying44 rfl (by kernel_rfl)) rfl ⟨by rfl,F,hAf,hKf.any,fun k hk => .inl hk⟩
   · have hnf : ¬ 80 ≤ (n : Int) := by omega
     have HL : Hid (reignL c L = putL reignOp ep st { L with fence := ep }) := Lib.hid (by unfold reignL;rw [HEP.out,HFE.out,if_neg he,HNN.out,if_neg hnf,HST.out])
     rw [HL.out]
     go_upto_region 1 with fail
     clear hwa hx
     go_quiet (fail)
     go_upto_region 6 with fail
     have hks : Kp (· = l) wa ((wa.drewN nq).setCell ⟨l,7,none⟩ (.int .i64 ep)) := ((Kp.refl (· = l) wa).drewN _).setCell (p := ⟨l,7,none⟩) (fun _ => rfl) _
     have hA5 := (HA.out.keptNo ((Kp.refl No wa).drewN nq)).fence ep
     have hD5 := HD.out.kept hks (fun e => hxl2 e.symm)
     have hC5 := HC.out.kept hks (fun e => hxl1 e.symm)
     obtain ⟨w5,hw5⟩ : ∃ w5,(wa.drewN nq).setCell ⟨l,7,none⟩ (.int .i64 ep) = w5 := ⟨_,rfl⟩
     rw [hw5] at hks hA5 hD5 hC5
     rw [hw5]
     clear hw5 z1 z2 k5 k7 f7
     rw [HEP.out,HST.out] at hC5
     have z1 : w5.cell? ⟨x,1,none⟩ = some (.int .i64 ep) := Blk.cell hC5 rfl
     have z2 : w5.cell? ⟨x,2,none⟩ = some (.int .i64 st) := Blk.cell hC5 rfl
     have hk5 : Kp F w w5 := HK.out.any.trans hks (fun i _ e => by rw [e];exact HA.out.self)
     have hs5 : x + 1 < w5.heap.size := Blk.lt hD5
     have HA5 := Lib.hid hA5
     have HD5 := Lib.hid hD5
     have HK5 := Lib.hid hk5
     have HS5 := Lib.hid hs5
     have hrp := HRP.out
     rw [HEP.out,HST.out] at hrp
     have HRP2 := Lib.hid hrp
     clear hks hA5 hD5 hC5 hk5 hs5 hrp
     go_wp2_with fail
     refine (a_put reignOp ep st none 0 No l { L with fence := ep } F w5 HA5.out ⟨none,0,rfl,Nat.le_refl _,by simp,fun h => absurd h (by simp [reignOp])⟩ ?hnum (by simp [reignOp]) (by show L.ops.length ≤ 1000;rw [HNN.out];omega) (by show FV.Ok L.fold L.ops.length;exact HOK.out.foldOk) (fun h => absurd h (by decide))).mono ?_
     case hnum =>
      have h1 := HRP2.out
      unfold reignP at h1
      show OpL.nums ⟨((L.ops.length : Nat) : Int) + 1,ep,3,st,0,0,ByteArray.empty,0,[]⟩
      rw [HNN.out]
      exact ⟨I64.of (by simp only;omega),I64.of (by simp only;omega),I64.of (by simp only;omega),I64.of (by simp only;omega),I64.of (by simp only;omega),I64.of (by simp only;omega),by simp [maxLen],I64.of (by simp only;omega)⟩
     rintro e w9 ⟨rfl,F',h9a,h9u⟩
     have h9d := HD5.out.kept h9u.kp (fun e => HFX.out.2 e)
     have H9A := Lib.hid h9a
     have H9U := Lib.hid h9u
     have H9D := Lib.hid h9d
     have g0 := Blk.fr h9d 0
     have g1 := Blk.fr h9d 1
     have g2 := Blk.fr h9d 2
     have u0 : w9.cell? ⟨x + 1,0,none⟩ = some _ := Blk.cell h9d rfl
     have u1 : w9.cell? ⟨x + 1,1,none⟩ = some _ := Blk.cell h9d rfl
     have u2 : w9.cell? ⟨x + 1,2,none⟩ = some _ := Blk.cell h9d rfl
     obtain ⟨⟨p0,p1,p2⟩,hp⟩ : ∃ p,(putL reignOp ep st { L with fence := ep }).1 = p := ⟨_,rfl⟩
     rw [hp]
     have HP := Lib.hid hp
     unfold doneV
     clear h9a h9u h9d hp z1 z2
     go_wp2_with fail
     clear g0 g1 g2 u0 u1 u2
     obtain ⟨hkf,hbf⟩ := done_stored H9D.out (.int .i64 p0) (.int .i64 p1) (.int .i64 p2)
     have hwx : w.heap.size = x := HX.out
     have hnf : ∀ k,F' k → k ≠ x + 1 := fun k hk e => by
      rcases (H9U.out).foot k hk with h | h
      · exact HFX.out.2 (e ▸ h)
      · have := HS5.out;omega
     have hAf := (H9A.out).kept hkf (fun k hk e => hnf k hk e)
     have hKf := ((HK5.out).trans (H9U.out).kp (fun _ _ e => e)).trans hkf (fun i hi e => absurd hi (by omega))
     have hF' : ∀ k,F' k → F k ∨ w.heap.size ≤ k := fun k hk => by
      rcases (H9U.out).foot k hk with h | h
      · exact .inl h
      · exact .inr (Nat.le_trans (HK5.out).size h)
     exact bodyPost_ret (results_cell_row rfl _ _ (x + 1) _ _ _ _ rfl hbf Tryz.underlying44 rfl (by kernel_rfl)) rfl ⟨by rw [HP.out];rfl,F',hAf,hKf,hF'⟩
set_option maxRecDepth 100000 in
set_option maxHeartbeats 1000000 in
theorem a_mark (c : CmdL) (hv ov : Value) (B : Nat) (l : Nat) (L : LV) (F : Nat → Prop) (w : World) (h : LAt w l L F) (hok : OkL B L) (hr : markP c) :
 Calls Tryz.prog 37 #[.pointer (some ⟨l,0,none⟩),cmdV c hv ov] w fun x w' => x = .returned (doneV (markL c L).1) ∧ ∃ F',LAt w' l (markL c L).2 F' ∧ Upd F w w' F' := by
 have HOK := Lib.hid hok
 have HRP := Lib.hid hr
 clear hok hr
 obtain ⟨P,hP⟩ : ∃ P,markL c L = P := ⟨_,rfl⟩
 rw [hP]
 have HP := Lib.hid hP
 clear hP
 obtain ⟨x,hx⟩ : ∃ x,w.heap.size = x := ⟨_,rfl⟩
 obtain ⟨h1,h2,h3,h4,h5⟩ := begin_ h c hv ov
 have hfx : ¬ F x ∧ ¬ F (x + 1) := ⟨fun e => by have := h.lt _ e;omega,fun e => by have := h.lt _ e;omega⟩
 have HFX := Lib.hid hfx
 have hxl : l ≠ x ∧ l ≠ x + 1 := ⟨fun e => hfx.1 (e ▸ h.self),fun e => hfx.2 (e ▸ h.self)⟩
 have HXL := Lib.hid hxl
 obtain ⟨hxl1,hxl2⟩ := hxl
 obtain ⟨wa,hwa⟩ : ∃ wa,(w.alloc (.cells (cmdC c hv ov).toArray 39)).alloc (.cells #[.int .i64 0,.int .i64 0,.int .i64 0] 44) = wa := ⟨_,rfl⟩
 rw [hwa] at h1 h2 h3 h4 h5
 rw [hx] at h3 h4 h5
 unfold cmdC at h3 hwa
 obtain ⟨b1,b2,Ao,co,ll,hblk⟩ := h1.blk
 have HA := Lib.hid h1
 have HK := Lib.hid h2
 have HC := Lib.hid h3
 have HD := Lib.hid h4
 have HSA := Lib.hid h5
 have HB := Lib.hid hblk
 clear h1 h2 h4 h5 h hfx hblk
 unfold cmdV
 have HX := Lib.hid hx
 obtain ⟨ep,hep⟩ : ∃ ep,c.epoch = ep := ⟨_,rfl⟩
 obtain ⟨st,hst⟩ : ∃ st,c.site = st := ⟨_,rfl⟩
 obtain ⟨fe,hfe⟩ : ∃ fe,L.fence = fe := ⟨_,rfl⟩
 obtain ⟨he,hhe⟩ : ∃ he,L.fold.hE = he := ⟨_,rfl⟩
 obtain ⟨hs,hhs⟩ : ∃ hs,L.fold.hS = hs := ⟨_,rfl⟩
 obtain ⟨sd,hsd⟩ : ∃ sd,L.settled = sd := ⟨_,rfl⟩
 obtain ⟨an,han⟩ : ∃ an,c.after = an := ⟨_,rfl⟩
 obtain ⟨ae,hae⟩ : ∃ ae,c.since = ae := ⟨_,rfl⟩
 have HEP := Lib.hid hep
 have HST := Lib.hid hst
 have HFE := Lib.hid hfe
 have HHE := Lib.hid hhe
 have HHS := Lib.hid hhs
 have HSD := Lib.hid hsd
 have HAN := Lib.hid han
 have HAE := Lib.hid hae
 have z1 : wa.cell? ⟨x,1,none⟩ = some (.int .i64 ep) := hep ▸ Blk.cell h3 rfl
 have z2 : wa.cell? ⟨x,2,none⟩ = some (.int .i64 st) := hst ▸ Blk.cell h3 rfl
 have z12 : wa.cell? ⟨x,12,none⟩ = some (.int .i64 an) := han ▸ Blk.cell h3 rfl
 have z13 : wa.cell? ⟨x,13,none⟩ = some (.int .i64 ae) := hae ▸ Blk.cell h3 rfl
 obtain ⟨wb,hwb⟩ : ∃ wb,wa.alloc (.cells #[.int .i64 an,.int .i64 ae] 42) = wb := ⟨_,rfl⟩
 have hkb : Kp No wa wb := by rw [← hwb];exact (Kp.refl _ _).alloc _
 have hy : Blk wb (x + 2) 42 [.int .i64 an,.int .i64 ae] := by
  rw [← hwb,← HSA.out];exact Blk.new wa _ _
 have hcb := h3.kept hkb (fun x => x)
 have hbb := HB.out.kept hkb (fun x => x)
 have k3 : wb.cell? ⟨l,3,none⟩ = some (.int .i64 he) := hhe ▸ Blk.cell hbb rfl
 have k4 : wb.cell? ⟨l,4,none⟩ = some (.int .i64 hs) := hhs ▸ Blk.cell hbb rfl
 have k7 : wb.cell? ⟨l,7,none⟩ = some (.int .i64 fe) := hfe ▸ Blk.cell hbb rfl
 have k8 : wb.cell? ⟨l,8,none⟩ = some (.int .i64 sd) := hsd ▸ Blk.cell hbb rfl
 have y1 : wb.cell? ⟨x,1,none⟩ = some (.int .i64 ep) := hep ▸ Blk.cell hcb rfl
 have y2 : wb.cell? ⟨x,2,none⟩ = some (.int .i64 st) := hst ▸ Blk.cell hcb rfl
 have s0 : wb.cell? ⟨x + 2,0,none⟩ = some (.int .i64 an) := Blk.cell hy rfl
 have s1 : wb.cell? ⟨x + 2,1,none⟩ = some (.int .i64 ae) := Blk.cell hy rfl
 have HY := Lib.hid hy
 have HKB := Lib.hid hkb
 have HSA' : wa.heap.size = x + 2 := HSA.out
 clear h3 hep hst hfe hhe hhs hsd han hae hkb hy hcb hbb
 go_enter Tryz.func37,Tryz.ntmps37
 go_upto_region 2 with fail
 try rw [hwb]
 clear hwa hx hwb HSA' z1 z2 z12 z13
 by_cases hh : holdsL ep st L
 case neg =>
  have hPe : P = (failD 120,L) := by rw [← HP.out];unfold markL;rw [HEP.out,HST.out,if_neg hh]
  subst hPe
  clear HP
  unfold holdsL at hh
  rw [HFE.out,HHE.out,HHS.out] at hh
  have HHH := Lib.hid hh
  clear hh
  by_cases e1 : ep = fe
  · subst e1
    by_cases e2 : he = ep
    · subst e2
      have e3 : ¬ hs = st := fun e => HHH.out ⟨rfl,rfl,e⟩
      have b3 : (hs == st) = false := beq_eq_false_iff_ne.2 e3
      clear e3
      go_quiet (fail)
      go_wp2_with fail
      refine (l_failed 120 _).mono ?_
      rintro e w9 ⟨rfl,hk9⟩
      have hk9 := (HKB.out.trans' ((Kp.refl No wb).drewN _)).trans' hk9
      have h9k := (HK.out).trans' hk9
      have h9a := (HA.out).keptNo hk9
      have h9d := (HD.out).kept hk9 (fun x => x)
      have H9K := Lib.hid h9k
      have H9A := Lib.hid h9a
      have H9D := Lib.hid h9d
      have g0 := Blk.fr h9d 0
      have g1 := Blk.fr h9d 1
      have g2 := Blk.fr h9d 2
      have u0 : w9.cell? ⟨x + 1,0,none⟩ = some _ := Blk.cell h9d rfl
      have u1 : w9.cell? ⟨x + 1,1,none⟩ = some _ := Blk.cell h9d rfl
      have u2 : w9.cell? ⟨x + 1,2,none⟩ = some _ := Blk.cell h9d rfl
      clear hk9 h9k h9a h9d
      go_wp2_with fail
      clear g0 g1 g2 u0 u1 u2
      obtain ⟨hkf,hbf⟩ := done_stored H9D.out (.int .i64 120) (.int .i64 0) (.int .i64 0)
      have hfd := HFX.out.2
      have hwx : w.heap.size = x := HX.out
      have hAf := (H9A.out).kept hkf (fun k hk e => hfd (e ▸ hk))
      have hKf := (H9K.out).trans hkf (fun i hi e => absurd hi (by omega))
      exact bodyPost_ret (results_cell_row rfl _ _ (x + 1) _ _ _ _ rfl hbf Tryz.underlying44 rfl (by kernel_rfl)) rfl ⟨by rfl,F,hAf,hKf.any,fun k hk => .inl hk⟩
    · have b2 : (he == ep) = false := beq_eq_false_iff_ne.2 e2
      clear e2
      go_quiet (fail)
      go_wp2_with fail
      refine (l_failed 120 _).mono ?_
      rintro e w9 ⟨rfl,hk9⟩
      have hk9 := (HKB.out.trans' ((Kp.refl No wb).drewN _)).trans' hk9
      have h9k := (HK.out).trans' hk9
      have h9a := (HA.out).keptNo hk9
      have h9d := (HD.out).kept hk9 (fun x => x)
      have H9K := Lib.hid h9k
      have H9A := Lib.hid h9a
      have H9D := Lib.hid h9d
      have g0 := Blk.fr h9d 0
      have g1 := Blk.fr h9d 1
      have g2 := Blk.fr h9d 2
      have u0 : w9.cell? ⟨x + 1,0,none⟩ = some _ := Blk.cell h9d rfl
      have u1 : w9.cell? ⟨x + 1,1,none⟩ = some _ := Blk.cell h9d rfl
      have u2 : w9.cell? ⟨x + 1,2,none⟩ = some _ := Blk.cell h9d rfl
      clear hk9 h9k h9a h9d
      go_wp2_with fail
      clear g0 g1 g2 u0 u1 u2
      obtain ⟨hkf,hbf⟩ := done_stored H9D.out (.int .i64 120) (.int .i64 0) (.int .i64 0)
      have hfd := HFX.out.2
      have hwx : w.heap.size = x := HX.out
      have hAf := (H9A.out).kept hkf (fun k hk e => hfd (e ▸ hk))
      have hKf := (H9K.out).trans hkf (fun i hi e => absurd hi (by omega))
      exact bodyPost_ret (results_cell_row rfl _ _ (x + 1) _ _ _ _ rfl hbf Tryz.underlying44 rfl (by kernel_rfl)) rfl ⟨by rfl,F,hAf,hKf.any,fun k hk => .inl hk⟩
  · have b1 : (ep == fe) = false := beq_eq_false_iff_ne.2 e1
    have b1n : (ep != fe) = true := by simp [e1]
    clear e1
    go_quiet (fail)
    go_wp2_with fail
    refine (l_failed 120 _).mono ?_
    rintro e w9 ⟨rfl,hk9⟩
    have hk9 := (HKB.out.trans' ((Kp.refl No wb).drewN _)).trans' hk9
    have h9k := (HK.out).trans' hk9
    have h9a := (HA.out).keptNo hk9
    have h9d := (HD.out).kept hk9 (fun x => x)
    have H9K := Lib.hid h9k
    have H9A := Lib.hid h9a
    have H9D := Lib.hid h9d
    have g0 := Blk.fr h9d 0
    have g1 := Blk.fr h9d 1
    have g2 := Blk.fr h9d 2
    have u0 : w9.cell? ⟨x + 1,0,none⟩ = some _ := Blk.cell h9d rfl
    have u1 : w9.cell? ⟨x + 1,1,none⟩ = some _ := Blk.cell h9d rfl
    have u2 : w9.cell? ⟨x + 1,2,none⟩ = some _ := Blk.cell h9d rfl
    clear hk9 h9k h9a h9d
    go_wp2_with fail
    clear g0 g1 g2 u0 u1 u2
    obtain ⟨hkf,hbf⟩ := done_stored H9D.out (.int .i64 120) (.int .i64 0) (.int .i64 0)
    have hfd := HFX.out.2
    have hwx : w.heap.size = x := HX.out
    have hAf := (H9A.out).kept hkf (fun k hk e => hfd (e ▸ hk))
    have hKf := (H9K.out).trans hkf (fun i hi e => absurd hi (by omega))
    exact bodyPost_ret (results_cell_row rfl _ _ (x + 1) _ _ _ _ rfl hbf Tryz.underlying44 rfl (by kernel_rfl)) rfl ⟨by rfl,F,hAf,hKf.any,fun k hk => .inl hk⟩
 case pos =>
  have hP2 : P = if hasL an ae L = true then ((0,an,ae),{ L with settled := max sd an }) else (failD 121,L) := by rw [← HP.out];unfold markL;rw [HEP.out,HST.out,if_pos hh,HAN.out,HAE.out,HSD.out]
  have HP2 := Lib.hid hP2
  have hrp := HRP.out
  unfold markP at hrp
  rw [HAN.out,HAE.out,HEP.out] at hrp
  have HRP2 := Lib.hid hrp
  have hset := HOK.out.settled
  rw [HSD.out] at hset
  have hlen := HOK.out.len
  have HSET := Lib.hid hset
  unfold holdsL at hh
  rw [HFE.out,HHE.out,HHS.out] at hh
  obtain ⟨hh1,hh2,hh3⟩ := hh
  subst hh1 hh2 hh3
  have HAB := Lib.hid (HA.out.keptNo HKB.out)
  have HDB := Lib.hid (HD.out.kept HKB.out (fun x => x))
  clear hP2 hrp HRP HP hset hlen
  go_quiet (fail)
  go_wp2_with fail
  refine (a_has an ae l L F _ (HAB.out.keptNo ((Kp.refl No wb).drewN _)) (by have := HRP2.out;omega) (by have := HOK.out.len;omega)).mono ?_
  rintro e w5 ⟨rfl,hk5⟩
  have hk5 := ((Kp.refl No wb).drewN _).trans' hk5
  have hy5 := HY.out.kept hk5 (fun x => x)
  have hd5 := HDB.out.kept hk5 (fun x => x)
  have ha5 := HAB.out.keptNo hk5
  have hb5 := HB.out.kept (HKB.out.trans' hk5) (fun x => x)
  have HA5 := Lib.hid ha5
  have HD5 := Lib.hid hd5
  have HK5 := Lib.hid ((HK.out.trans' HKB.out).trans' hk5)
  have HY5 := Lib.hid hy5
  have k8' : w5.cell? ⟨l,8,none⟩ = some (.int .i64 sd) := HSD.out ▸ Blk.cell hb5 rfl
  have f8 := Blk.fr hb5 8
  have t0 : w5.cell? ⟨x + 2,0,none⟩ = some (.int .i64 an) := Blk.cell hy5 rfl
  have t1 : w5.cell? ⟨x + 2,1,none⟩ = some (.int .i64 ae) := Blk.cell hy5 rfl
  have hHB : Hid (HB = HB) := Lib.hid rfl
  clear k3 k4 k7 k8 y1 y2 s0 s1 hk5 hy5 hd5 ha5 hb5 HKB HAB HDB HY hHB
  obtain ⟨H,hH⟩ : ∃ H,hasL an ae L = H := ⟨_,rfl⟩
  rw [hH] at HP2
  rw [hH]
  clear hH
  cases H
  · have hPe : P = (failD 121,L) := HP2.out
    subst hPe
    clear HP2
    go_wp2_with fail
    refine (l_failed 121 _).mono ?_
    rintro e w9 ⟨rfl,hk9⟩
    have hk9 := ((Kp.refl No w5)).trans' hk9
    have h9k := (HK5.out).trans' hk9
    have h9a := (HA5.out).keptNo hk9
    have h9d := (HD5.out).kept hk9 (fun x => x)
    have H9K := Lib.hid h9k
    have H9A := Lib.hid h9a
    have H9D := Lib.hid h9d
    have g0 := Blk.fr h9d 0
    have g1 := Blk.fr h9d 1
    have g2 := Blk.fr h9d 2
    have u0 : w9.cell? ⟨x + 1,0,none⟩ = some _ := Blk.cell h9d rfl
    have u1 : w9.cell? ⟨x + 1,1,none⟩ = some _ := Blk.cell h9d rfl
    have u2 : w9.cell? ⟨x + 1,2,none⟩ = some _ := Blk.cell h9d rfl
    clear hk9 h9k h9a h9d
    go_wp2_with fail
    clear g0 g1 g2 u0 u1 u2
    obtain ⟨hkf,hbf⟩ := done_stored H9D.out (.int .i64 121) (.int .i64 0) (.int .i64 0)
    have hfd := HFX.out.2
    have hwx : w.heap.size = x := HX.out
    have hAf := (H9A.out).kept hkf (fun k hk e => hfd (e ▸ hk))
    have hKf := (H9K.out).trans hkf (fun i hi e => absurd hi (by omega))
    exact bodyPost_ret (results_cell_row rfl _ _ (x + 1) _ _ _ _ rfl hbf Tryz.underlying44 rfl (by kernel_rfl)) rfl ⟨by rfl,F,hAf,hKf.any,fun k hk => .inl hk⟩
  · have hPe : P = ((0,an,ae),{ L with settled := max sd an }) := HP2.out
    obtain ⟨M,hM⟩ : ∃ M,max sd an = M := ⟨_,rfl⟩
    rw [hM] at hPe
    subst hPe
    clear HP2
    have HM := Lib.hid hM
    have hsdb := HSET.out
    have hlen := HOK.out.len
    have hanb := HRP2.out
    have hsd1 : 0 ≤ sd ∧ sd ≤ 80 := ⟨hsdb.1,by omega⟩
    obtain ⟨hsd2,hsd3⟩ := hsd1
    have han2 := hanb.1
    have han3 := hanb.2.1
    clear hsdb hlen hanb
    go_upto_region 6 with fail
    refine Reg.wp_region_plan [⟨0,false,[]⟩,⟨1,false,[]⟩,⟨2,false,[]⟩,⟨3,false,[]⟩,⟨4,false,[]⟩,⟨5,false,[]⟩,⟨6,false,[]⟩,⟨7,false,[]⟩,⟨8,false,[]⟩,⟨9,false,[]⟩,⟨10,true,[]⟩] rfl (by kernel_rfl) ?_
    repeat (first | (refine Reg.look rfl rfl rfl (by go_simp;rfl) rfl ?_;go_simp) | (refine Reg.skip rfl rfl rfl ?_;go_simp))
    obtain ⟨e9,he9⟩ : ∃ e9,(if sd < an then an else sd) = e9 := ⟨_,rfl⟩
    have hMe : e9 = M := by rw [← he9,← hM];split <;> omega
    rw [he9,hMe]
    refine Reg.act rfl ?_
    go_wp2_with fail
    (refine ⟨?anew,?_⟩;case anew => ((repeat (refine Reg.anew_cons rfl rfl (fun _ => by go_simp) ?_));exact Reg.anew_nil))
    repeat (first | (refine Reg.look rfl rfl rfl (by go_simp;rfl) rfl ?_;go_simp) | (refine Reg.skip rfl rfl rfl ?_;go_simp))
    (refine Reg.done ?_;simp only [Exit.then])
    have hks : Kp (· = l) w5 (w5.setCell ⟨l,8,none⟩ (.int .i64 M)).drew := ((Kp.refl (· = l) w5).setCell (p := ⟨l,8,none⟩) (fun _ => rfl) _).drew
    have hA6 := (HA5.out.settled M).keptNo ((Kp.refl No _).drew)
    have hD6 := HD5.out.kept hks (fun e => hxl2 e.symm)
    have hY6 := HY5.out.kept hks (fun e => by have h1 := HA5.out.lt l HA5.out.self;have h2 := HFX.out;have h3 := HA.out.lt l HA.out.self;have h4 := HSA.out;omega)
    have hK6 : Kp F w (w5.setCell ⟨l,8,none⟩ (.int .i64 M)).drew := HK5.out.any.trans hks (fun i _ e => by rw [e];exact HA5.out.self)
    obtain ⟨w6,hw6⟩ : ∃ w6,(w5.setCell ⟨l,8,none⟩ (.int .i64 M)).drew = w6 := ⟨_,rfl⟩
    rw [hw6] at hA6 hD6 hY6 hK6
    rw [hw6]
    have HA6 := Lib.hid hA6
    have HD6 := Lib.hid hD6
    have HK6 := Lib.hid hK6
    clear hw6 hks hA6 hK6 k8' f8 t0 t1 hM he9 hMe HY5 HA5 HD5 HK5
    have t0 : w6.cell? ⟨x + 2,0,none⟩ = some (.int .i64 an) := Blk.cell hY6 rfl
    have t1 : w6.cell? ⟨x + 2,1,none⟩ = some (.int .i64 ae) := Blk.cell hY6 rfl
    have u0 : w6.cell? ⟨x + 1,0,none⟩ = some _ := Blk.cell hD6 rfl
    have u1 : w6.cell? ⟨x + 1,1,none⟩ = some _ := Blk.cell hD6 rfl
    have u2 : w6.cell? ⟨x + 1,2,none⟩ = some _ := Blk.cell hD6 rfl
    have g0 := Blk.fr hD6 0
    have g1 := Blk.fr hD6 1
    have g2 := Blk.fr hD6 2
    clear hD6 hY6
    go_wp2_with fail
    clear g0 g1 g2 u0 u1 u2 t0 t1
    obtain ⟨hkf,hbf⟩ := done_stored HD6.out (.int .i64 0) (.int .i64 an) (.int .i64 ae)
    have hfd := HFX.out.2
    have hwx : w.heap.size = x := HX.out
    have hAf := (HA6.out).kept hkf (fun k hk e => hfd (e ▸ hk))
    have hKf := (HK6.out).trans hkf (fun i hi e => absurd hi (by omega))
    exact bodyPost_ret (results_cell_row rfl _ _ (x + 1) _ _ _ _ rfl hbf Tryz.underlying44 rfl (by kernel_rfl)) rfl ⟨by rfl,F,hAf,hKf,fun k hk => .inl hk⟩
end
section
open Go.RowKit Go.ChangeShapes Go.WideShapes Go.ChangeAt
set_option maxRecDepth 100000 in
theorem l_fresh (w : World) : Calls Tryz.prog 27 #[] w fun e w' => ∃ b1 b2,e = .returned (.agg #[.map (some b1),.int .i64 0,.map (some b2),.int .i64 0,.int .i64 0]) ∧ (∀ S,MapRp Rp.sht w' S b1 Value.string []) ∧ (∀ S,MapRp Rp.opl w' S b2 (Value.int .i64) []) ∧ b1 ≠ b2 ∧ w.heap.size ≤ b1 ∧ w.heap.size ≤ b2 ∧ Kp No w w' := by
 have hmm := @run_makeMap Tryz.prog
 go_enter Tryz.func27,Tryz.ntmps27
 go_wp2_with fail
 clear hmm
 obtain ⟨g,hg⟩ : ∃ g,w.heap.size = g := ⟨_,rfl⟩
 rw [hg]
 obtain ⟨w1,hw1⟩ : ∃ w1,w.alloc (.cells #[.map (some (g + 1)),.int .i64 0,.map (some (g + 1 + 1)),.int .i64 0,.int .i64 0] 87) = w1 := ⟨_,rfl⟩
 have hs1 : w1.heap.size = g + 1 := by rw [← hw1,← hg];simp
 have hb1 : Blk w1 g 87 [.map (some (g + 1)),.int .i64 0,.map (some (g + 1 + 1)),.int .i64 0,.int .i64 0] := by rw [← hw1,← hg];exact Blk.new w _ _
 have hk1 : Kp No w w1 := by rw [← hw1];exact (Kp.refl _ _).alloc _
 rw [hw1]
 obtain ⟨w2,hw2⟩ : ∃ w2,w1.alloc (.map #[] 0) = w2 := ⟨_,rfl⟩
 have hs2 : w2.heap.size = g + 1 + 1 := by rw [← hw2,← hs1];simp
 have hm2 : ∀ S,MapRp Rp.sht w2 S (g + 1) Value.string [] := fun S => by rw [← hw2,← hs1];exact MapRp.made w1 S
 have hk2 : Kp No w1 w2 := by rw [← hw2];exact (Kp.refl _ _).alloc _
 rw [hw2]
 have hk3 : Kp No w2 (w2.alloc (.map #[] 0)) := (Kp.refl _ _).alloc _
 have hm3 : ∀ S,MapRp Rp.opl (w2.alloc (.map #[] 0)) S (g + 1 + 1) (Value.int .i64) [] := fun S => by rw [← hs2];exact MapRp.made w2 S
 have hb3 : Blk (w2.alloc (.map #[] 0)) g 87 [.map (some (g + 1)),.int .i64 0,.map (some (g + 1 + 1)),.int .i64 0,.int .i64 0] := hb1.kept (hk2.trans' hk3) (fun x => x)
 clear hw1 hw2
 exact bodyPost_ret (results_cell_row rfl _ _ g _ _ _ _ rfl hb3 Tryz.underlying87 rfl (by kernel_rfl)) rfl ⟨_,_,rfl,fun S => (hm2 S).keptNo hk3,hm3,by omega,by omega,by omega,(hk1.trans' hk2).trans' hk3⟩
theorem Own.bare_any {w : World} {S S' : Nat → Prop} {base : Nat} {e : TypeId} {v : Value} {l : List OpL} (h : Own Rp.opl w S base e v l) (hb : ∀ o ∈ l,o.hashes = []) : Own Rp.opl w S' base e v l := by
 obtain ⟨xs,h1,h2,h3⟩ := h
 refine ⟨xs,h1,h2,fun i a ha => ?_⟩
 obtain ⟨u,h4,h5,A,c,h6,h7,h8,_⟩ := h3 i a ha
 have hz := hb a (List.mem_of_getElem? ha)
 exact ⟨u,h4,h5,A,c,h6,h7,h8,fun h => by rw [hz] at h;exact absurd h (by simp)⟩
namespace LIn
variable {w w' : World} {l b1 b2 : Nat} {ov lv : Value} {S T : Nat → Prop} {f : FV} {L : LV}
theorem lostGrown (h : LIn w l b1 b2 ov lv S f L) {m : List OpL} {v' : Value} (hown : Own Rp.opl w' S 0 36 v' (L.lost ++ m)) (hg : w.grownBy w' lv.ownBlock)
 (hb : v'.ownBlock = lv.ownBlock ∨ v'.ownBlock = some w.heap.size) :
 LIn (w'.setCell ⟨l,6,none⟩ v') l b1 b2 ov v' S f { L with lost := L.lost ++ m } ∧ Kp (fun k => k = l ∨ lv.ownBlock = some k) w (w'.setCell ⟨l,6,none⟩ v') := by
 have hk1 : Kp (fun k => lv.ownBlock = some k) w w' := (Kp.refl _ _).grown hg (fun g hg _ => hg)
 have hk2 : Kp (· = l) w' (w'.setCell ⟨l,6,none⟩ v') := (Kp.refl (· = l) w').setCell (p := ⟨l,6,none⟩) (fun _ => rfl) _
 have hk : Kp (fun k => k = l ∨ lv.ownBlock = some k) w (w'.setCell ⟨l,6,none⟩ v') := (hk1.mono (fun _ _ e => .inr e)).trans (hk2.mono (fun _ _ e => .inl e)) (fun _ _ e => e)
 have hob : ∀ k,lv.ownBlock = some k → k ≠ l := fun k hk e => h.ll k hk (.inl e)
 have hfat : FAt w' l [ov,lv,.int .i64 L.fence,.int .i64 L.settled,.int .i64 L.quota,.int .i64 L.room] b1 b2 S f :=
  h.fat.kept hk1 (fun e => h.ll l e (.inl rfl)) (fun e => h.ll b1 e (.inr (.inl rfl))) (fun e => h.ll b2 e (.inr (.inr rfl))) (fun k hs _ e => h.sl k e hs)
 have hs2 : ∀ k,S k → k < w'.heap.size → ¬ k = l := fun k hk _ e => h.fat.s0 (e ▸ hk)
 have hvb : ∀ k,v'.ownBlock = some k → lv.ownBlock = some k ∨ k = w.heap.size := by
  intro k hk
  rcases hb with e | e
  · exact .inl (e ▸ hk)
  · rw [e] at hk;injection hk with hk;exact .inr hk.symm
 refine ⟨⟨⟨Blk.set hfat.blk 6 _,hfat.live.kept hk2 (fun e => hfat.l1 e.symm) hs2,hfat.last.kept hk2 (fun e => hfat.l2 e.symm) hs2,hfat.ne,hfat.s0,hfat.s1,hfat.s2⟩,
  (h.ops.kept hk1 (fun k hs _ e => h.sl k e hs) (fun k hv e => h.apart k hv e)).kept hk2 hs2 (fun k hv e => h.ol k hv (.inl e)),hown.kept hk2 hs2 (fun k hv e => ?_),fun k hv hl => ?_,h.so,fun k hv hs => ?_,fun k hs => ?_⟩,hk⟩
 · rcases hvb k hv with e2 | e2
   · exact hob k e2 e
   · have := Blk.lt h.fat.blk;omega
 · rcases hvb k hl with e2 | e2
   · exact h.apart k hv e2
   · have := (h.ops.lt k hv).2;omega
 · rcases hvb k hv with e2 | e2
   · exact h.sl k e2 hs
   · have := h.sb k hs;omega
 · have := h.sb k hs
   have := hk.size
   omega
theorem parted (h : LIn w l b1 b2 ov lv S f L) {w9 : World} {m : List OpL} {v8 : Value} {b1' b2' : Nat} {g base : Nat} (hg : ov.ownBlock = some g) (hb : w.heap.size ≤ base) (h8 : Own Rp.opl w9 (fun k => S k ∨ k = g) base 36 v8 m) (hm1 : MapRp Rp.sht w9 (fun k => S k ∨ k = g) b1' Value.string []) (hm2 : MapRp Rp.opl w9 (fun k => S k ∨ k = g) b2' (Value.int .i64) []) (hn1 : b1' ≠ b2')
 (hb1 : w.heap.size ≤ b1') (hb2 : w.heap.size ≤ b2') (hk : Kp No w w9) :
 LIn ((((((w9.setCell ⟨l,5,none⟩ v8).setCell ⟨l,0,none⟩ (.map (some b1'))).setCell ⟨l,1,none⟩ (.int .i64 0)).setCell ⟨l,2,none⟩ (.map (some b2'))).setCell ⟨l,3,none⟩ (.int .i64 0)).setCell ⟨l,4,none⟩ (.int .i64 0)) l b1' b2' v8 lv (fun k => S k ∨ k = g) FV.fresh { L with ops := m } ∧
 Kp (· = l) w9 ((((((w9.setCell ⟨l,5,none⟩ v8).setCell ⟨l,0,none⟩ (.map (some b1'))).setCell ⟨l,1,none⟩ (.int .i64 0)).setCell ⟨l,2,none⟩ (.map (some b2'))).setCell ⟨l,3,none⟩ (.int .i64 0)).setCell ⟨l,4,none⟩ (.int .i64 0)) := by
 have hk2 : Kp (· = l) w9 ((((((w9.setCell ⟨l,5,none⟩ v8).setCell ⟨l,0,none⟩ (.map (some b1'))).setCell ⟨l,1,none⟩ (.int .i64 0)).setCell ⟨l,2,none⟩ (.map (some b2'))).setCell ⟨l,3,none⟩ (.int .i64 0)).setCell ⟨l,4,none⟩ (.int .i64 0)) :=
  ((((((Kp.refl (· = l) w9).setCell (p := ⟨l,5,none⟩) (fun _ => rfl) _).setCell (p := ⟨l,0,none⟩) (fun _ => rfl) _).setCell (p := ⟨l,1,none⟩) (fun _ => rfl) _).setCell (p := ⟨l,2,none⟩) (fun _ => rfl) _).setCell (p := ⟨l,3,none⟩) (fun _ => rfl) _).setCell (p := ⟨l,4,none⟩) (fun _ => rfl) _
 have hlw : l < w.heap.size := Blk.lt h.fat.blk
 have hgl : g ≠ l := fun e => h.ol g hg (.inl e)
 have hgw : g < w.heap.size := (h.ops.lt g hg).2
 have hs2 : ∀ k,(S k ∨ k = g) → k < w9.heap.size → ¬ k = l := by
  rintro k (hk | hk) _ e
  · exact h.fat.s0 (e ▸ hk)
  · exact hgl (hk ▸ e)
 have hsb : ∀ k,(S k ∨ k = g) → k < w.heap.size := by
  rintro k (hk | hk)
  · exact h.sb k hk
  · omega
 have h9 := h.keptNo hk
 have hu : FV.fresh.used = 0 := rfl
 refine ⟨⟨⟨?_,hm1.kept hk2 (by omega) hs2,hm2.kept hk2 (by omega) hs2,hn1,?_,?_,?_⟩,(h8.mono (Nat.zero_le _) (fun _ x => x)).kept hk2 hs2 (fun k hv e => ?_),((h9.lost).mono (Nat.le_refl _) (fun _ x => .inl x)).kept hk2 hs2 (fun k hv e => h.ll k hv (.inl e)),fun k hv hl => ?_,fun k hv hs => ?_,fun k hl hs => ?_,fun k hs => ?_⟩,hk2⟩
 · exact Blk.set (Blk.set (Blk.set (Blk.set (Blk.set (Blk.set h9.fat.blk 5 v8) 0 _) 1 _) 2 _) 3 _) 4 _
 · rintro (e | e)
   · exact h.fat.s0 e
   · exact hgl e.symm
 · intro e;have := hsb _ e;omega
 · intro e;have := hsb _ e;omega
 · have := (h8.lt k hv).1;omega
 · have h1 := (h8.lt k hv).1
   have h2 := (h.lost.lt k hl).2
   omega
 · have h1 := (h8.lt k hv).1
   have h2 := hsb k hs
   omega
 · rcases hs with hs | hs
   · exact h.sl k hl hs
   · exact h.apart g hg (hs ▸ hl)
 · have h1 := hsb k hs
   have h2 := hk.size
   have h3 := hk2.size
   omega
end LIn
theorem dropTake {α : Type} {l : List α} {n j : Nat} {a : α} (h : l[n + j]? = some a) : (l.drop n).take (j + 1) = (l.drop n).take j ++ [a] := by
 refine takeC ?_
 rw [List.getElem?_drop];exact h
set_option maxRecDepth 100000 in
set_option maxHeartbeats 2000000 in
theorem l_part (n : Nat) (l b1 b2 : Nat) (ov lv : Value) (S : Nat → Prop) (L : LV) (w : World) (h : LIn w l b1 b2 ov lv S L.fold L) (hsz : ∀ o ∈ L.ops,o.kind = 1 → Small o.size) (hl : L.ops.length ≤ 1000) (hlost : L.lost.length ≤ 900000) (hbare : ∀ o ∈ L.lost,o.hashes = []) (hset : 0 ≤ L.settled ∧ L.settled ≤ 1000) :
 Calls Tryz.prog 97 #[.pointer (some ⟨l,0,none⟩),.int .i64 (n : Int)] w fun x w' => x = .returned (.tuple #[]) ∧
  ∃ b1' b2' ov' lv' S',LIn w' l b1' b2' ov' lv' S' (partL n L).fold (partL n L) ∧ Upd (Foot l b1 b2 ov lv S) w w' (Foot l b1' b2' ov' lv' S') := by
 obtain ⟨A,c,hov⟩ := h.oshape
 subst hov
 have H := Lib.hid h
 have HSZ := Lib.hid hsz
 have HBARE := Lib.hid hbare
 have HSET := Lib.hid hset
 have HLOST := Lib.hid hlost
 obtain ⟨P,hP⟩ : ∃ P,partL n L = P := ⟨_,rfl⟩
 rw [hP]
 have HP := Lib.hid hP
 have k5 : w.cell? ⟨l,5,none⟩ = some (.slice A L.ops.length c) := Blk.cell h.fat.blk rfl
 obtain ⟨m,hm⟩ : ∃ m,L.ops.length = m := ⟨_,rfl⟩
 have HM := Lib.hid hm
 rw [hm] at k5
 have hm1 : m ≤ 1000 := by omega
 clear h hsz hbare hset hlost hP hm hl
 by_cases hle : m ≤ n
 · have hPe : P = L := by rw [← HP.out];unfold partL;rw [HM.out,if_pos hle]
   subst hPe
   have hni : (m : Int) ≤ (n : Int) := by omega
   clear HP hle
   go_enter Tryz.func97,Tryz.ntmps97
   go_wp2_with fail
   refine bodyPost_ret (results_none rfl _ _ _) rfl ?_
   exact ⟨rfl,_,_,_,_,_,H.out,Upd.refl _ _⟩
 have hPe : P = { L with lost := L.lost ++ (L.ops.drop n).map OpL.stripped,settled := min L.settled n,ops := L.ops.take n } := by rw [← HP.out];unfold partL;rw [HM.out,if_neg hle]
 have HPE := Lib.hid hPe
 have hni : ¬ (m : Int) ≤ (n : Int) := by omega
 have hnm : (n : Int) < (m : Int) := by omega
 have hnm2 : n < m := by omega
 clear HP hPe hle
 obtain ⟨o0,ho0⟩ : ∃ o,L.ops[0]? = some o := ⟨_,List.getElem?_eq_getElem (by have := HM.out;omega)⟩
 obtain ⟨g,_,_,rfl,-⟩ := Own.at_opl H.out.ops ho0
 have hmc : m ≤ c := by
  obtain ⟨xs,⟨_,h1⟩,_⟩ := H.out.ops
  rcases h1 with ⟨he,_⟩ | ⟨g',cap,cur,he,_,_,hn,_⟩
  · cases he
  · injection he with he1 he2 he3
    have := HM.out
    omega
 clear ho0
 go_enter Tryz.func97,Tryz.ntmps97
 have hlx := H.out.lshape
 go_wp2_with fail
 clear k5 hlx
 go_loopw [20] (fun iv wr => ∃ (j : Nat) (Al : Option Addr) (cl : Nat),j ≤ m - n ∧ iv = .int .i64 (j : Int) ∧ Hid (LIn wr l b1 b2 (.slice (some ⟨g,0,none⟩) L.ops.length c) (.slice Al (L.lost.length + j) cl) S L.fold { L with lost := L.lost ++ ((L.ops.drop n).take j).map OpL.stripped }) ∧ Hid (Kp (Foot l b1 b2 (.slice (some ⟨g,0,none⟩) L.ops.length c) lv S) w wr) ∧ Hid (∀ k,(Value.slice Al (L.lost.length + j) cl).ownBlock = some k → lv.ownBlock = some k ∨ w.heap.size ≤ k)) (fun iv _ => (m - n) - (intOf iv).toNat)
 case atStart =>
  obtain ⟨Al,cl,e⟩ := H.out.lshape
  refine ⟨0,Al,cl,Nat.zero_le _,rfl,Lib.hid ?_,Lib.hid (Kp.refl _ _),Lib.hid (fun k hk => ?_)⟩
  · have h := H.out
    rw [e] at h
    simpa using h
  · rw [e];exact .inl hk
 case round =>
  obtain ⟨j,Al,cl,hj,rfl,HL,HK,HB⟩ := hrel
  by_cases hlt : j < m - n
  · have hji : (j : Int) < (m : Int) - (n : Int) := by omega
    obtain ⟨o,ho⟩ : ∃ o,L.ops[n + j]? = some o := ⟨_,List.getElem?_eq_getElem (by have := HM.out;omega)⟩
    have hst := dropTake ho
    obtain ⟨g',A',c',hg',_,_,hcell,_,hnum,_⟩ := Own.at_opl HL.out.ops ho
    injection hg' with hg'
    injection hg' with hg'
    subst hg'
    have HST := Lib.hid hst
    have HNUM := Lib.hid hnum
    have z0 : wr.cell? ⟨g,n * 9 + j * 9,none⟩ = some (.int .i64 o.n) := (Nat.add_mul n j 9) ▸ hcell 0 _ rfl
    have z1 : wr.cell? ⟨g,n * 9 + j * 9 + 1,none⟩ = some (.int .i64 o.epoch) := (Nat.add_mul n j 9) ▸ hcell 1 _ rfl
    have z2 : wr.cell? ⟨g,n * 9 + j * 9 + 2,none⟩ = some (.int .i64 o.kind) := (Nat.add_mul n j 9) ▸ hcell 2 _ rfl
    have z3 : wr.cell? ⟨g,n * 9 + j * 9 + 3,none⟩ = some (.int .i64 o.site) := (Nat.add_mul n j 9) ▸ hcell 3 _ rfl
    have z4 : wr.cell? ⟨g,n * 9 + j * 9 + 4,none⟩ = some (.int .i64 o.client) := (Nat.add_mul n j 9) ▸ hcell 4 _ rfl
    have z5 : wr.cell? ⟨g,n * 9 + j * 9 + 5,none⟩ = some (.int .i64 o.seq) := (Nat.add_mul n j 9) ▸ hcell 5 _ rfl
    have z6 : wr.cell? ⟨g,n * 9 + j * 9 + 6,none⟩ = some (.string o.name) := (Nat.add_mul n j 9) ▸ hcell 6 _ rfl
    have z7 : wr.cell? ⟨g,n * 9 + j * 9 + 7,none⟩ = some (.int .i64 o.size) := (Nat.add_mul n j 9) ▸ hcell 7 _ rfl
    have z8 : wr.cell? ⟨g,n * 9 + j * 9 + 8,none⟩ = some (.slice A' o.hashes.length c') := (Nat.add_mul n j 9) ▸ hcell 8 _ rfl
    obtain ⟨hn,hhn⟩ : ∃ hn,o.hashes.length = hn := ⟨_,rfl⟩
    rw [hhn] at z8
    clear ho hst hcell hnum hhn
    obtain ⟨on,oe,ok,os,oc,oq,onm,osz,ohs⟩ := o
    simp only at *
    obtain ⟨x,hx⟩ : ∃ x,wr.heap.size = x := ⟨_,rfl⟩
    go_upto_region 5 with fail
    have hwx : w.heap.size ≤ x := by have := HK.out.size;omega
    obtain ⟨wb,hwb⟩ : ∃ wb,wr.alloc (.cells #[.int .i64 on,.int .i64 oe,.int .i64 ok,.int .i64 os,.int .i64 oc,.int .i64 oq,.string onm,.int .i64 osz,.slice none 0 0] 36) = wb := ⟨_,rfl⟩
    have hkb : Kp No wr wb := by
     rw [← hwb]
     exact (Kp.refl No wr).alloc _
    have hbx : Blk wb x 36 [.int .i64 on,.int .i64 oe,.int .i64 ok,.int .i64 os,.int .i64 oc,.int .i64 oq,.string onm,.int .i64 osz,.slice none 0 0] := by
     rw [← hwb,← hx]
     exact Blk.new wr [.int .i64 on,.int .i64 oe,.int .i64 ok,.int .i64 os,.int .i64 oc,.int .i64 oq,.string onm,.int .i64 osz,.slice none 0 0] _
    have HWX := Lib.hid hwx
    have H1 := Lib.hid (HL.out.keptNo hkb)
    have HKB := Lib.hid (HK.out.trans hkb (fun _ _ h => h.elim))
    have k6 := Blk.cell H1.out.fat.blk (i := 6) rfl
    obtain ⟨q,hq⟩ : ∃ q,L.lost.length + j = q := ⟨_,rfl⟩
    have hq9 : q ≤ 901000 := by have := HLOST.out;omega
    rw [hq] at k6
    have hql : (L.lost ++ ((L.ops.drop n).take j).map OpL.stripped).length = q := by
     rw [List.length_append,List.length_map,List.length_take,List.length_drop,HM.out,← hq]
     omega
    have HQL := Lib.hid hql
    have y0 : wb.cell? ⟨x,0,none⟩ = some _ := Blk.cell hbx rfl
    have y1 : wb.cell? ⟨x,1,none⟩ = some _ := Blk.cell hbx rfl
    have y2 : wb.cell? ⟨x,2,none⟩ = some _ := Blk.cell hbx rfl
    have y3 : wb.cell? ⟨x,3,none⟩ = some _ := Blk.cell hbx rfl
    have y4 : wb.cell? ⟨x,4,none⟩ = some _ := Blk.cell hbx rfl
    have y5 : wb.cell? ⟨x,5,none⟩ = some _ := Blk.cell hbx rfl
    have y6 : wb.cell? ⟨x,6,none⟩ = some _ := Blk.cell hbx rfl
    have y7 : wb.cell? ⟨x,7,none⟩ = some _ := Blk.cell hbx rfl
    have y8 : wb.cell? ⟨x,8,none⟩ = some _ := Blk.cell hbx rfl
    try rw [hwb]
    clear hwb hkb hbx hwx hx hql HL HK z0 z1 z2 z3 z4 z5 z6 z7 z8
    refine Reg.wp_region_plan [⟨0,false,[]⟩,⟨1,false,[]⟩,⟨2,false,[]⟩,⟨3,false,[]⟩,⟨4,false,[]⟩,⟨5,false,[]⟩,⟨6,true,[2,3,4]⟩,⟨7,true,[]⟩,⟨8,false,[]⟩,⟨9,false,[]⟩,⟨10,true,[]⟩] rfl (by kernel_rfl) ?_
    repeat (first | (refine Reg.look rfl rfl rfl (by go_simp;rfl) rfl ?_;go_simp) | (refine Reg.skip rfl rfl rfl ?_;go_simp))
    refine Reg.act rfl ?_
    go_wp2_with fail
    obtain ⟨y,hy⟩ : ∃ y,wb.heap.size = y := ⟨_,rfl⟩
    obtain ⟨w3,hw3⟩ : ∃ w3,(wb.alloc (.cells #[.int .i64 on,.int .i64 oe,.int .i64 ok,.int .i64 os,.int .i64 oc,.int .i64 oq,.string onm,.int .i64 osz,.slice none 0 0] 36)).drew = w3 := ⟨_,rfl⟩
    have hk3 : Kp No wb w3 := by rw [← hw3];exact ((Kp.refl _ _).alloc _).drew
    have hs3 : w3.heap.size = y + 1 := by rw [← hw3,← hy];simp [World.drew]
    have hsrc : Rp.opl.slice.R w3 (fun k => k = y) [.slice (some ⟨y,0,none⟩) 1 1] [(⟨on,oe,ok,os,oc,oq,onm,osz,[]⟩ : OpL)] := by
     have := opl_lit wb ⟨on,oe,ok,os,oc,oq,onm,osz,[]⟩ (.slice none 0 0) (fun k => k = y) hy HNUM.out ⟨none,0,rfl,Nat.le_refl _,by simp,fun h => absurd h (by simp)⟩
     rw [hy] at this
     rw [← hw3]
     exact Rp.opl.slice.keptNo this ((Kp.refl _ _).drew)
    have h3 := H1.out.keptNo hk3
    obtain ⟨LL,hLL⟩ : ∃ LL,L.lost ++ ((L.ops.drop n).take j).map OpL.stripped = LL := ⟨_,rfl⟩
    have hLL2 : L.lost ++ ((L.ops.drop n).take (j + 1)).map OpL.stripped = LL ++ [⟨on,oe,ok,os,oc,oq,onm,osz,[]⟩] := by
     rw [HST.out,List.map_append,← List.append_assoc,hLL];rfl
    have hLq := HQL.out
    rw [hLL] at h3 hLq
    have hbareL : ∀ z ∈ LL ++ [(⟨on,oe,ok,os,oc,oq,onm,osz,[]⟩ : OpL)],z.hashes = [] := by
     intro z hz
     rw [← hLL] at hz
     rcases List.mem_append.1 hz with hz | hz
     · rcases List.mem_append.1 hz with hz | hz
       · exact HBARE.out z hz
       · obtain ⟨u,_,rfl⟩ := List.mem_map.1 hz;rfl
     · rw [List.mem_singleton.1 hz]
    rw [hq] at h3
    have hol := h3.lost
    have hsl3 : ∀ k,(Value.slice Al q cl).ownBlock = some k → ¬ (S k ∨ k = y) := by
     rintro k hk (e | e)
     · exact h3.sl k hk e
     · have := (H1.out.lost.lt k (by rw [hq];exact hk)).2
       omega
    have k6c : w3.cell? ⟨l,6,none⟩ = some (.slice Al q cl) := Blk.cell h3.fat.blk rfl
    have H3 := Lib.hid h3
    have HOL := Lib.hid hol
    have HSRC := Lib.hid hsrc
    have HSL3 := Lib.hid hsl3
    have HK3 := Lib.hid (HKB.out.trans hk3 (fun _ _ h => h.elim))
    have HLL2 := Lib.hid hLL2
    have HLQ := Lib.hid hLq
    have HBL := Lib.hid hbareL
    have HB3 := HB
    rw [hq] at HB3
    have HY := Lib.hid hy
    have HS3 := Lib.hid hs3
    try rw [hy]
    rw [hw3]
    clear hw3 hk3 hs3 hsrc h3 hLL hLL2 hLq hbareL hol hsl3 hy k6 y0 y1 y2 y3 y4 y5 y6 y7 y8 H1 HQL
    (refine ⟨?anew,?_⟩;case anew => ((repeat (refine Reg.anew_cons rfl rfl (fun _ => by go_simp) ?_));exact Reg.anew_nil))
    refine Reg.act rfl ?_
    refine wpList_append_rp (E := Rp.opl) rfl _ (.tmp 30) (.tmp 32) 37 rfl 0 36 96 el_op (fun k => S k ∨ k = y) (.slice Al q cl) LL rfl ?d0 (some ⟨y,0,none⟩) 1 (fun k => k = y) [(⟨on,oe,ok,os,oc,oq,onm,osz,[]⟩ : OpL)] rfl HSRC.out Rp.opl_one ?d1 ?d2 (Nat.zero_le _) (fun _ h => .inr h) ?d3 ?_
    case d0 => exact HOL.out.mono (Nat.le_refl _) (fun _ h => .inl h)
    case d1 => rw [HLQ.out];simp [maxLen];omega
    case d2 => rw [HLQ.out];simp;omega
    case d3 => exact HSL3.out
    intro v5 w5 hown5 hg5 hb5
    obtain ⟨A5,c5,rfl⟩ := hown5.shape
    have hlen : (LL ++ [(⟨on,oe,ok,os,oc,oq,onm,osz,[]⟩ : OpL)]).length = q + 1 := by rw [List.length_append,HLQ.out];rfl
    rw [hlen] at hown5 hb5
    have hown6 := hown5.bare_any (S' := S) HBL.out
    have hk5 : Kp (fun k => (Value.slice Al q cl).ownBlock = some k) w3 w5 := (Kp.refl _ _).grown hg5 (fun g hg _ => hg)
    have hb5l := H3.out.fat.blk.kept hk5 (fun e => H3.out.ll l e (.inl rfl))
    have k6e := Blk.cell hb5l (i := 6) rfl
    have f6e := Blk.fr hb5l 6
    obtain ⟨h6,hk6⟩ := H3.out.lostGrown hown6 hg5 hb5
    have H6 := Lib.hid h6
    have HK6 : Hid (Kp (Foot l b1 b2 (.slice (some ⟨g,0,none⟩) L.ops.length c) lv S) w _) := Lib.hid (HK3.out.trans hk6 (fun i hi e => by
     rcases e with e | e
     · exact .inl (.inl e)
     · rcases HB3.out i e with h | h
       · exact .inr (.inr (.inl h))
       · omega))
    have HB6 : Hid (∀ k,(Value.slice A5 (q + 1) c5).ownBlock = some k → lv.ownBlock = some k ∨ w.heap.size ≤ k) := Lib.hid (by
     intro k hk
     rcases hb5 with h | h
     · exact HB3.out k (h ▸ hk)
     · rw [h] at hk
       injection hk with hk
       have := HK3.out.size
       exact .inr (by omega))
    rw [hlen]
    clear h6 hk6 hown5 hown6 hg5 hb5 hk5 hb5l HSRC HOL HSL3 k6c H3 HK3
    go_wp2_with fail
    (refine ⟨?anew,?_⟩;case anew => ((repeat (refine Reg.anew_cons rfl rfl (fun _ => by go_simp) ?_));exact Reg.anew_nil))
    repeat (first | (refine Reg.look rfl rfl rfl (by go_simp;rfl) rfl ?_;go_simp) | (refine Reg.skip rfl rfl rfl ?_;go_simp))
    refine Reg.act rfl ?_
    go_wp2_with fail
    (refine ⟨?anew,?_⟩;case anew => ((repeat (refine Reg.anew_cons rfl rfl (fun _ => by go_simp) ?_));exact Reg.anew_nil))
    repeat (first | (refine Reg.look rfl rfl rfl (by go_simp;rfl) rfl ?_;go_simp) | (refine Reg.skip rfl rfl rfl ?_;go_simp))
    (refine Reg.done ?_;simp only [Exit.then])
    clear k6e f6e
    go_wp2_with fail
    go_roundw
    case rel =>
     refine ⟨j + 1,A5,c5,by omega,by go_num,?_,HK6,?_⟩
     · rw [← Nat.add_assoc,hq,HLL2.out];exact H6
     · rw [← Nat.add_assoc,hq];exact HB6
    case measure => simp [intOf];omega
  · obtain rfl : j = m - n := by omega
    have hjn : ¬ ((m - n : Nat) : Int) < ((m - n : Nat) : Int) := by omega
    have hLfull : (L.ops.drop n).take (m - n) = L.ops.drop n := List.take_of_length_le (by rw [List.length_drop,HM.out];exact Nat.le_refl _)
    rw [hLfull] at HL
    obtain ⟨q,hq⟩ : ∃ q,L.lost.length + (m - n) = q := ⟨_,rfl⟩
    rw [hq] at HL HB
    obtain ⟨sd,hsd⟩ : ∃ sd,L.settled = sd := ⟨_,rfl⟩
    have k8 : wr.cell? ⟨l,8,none⟩ = some (.int .i64 L.settled) := Blk.cell HL.out.fat.blk rfl
    rw [hsd] at k8
    have f8 := Blk.fr HL.out.fat.blk 8
    have hset := HSET.out
    rw [hsd] at hset
    obtain ⟨hs0,hs1⟩ := hset
    have HSD := Lib.hid hsd
    clear hq hLfull hsd
    go_upto_region 8 with fail
    obtain ⟨M,hM⟩ : ∃ M,(if (n : Int) < sd then (n : Int) else sd) = M := ⟨_,rfl⟩
    have hMm : min L.settled (n : Int) = M := by rw [HSD.out,← hM];split <;> omega
    rw [hM]
    have h7 := HL.out.settled M
    have hk7 : Kp (· = l) wr (wr.setCell ⟨l,8,none⟩ (.int .i64 M)) := (Kp.refl (· = l) wr).setCell (p := ⟨l,8,none⟩) (fun _ => rfl) _
    obtain ⟨w7,hw7⟩ : ∃ w7,wr.setCell ⟨l,8,none⟩ (.int .i64 M) = w7 := ⟨_,rfl⟩
    rw [hw7] at h7 hk7
    rw [hw7]
    have hln : (L.ops.take n).length = n := by rw [List.length_take,HM.out];omega
    have hread : Rp.opl.slice.R w7 (fun k => S k ∨ k = g) [.slice (some ⟨g,0,none⟩) (L.ops.take n).length c] (L.ops.take n) :=
     Rp.head (Rp.opl.slice.more ((h7.ops.mono (Nat.le_refl _) (fun _ h => .inl h)).read (S := fun k => S k ∨ k = g) (fun k hk => .inr (by
      have : g = k := by simpa [Value.ownBlock] using hk
      exact this.symm))) (fun _ h => h)) (by have := HM.out;omega)
    have hcl := c_cloneO (L.ops.take n) (some ⟨g,0,none⟩) c w7 _ hread (by omega)
    rw [hln] at hcl
    have k5 : w7.cell? ⟨l,5,none⟩ = some (.slice (some ⟨g,0,none⟩) L.ops.length c) := Blk.cell h7.fat.blk rfl
    rw [HM.out] at k5
    have H7 := Lib.hid h7
    have HK7 : Hid (Kp (Foot l b1 b2 (.slice (some ⟨g,0,none⟩) L.ops.length c) lv S) w w7) := Lib.hid (HK.out.trans hk7 (fun i _ e => .inl (.inl e)))
    have HCL := Lib.hid hcl
    have HMM := Lib.hid hMm
    have HLN := Lib.hid hln
    have hnc : n ≤ c := by omega
    clear hM hMm h7 hk7 hw7 hln hread hcl k8 f8 HL HK
    go_wp2_with fail
    refine HCL.out.mono ?_
    rintro e w8 ⟨A8,c8,rfl,hown8,hk8⟩
    have HO8 := Lib.hid hown8
    have HK8 := Lib.hid hk8
    clear hown8 hk8 k5
    go_wp2_with fail
    refine (l_fresh w8).mono ?_
    rintro e w9 ⟨b1',b2',rfl,hm1,hm2,hne,hb1,hb2,hk9⟩
    have h79 := HK8.out.trans' hk9
    have hs8 := HK8.out.size
    obtain ⟨h10,hk10⟩ := H7.out.parted (g := g) rfl (Nat.le_refl _) (HO8.out.keptNo hk9) (hm1 _) (hm2 _) hne (by omega) (by omega) h79
    have hb9 := (H7.out.keptNo h79).fat.blk
    have u0 := Blk.cell hb9 (i := 0) rfl
    have u1 := Blk.cell hb9 (i := 1) rfl
    have u2 := Blk.cell hb9 (i := 2) rfl
    have u3 := Blk.cell hb9 (i := 3) rfl
    have u4 := Blk.cell hb9 (i := 4) rfl
    have u5 := Blk.cell hb9 (i := 5) rfl
    have g0 := Blk.fr hb9 0
    have g1 := Blk.fr hb9 1
    have g2 := Blk.fr hb9 2
    have g3 := Blk.fr hb9 3
    have g4 := Blk.fr hb9 4
    have g5 := Blk.fr hb9 5
    have hw7s := HK7.out.size
    have HB12 : Hid (w7.heap.size ≤ b1' ∧ w7.heap.size ≤ b2') := Lib.hid ⟨by omega,by omega⟩
    have HK10 : Hid (Kp (Foot l b1 b2 (.slice (some ⟨g,0,none⟩) L.ops.length c) lv S) w _) := Lib.hid ((HK7.out.trans h79 (fun _ _ h => h.elim)).trans hk10 (fun i _ e => .inl (.inl e)))
    have HA8 : Hid (∀ k,(Value.slice A8 n c8).ownBlock = some k → w7.heap.size ≤ k) := Lib.hid (fun k hk => (HO8.out.lt k hk).1)
    have H10 := Lib.hid h10
    have HW7 := Lib.hid hw7s
    clear h10 hk10 hb9 h79 hm1 hm2 hne hb1 hb2 hk9 hs8 hw7s HO8 HCL HK8 HK7
    go_wp2_with fail
    obtain ⟨w10,hw10⟩ : ∃ w10,(((((w9.setCell ⟨l,5,none⟩ (.slice A8 n c8)).setCell ⟨l,0,none⟩ (.map (some b1'))).setCell ⟨l,1,none⟩ (.int .i64 0)).setCell ⟨l,2,none⟩ (.map (some b2'))).setCell ⟨l,3,none⟩ (.int .i64 0)).setCell ⟨l,4,none⟩ (.int .i64 0) = w10 := ⟨_,rfl⟩
    rw [hw10] at H10 HK10
    rw [hw10]
    clear hw10 u0 u1 u2 u3 u4 u5 g0 g1 g2 g3 g4 g5
    have k5 : w10.cell? ⟨l,5,none⟩ = some (.slice A8 n c8) := Blk.cell H10.out.fat.blk rfl
    go_upto_region 9 with fail
    refine Reg.wp_region_plan [⟨0,false,[]⟩,⟨1,false,[]⟩,⟨2,false,[]⟩,⟨3,false,[]⟩,⟨4,false,[]⟩,⟨5,false,[]⟩,⟨6,false,[]⟩,⟨7,true,[]⟩] rfl (by kernel_rfl) ?_
    repeat (first | (refine Reg.look rfl rfl rfl (by go_simp;rfl) rfl ?_;go_simp) | (refine Reg.skip rfl rfl rfl ?_;go_simp))
    refine Reg.act rfl ?_
    have h11 := H10.out.keptNo ((Kp.refl No w10).drew)
    have hown11 : Own Rp.opl w10.drew (fun k => S k ∨ k = g) 0 36 (.slice A8 (L.ops.take n).length c8) (L.ops.take n) := by rw [HLN.out];exact h11.ops
    have ht := c_take (L.ops.take n) A8 c8 l _ b1' b2' _ FV.fresh 0 0 w10.drew h11.fat FV.fresh_ok hown11 (fun o ho => HSZ.out o (List.mem_of_mem_take ho)) (by rw [HLN.out];omega)
    rw [HLN.out] at ht
    have HT := Lib.hid ht
    have H11 := Lib.hid h11
    clear h11 hown11 ht
    go_wp2_with fail
    refine HT.out.mono ?_
    rintro e wz ⟨rfl,hfz,_,hkz⟩
    have hz := H11.out.took hfz hkz
    have hKz : Kp (Foot l b1 b2 (.slice (some ⟨g,0,none⟩) L.ops.length c) lv S) w wz := (HK10.out.drew).trans hkz (fun i hi e => by
     have h1 := HB12.out
     have h2 := HW7.out
     rcases e with e | e | e
     · exact .inl (.inl e)
     · omega
     · omega)
    have hFz : ∀ k,Foot l b1' b2' (.slice A8 n c8) (.slice Al q cl) (fun k => S k ∨ k = g) k → Foot l b1 b2 (.slice (some ⟨g,0,none⟩) L.ops.length c) lv S k ∨ w.heap.size ≤ k := by
     have h1 := HB12.out
     have h2 := HW7.out
     rintro k ((e | e | e) | e | e | e | e)
     · exact .inl (.inl (.inl e))
     · exact .inr (by omega)
     · exact .inr (by omega)
     · exact .inr (by have := HA8.out k e;omega)
     · rcases HB.out k e with h | h
       · exact .inl (.inr (.inr (.inl h)))
       · exact .inr h
     · exact .inl (.inr (.inr (.inr e)))
     · exact .inl (.inr (.inl (by rw [e];rfl)))
    have hPP : P = { L with lost := L.lost ++ (L.ops.drop n).map OpL.stripped,settled := M,ops := L.ops.take n } := by rw [HPE.out,HMM.out]
    clear hfz hkz k5 H10 HK10
    go_wp2_with fail
    (refine ⟨?anew,?_⟩;case anew => ((repeat (refine Reg.anew_cons rfl rfl (fun _ => by go_simp) ?_));exact Reg.anew_nil))
    (refine Reg.done ?_;simp only [Exit.then])
    go_wp2_with fail
    go_end0
    subst hPP
    exact ⟨rfl,_,_,_,_,_,hz,hKz,hFz⟩
end
end Go.Proofs.YtjlbacfedfkilaaGreat
