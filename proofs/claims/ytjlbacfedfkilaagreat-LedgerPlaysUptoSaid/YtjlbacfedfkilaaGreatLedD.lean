/-
  (*Ledger).do.
-/
import Derived.Test.YtjlbacfedfkilaaGreatGG
namespace Go.Proofs.YtjlbacfedfkilaaGreat
open Go.RowKit Go.ChangeShapes Go.WideShapes Go.ChangeAt
def zeroOp : OpL := ⟨0,0,0,0,0,0,ByteArray.empty,0,[]⟩
theorem LAt.last {w : World} {l : Nat} {L : LV} {F : Nat → Prop} (h : LAt w l L F) {b2 : Nat} {cs : List Value} (hb : Blk w l 90 cs) (hc : cs[2]? = some (.map (some b2))) (k : Int) :
 ∃ (was : OpL) (Av : Option Addr) (nv cv : Nat) (B : Bool),(∀ w',Kp No w w' → (Instr.lookup 83 (.map (some b2)) (.int .i64 k) true).run Tryz.prog w' = .ok (.tuple #[opV was (.slice Av nv cv),.bool B]) w') ∧ ((B = true ∧ mget k L.fold.lastOf = some was) ∨ (B = false ∧ mget k L.fold.lastOf = none)) := by
 obtain ⟨b1,b2',ov,lv,S,h1,h2⟩ := h
 have e : b2' = b2 := by
  have h3 := h1.fat.blk
  unfold Blk at h3 hb
  rw [h3] at hb
  injection hb with hb
  injection hb with hb
  have hb := congrArg Array.toList hb
  simp only at hb
  rw [← hb] at hc
  simpa using hc
 subst e
 obtain ⟨u,B,h3,h4⟩ := h1.fat.last.look_all (P := Tryz.prog) key_cl Tryz.underlying83 k zero_op
 rcases h4 with ⟨rfl,a,cs,h5,rfl,v,rfl,_,Av,cv,hv,_⟩ | ⟨rfl,h5,rfl⟩
 · simp only [List.cons.injEq,and_true] at hv
   subst hv
   exact ⟨a,Av,_,cv,true,h3,.inl ⟨rfl,h5⟩⟩
 · exact ⟨zeroOp,none,0,0,false,h3,.inr ⟨rfl,h5⟩⟩
theorem LAt.live {w : World} {l : Nat} {L : LV} {F : Nat → Prop} (h : LAt w l L F) {b1 : Nat} {cs : List Value} (hb : Blk w l 90 cs) (hc : cs[0]? = some (.map (some b1))) (k : ByteArray) :
 ∃ (s : Int) (Av : Option Addr) (nv cv : Nat),(∀ w',Kp No w w' → (Instr.lookup 82 (.map (some b1)) (.string k) true).run Tryz.prog w' = .ok (.tuple #[.agg #[.int .i64 s,.slice Av nv cv],.bool (liveL k L)]) w') := by
 obtain ⟨b1',b2,ov,lv,S,h1,h2⟩ := h
 have e : b1' = b1 := by
  have h3 := h1.fat.blk
  unfold Blk at h3 hb
  rw [h3] at hb
  injection hb with hb
  injection hb with hb
  have hb := congrArg Array.toList hb
  simp only at hb
  rw [← hb] at hc
  simpa using hc
 subst e
 unfold liveL
 obtain ⟨u,B,h3,h4⟩ := h1.fat.live.look_all (P := Tryz.prog) key_name Tryz.underlying82 k zero_sht
 rcases h4 with ⟨rfl,a,cs,h5,rfl,v,rfl,_,Av,cv,hv,_⟩ | ⟨rfl,h5,rfl⟩
 · simp only [List.cons.injEq,and_true] at hv
   subst hv
   exact ⟨a.1,Av,_,cv,fun w' hk => by rw [h3 w' hk,h5];rfl⟩
 · exact ⟨0,none,0,0,fun w' hk => by rw [h3 w' hk,h5];rfl⟩
theorem nums_placed {o : OpL} {e s : Int} {n : Int} (h : okP (o.placed 1 e s)) (hk : o.kind ≠ 3) (hn : 0 ≤ n ∧ n ≤ 1000000) : (o.placed n e s).nums := by
 obtain ⟨⟨_,_,h1,h2,h3,h4⟩,h5⟩ := h
 simp only [OpL.placed] at h1 h2 h3 h4 h5
 have hsome : someP o ∧ (o.kind = 1 ∨ o.kind = 2) ∧ 0 ≤ o.size ∧ o.size ≤ 512 := by
  rcases h5 with ⟨k,hs,ho⟩ | ⟨k,hs,hb⟩ | ⟨k,_⟩
  · refine ⟨hs,.inl k,?_⟩
    unfold okSheet at ho
    rw [Bool.and_eq_true,decide_eq_true_iff] at ho
    omega
  · refine ⟨hs,.inr k,?_⟩
    have : o.size = 0 := hb.1
    omega
  · exact absurd k hk
 obtain ⟨⟨a1,a2,a3,a4,a5,a6⟩,hk2,a7,a8⟩ := hsome
 exact ⟨I64.of (by simp only [OpL.placed];omega),I64.of (by simp only [OpL.placed];omega),I64.of (by simp only [OpL.placed];omega),I64.of (by simp only [OpL.placed];omega),I64.of (by simp only [OpL.placed];omega),I64.of (by simp only [OpL.placed];omega),by simp only [OpL.placed];unfold maxLen;omega,I64.of (by simp only [OpL.placed];omega)⟩
set_option maxRecDepth 100000 in
set_option maxHeartbeats 4000000 in
theorem a_do (c : CmdL) (A : Option Addr) (ca : Nat) (ov : Value) (SA : Nat → Prop) (B : Nat) (l : Nat) (L : LV) (F : Nat → Prop) (w : World) (h : LAt w l L F) (hok : OkL B L) (hh : Rp.str.slice.R w SA [.slice A c.op.hashes.length ca] c.op.hashes) 
 (hp : okP (c.op.placed 1 c.epoch c.site)) (hk3 : c.op.kind ≠ 3) :
 Calls Tryz.prog 34 #[.pointer (some ⟨l,0,none⟩),cmdV c (.slice A c.op.hashes.length ca) ov] w fun x w' => x = .returned (doneV (doL c L).1) ∧ ∃ F',LAt w' l (doL c L).2 F' ∧ Upd F w w' F' := by
 obtain ⟨P,hP⟩ : ∃ P,doL c L = P := ⟨_,rfl⟩
 rw [hP]
 have HP := Lib.hid hP
 have HOK := Lib.hid hok
 have HH := Lib.hid hh
 have HOP := Lib.hid hp
 have HK3 := Lib.hid hk3
 clear hP hok hh hp hk3
 obtain ⟨hn,hhn⟩ : ∃ hn,c.op.hashes.length = hn := ⟨_,rfl⟩
 have HH2 : Hid (Rp.str.slice.R w SA [.slice A hn ca] c.op.hashes) := Lib.hid (hhn ▸ HH.out)
 rw [hhn]
 have HHN := Lib.hid hhn
 clear hhn HH
 obtain ⟨x,hx⟩ : ∃ x,w.heap.size = x := ⟨_,rfl⟩
 obtain ⟨h1,h2,h3,h4,h5⟩ := begin_ h c (.slice A hn ca) ov
 have hfx : ¬ F x ∧ ¬ F (x + 1) := ⟨fun e => by have := h.lt _ e;omega,fun e => by have := h.lt _ e;omega⟩
 have HFX := Lib.hid hfx
 have hxl : l ≠ x ∧ l ≠ x + 1 := ⟨fun e => hfx.1 (e ▸ h.self),fun e => hfx.2 (e ▸ h.self)⟩
 have HXL := Lib.hid hxl
 obtain ⟨hxl1,hxl2⟩ := hxl
 obtain ⟨wa,hwa⟩ : ∃ wa,(w.alloc (.cells (cmdC c (.slice A hn ca) ov).toArray 39)).alloc (.cells #[.int .i64 0,.int .i64 0,.int .i64 0] 44) = wa := ⟨_,rfl⟩
 rw [hwa] at h1 h2 h3 h4 h5
 rw [hx] at h3 h4 h5
 unfold cmdC at h3 hwa
 obtain ⟨b1,b2,Ao,co,ll,hblk⟩ := h1.blk
 have HA := Lib.hid h1
 have HK := Lib.hid h2
 have HC := Lib.hid h3
 have HD := Lib.hid h4
 have HSA := Lib.hid h5
 have HB := Lib.hid hblk
 clear h1 h2 h4 h5 h hfx hblk
 unfold cmdV
 have HX := Lib.hid hx
 obtain ⟨ck,ep,st,⟨on,oe,ok,os,oc,oq,onm,osz,ohs⟩,af,si,ops,tg⟩ := c
 simp only at *
 obtain ⟨fe,hfe⟩ : ∃ fe,L.fence = fe := ⟨_,rfl⟩
 obtain ⟨he,hhe⟩ : ∃ he,L.fold.hE = he := ⟨_,rfl⟩
 obtain ⟨hs,hhs⟩ : ∃ hs,L.fold.hS = hs := ⟨_,rfl⟩
 have HFE := Lib.hid hfe
 have HHE := Lib.hid hhe
 have HHS := Lib.hid hhs
 have k3 : wa.cell? ⟨l,3,none⟩ = some (.int .i64 he) := hhe ▸ Blk.cell HB.out rfl
 have k4 : wa.cell? ⟨l,4,none⟩ = some (.int .i64 hs) := hhs ▸ Blk.cell HB.out rfl
 have k7 : wa.cell? ⟨l,7,none⟩ = some (.int .i64 fe) := hfe ▸ Blk.cell HB.out rfl
 have z1 : wa.cell? ⟨x,1,none⟩ = some (.int .i64 ep) := Blk.cell h3 rfl
 have z2 : wa.cell? ⟨x,2,none⟩ = some (.int .i64 st) := Blk.cell h3 rfl
 clear h3 hfe hhe hhs
 go_enter Tryz.func34,Tryz.ntmps34
 go_upto_region 1 with fail
 try rw [hwa]
 clear hwa hx
 by_cases hh : holdsL ep st L
 case neg =>
  have hPe : P = (failD 120,L) := by rw [← HP.out];unfold doL;rw [if_neg hh]
  subst hPe
  clear HP
  unfold holdsL at hh
  rw [HFE.out,HHE.out,HHS.out] at hh
  have HHH := Lib.hid hh
  clear hh
  by_cases e1 : ep = fe
  · subst e1
    by_cases e2 : he = ep
    · subst e2
      have e3 : ¬ hs = st := fun e => HHH.out ⟨rfl,rfl,e⟩
      have b3 : (hs == st) = false := beq_eq_false_iff_ne.2 e3
      clear e3
      go_quiet (fail)
      go_wp2_with fail
      refine (l_failed 120 _).mono ?_
      rintro e w9 ⟨rfl,hk9⟩
      have hk9 := ((Kp.refl No wa).drewN _).trans' hk9
      have h9k := (HK.out).trans' hk9
      have h9a := (HA.out).keptNo hk9
      have h9d := (HD.out).kept hk9 (fun x => x)
      have H9K := Lib.hid h9k
      have H9A := Lib.hid h9a
      have H9D := Lib.hid h9d
      have g0 := Blk.fr h9d 0
      have g1 := Blk.fr h9d 1
      have g2 := Blk.fr h9d 2
      have u0 : w9.cell? ⟨x + 1,0,none⟩ = some _ := Blk.cell h9d rfl
      have u1 : w9.cell? ⟨x + 1,1,none⟩ = some _ := Blk.cell h9d rfl
      have u2 : w9.cell? ⟨x + 1,2,none⟩ = some _ := Blk.cell h9d rfl
      clear hk9 h9k h9a h9d
      go_wp2_with fail
      clear g0 g1 g2 u0 u1 u2
      obtain ⟨hkf,hbf⟩ := done_stored H9D.out (.int .i64 120) (.int .i64 0) (.int .i64 0)
      have hfd := HFX.out.2
      have hwx : w.heap.size = x := HX.out
      have hAf := (H9A.out).kept hkf (fun k hk e => hfd (e ▸ hk))
      have hKf := (H9K.out).trans hkf (fun i hi e => absurd hi (by omega))
      exact bodyPost_ret (results_cell_row rfl _ _ (x + 1) _ _ _ _ rfl hbf Tryz.underlying44 rfl (by kernel_rfl)) rfl ⟨by rfl,F,hAf,hKf.any,fun k hk => .inl hk⟩
    · have b2 : (he == ep) = false := beq_eq_false_iff_ne.2 e2
      clear e2
      go_quiet (fail)
      go_wp2_with fail
      refine (l_failed 120 _).mono ?_
      rintro e w9 ⟨rfl,hk9⟩
      have hk9 := ((Kp.refl No wa).drewN _).trans' hk9
      have h9k := (HK.out).trans' hk9
      have h9a := (HA.out).keptNo hk9
      have h9d := (HD.out).kept hk9 (fun x => x)
      have H9K := Lib.hid h9k
      have H9A := Lib.hid h9a
      have H9D := Lib.hid h9d
      have g0 := Blk.fr h9d 0
      have g1 := Blk.fr h9d 1
      have g2 := Blk.fr h9d 2
      have u0 : w9.cell? ⟨x + 1,0,none⟩ = some _ := Blk.cell h9d rfl
      have u1 : w9.cell? ⟨x + 1,1,none⟩ = some _ := Blk.cell h9d rfl
      have u2 : w9.cell? ⟨x + 1,2,none⟩ = some _ := Blk.cell h9d rfl
      clear hk9 h9k h9a h9d
      go_wp2_with fail
      clear g0 g1 g2 u0 u1 u2
      obtain ⟨hkf,hbf⟩ := done_stored H9D.out (.int .i64 120) (.int .i64 0) (.int .i64 0)
      have hfd := HFX.out.2
      have hwx : w.heap.size = x := HX.out
      have hAf := (H9A.out).kept hkf (fun k hk e => hfd (e ▸ hk))
      have hKf := (H9K.out).trans hkf (fun i hi e => absurd hi (by omega))
      exact bodyPost_ret (results_cell_row rfl _ _ (x + 1) _ _ _ _ rfl hbf Tryz.underlying44 rfl (by kernel_rfl)) rfl ⟨by rfl,F,hAf,hKf.any,fun k hk => .inl hk⟩
  · have b1 : (ep == fe) = false := beq_eq_false_iff_ne.2 e1
    have b1n : (ep != fe) = true := by simp [e1]
    clear e1
    go_quiet (fail)
    go_wp2_with fail
    refine (l_failed 120 _).mono ?_
    rintro e w9 ⟨rfl,hk9⟩
    have hk9 := ((Kp.refl No wa).drewN _).trans' hk9
    have h9k := (HK.out).trans' hk9
    have h9a := (HA.out).keptNo hk9
    have h9d := (HD.out).kept hk9 (fun x => x)
    have H9K := Lib.hid h9k
    have H9A := Lib.hid h9a
    have H9D := Lib.hid h9d
    have g0 := Blk.fr h9d 0
    have g1 := Blk.fr h9d 1
    have g2 := Blk.fr h9d 2
    have u0 : w9.cell? ⟨x + 1,0,none⟩ = some _ := Blk.cell h9d rfl
    have u1 : w9.cell? ⟨x + 1,1,none⟩ = some _ := Blk.cell h9d rfl
    have u2 : w9.cell? ⟨x + 1,2,none⟩ = some _ := Blk.cell h9d rfl
    clear hk9 h9k h9a h9d
    go_wp2_with fail
    clear g0 g1 g2 u0 u1 u2
    obtain ⟨hkf,hbf⟩ := done_stored H9D.out (.int .i64 120) (.int .i64 0) (.int .i64 0)
    have hfd := HFX.out.2
    have hwx : w.heap.size = x := HX.out
    have hAf := (H9A.out).kept hkf (fun k hk e => hfd (e ▸ hk))
    have hKf := (H9K.out).trans hkf (fun i hi e => absurd hi (by omega))
    exact bodyPost_ret (results_cell_row rfl _ _ (x + 1) _ _ _ _ rfl hbf Tryz.underlying44 rfl (by kernel_rfl)) rfl ⟨by rfl,F,hAf,hKf.any,fun k hk => .inl hk⟩
 case pos =>
  unfold doL at HP
  rw [if_pos hh] at HP
  unfold holdsL at hh
  rw [HFE.out,HHE.out,HHS.out] at hh
  obtain ⟨hh1,hh2,hh3⟩ := hh
  subst hh1 hh2 hh3
  go_quiet (fail)
  clear k3 k4 k7 z1 z2
  have hwq : Kp No wa (wa.drewN nq) := (Kp.refl No wa).drewN _
  obtain ⟨wq,hwq2⟩ : ∃ wq,wa.drewN nq = wq := ⟨_,rfl⟩
  rw [hwq2] at hwq
  rw [hwq2]
  have hcq := HC.out.kept hwq (fun x => x)
  have z3 : wq.cell? ⟨x,3,none⟩ = some (.int .i64 on) := Blk.cell hcq rfl
  have z4 : wq.cell? ⟨x,4,none⟩ = some (.int .i64 oe) := Blk.cell hcq rfl
  have z5 : wq.cell? ⟨x,5,none⟩ = some (.int .i64 ok) := Blk.cell hcq rfl
  have z6 : wq.cell? ⟨x,6,none⟩ = some (.int .i64 os) := Blk.cell hcq rfl
  have z7 : wq.cell? ⟨x,7,none⟩ = some (.int .i64 oc) := Blk.cell hcq rfl
  have z8 : wq.cell? ⟨x,8,none⟩ = some (.int .i64 oq) := Blk.cell hcq rfl
  have z9 : wq.cell? ⟨x,9,none⟩ = some (.string onm) := Blk.cell hcq rfl
  have z10 : wq.cell? ⟨x,10,none⟩ = some (.int .i64 osz) := Blk.cell hcq rfl
  have z11 : wq.cell? ⟨x,11,none⟩ = some (.slice A hn ca) := Blk.cell hcq rfl
  have hsq : wq.heap.size = x + 2 := by rw [← HSA.out,← hwq2];rfl
  clear hwq2
  go_upto_region 4 with fail
  obtain ⟨we,hwe⟩ : ∃ we,wq.alloc (.cells #[.int .i64 on,.int .i64 oe,.int .i64 ok,.int .i64 os,.int .i64 oc,.int .i64 oq,.string onm,.int .i64 osz,.slice A hn ca] 36) = we := ⟨_,rfl⟩
  have hke : Kp No wq we := by rw [← hwe];exact (Kp.refl _ _).alloc _
  have hbo : Blk we (x + 2) 36 [.int .i64 on,.int .i64 oe,.int .i64 ok,.int .i64 os,.int .i64 oc,.int .i64 oq,.string onm,.int .i64 osz,.slice A hn ca] := by rw [← hwe,← hsq];exact Blk.new wq _ _
  have hse : we.heap.size = x + 3 := by rw [← hwe];simp [hsq]
  have hae := HA.out.keptNo (hwq.trans' hke)
  have hde := HD.out.kept (hwq.trans' hke) (fun x => x)
  have hce := hcq.kept hke (fun x => x)
  have hbe := HB.out.kept (hwq.trans' hke) (fun x => x)
  obtain ⟨was,Av,nv,cv,Bw,hlook,hwas⟩ := hae.last hbe rfl oc
  have HAE := Lib.hid hae
  have HDE := Lib.hid hde
  have HCE := Lib.hid hce
  have HBE := Lib.hid hbe
  have HBO := Lib.hid hbo
  have HKE := Lib.hid (HK.out.trans' (hwq.trans' hke))
  have HSE := Lib.hid hse
  have HLOOK := Lib.hid hlook
  have HWAS := Lib.hid hwas
  rw [hwe]
  clear hwe hke hcq hae hde hce hwas hlook hwq hsq z3 z4 z5 z6 z7 z8 z9 z10 z11 HA HC HD HB HK HSA
  have k2 : we.cell? ⟨l,2,none⟩ = some (.map (some b2)) := Blk.cell hbe rfl
  have y4 : we.cell? ⟨x + 2,4,none⟩ = some (.int .i64 oc) := Blk.cell hbo rfl
  have hl1 := HLOOK.out we.drew ((Kp.refl _ _).drew)
  unfold opV at hl1 HLOOK
  obtain ⟨vn,ve,vk,vs,vc,vq,vnm,vsz,vhs⟩ := was
  simp only at hl1 HLOOK HWAS
  clear hbe hbo
  refine Reg.wp_region_plan [⟨0,false,[]⟩,⟨1,false,[]⟩,⟨2,false,[]⟩,⟨3,false,[]⟩,⟨4,false,[]⟩,⟨5,false,[]⟩,⟨6,false,[]⟩,⟨7,false,[]⟩,⟨8,false,[]⟩,⟨9,false,[]⟩,⟨10,false,[]⟩,⟨11,true,[1,2,3,4,5,6,7,9,10]⟩,⟨12,true,[10]⟩,⟨13,false,[]⟩] rfl (by kernel_rfl) ?_
  repeat (first | (refine Reg.look rfl rfl rfl (by go_simp;rfl) rfl ?_;go_simp) | (refine Reg.skip rfl rfl rfl ?_;go_simp))
  refine Reg.act rfl ?_
  go_wp2_with fail
  obtain ⟨wg,hwg⟩ : ∃ wg,(we.alloc (.cells #[.int .i64 0,.int .i64 0,.int .i64 0,.int .i64 0,.int .i64 0,.int .i64 0,.string { data := #[] },.int .i64 0,.slice none 0 0] 36)).drew = wg := ⟨_,rfl⟩
  have hkg : Kp No we wg := by rw [← hwg];exact ((Kp.refl _ _).alloc _).drew
  have hbw : Blk wg (x + 3) 36 [.int .i64 0,.int .i64 0,.int .i64 0,.int .i64 0,.int .i64 0,.int .i64 0,.string { data := #[] },.int .i64 0,.slice none 0 0] := by
   rw [← hwg,← HSE.out];exact (Blk.new we _ _).kept (S := No) ((Kp.refl _ _).drew) (fun x => x)
  have hl2 := HLOOK.out wg hkg
  have k2g : wg.cell? ⟨l,2,none⟩ = some (.map (some b2)) := Blk.cell (HBE.out.kept hkg (fun x => x)) rfl
  have y4g : wg.cell? ⟨x + 2,4,none⟩ = some (.int .i64 oc) := Blk.cell (HBO.out.kept hkg (fun x => x)) rfl
  have g0 := Blk.fr hbw 0
  have g1 := Blk.fr hbw 1
  have g2 := Blk.fr hbw 2
  have g3 := Blk.fr hbw 3
  have g4 := Blk.fr hbw 4
  have g5 := Blk.fr hbw 5
  have g6 := Blk.fr hbw 6
  have g7 := Blk.fr hbw 7
  have g8 := Blk.fr hbw 8
  have c0 : wg.cell? ⟨x + 3,0,none⟩ = some _ := Blk.cell hbw rfl
  have c1 : wg.cell? ⟨x + 3,1,none⟩ = some _ := Blk.cell hbw rfl
  have c2 : wg.cell? ⟨x + 3,2,none⟩ = some _ := Blk.cell hbw rfl
  have c3 : wg.cell? ⟨x + 3,3,none⟩ = some _ := Blk.cell hbw rfl
  have c4 : wg.cell? ⟨x + 3,4,none⟩ = some _ := Blk.cell hbw rfl
  have c5 : wg.cell? ⟨x + 3,5,none⟩ = some _ := Blk.cell hbw rfl
  have c6 : wg.cell? ⟨x + 3,6,none⟩ = some _ := Blk.cell hbw rfl
  have c7 : wg.cell? ⟨x + 3,7,none⟩ = some _ := Blk.cell hbw rfl
  have c8 : wg.cell? ⟨x + 3,8,none⟩ = some _ := Blk.cell hbw rfl
  have HBW := Lib.hid hbw
  have HKG := Lib.hid hkg
  rw [hwg]
  clear hwg hbw hkg hl1 k2 y4
  (refine ⟨?anew,?_⟩;case anew => ((repeat (refine Reg.anew_cons rfl rfl (fun _ => by go_simp) ?_));exact Reg.anew_nil))
  refine Reg.act rfl ?_
  go_wp2_with fail
  obtain ⟨wh,hwh⟩ : ∃ wh,(((((((((wg.setCell ⟨x + 3,0,none⟩ (.int .i64 vn)).setCell ⟨x + 3,1,none⟩ (.int .i64 ve)).setCell ⟨x + 3,2,none⟩ (.int .i64 vk)).setCell ⟨x + 3,3,none⟩ (.int .i64 vs)).setCell ⟨x + 3,4,none⟩ (.int .i64 vc)).setCell ⟨x + 3,5,none⟩ (.int .i64 vq)).setCell ⟨x + 3,6,none⟩ (.string vnm)).setCell ⟨x + 3,7,none⟩ (.int .i64 vsz)).setCell ⟨x + 3,8,none⟩ (.slice Av nv cv)) = wh := ⟨_,rfl⟩
  have hkh : Kp (· = x + 3) wg wh := by rw [← hwh];exact ((((((((((Kp.refl (· = x + 3) wg).setCell (p := ⟨x + 3,0,none⟩) (fun _ => rfl) _).setCell (p := ⟨x + 3,1,none⟩) (fun _ => rfl) _).setCell (p := ⟨x + 3,2,none⟩) (fun _ => rfl) _).setCell (p := ⟨x + 3,3,none⟩) (fun _ => rfl) _).setCell (p := ⟨x + 3,4,none⟩) (fun _ => rfl) _).setCell (p := ⟨x + 3,5,none⟩) (fun _ => rfl) _).setCell (p := ⟨x + 3,6,none⟩) (fun _ => rfl) _).setCell (p := ⟨x + 3,7,none⟩) (fun _ => rfl) _).setCell (p := ⟨x + 3,8,none⟩) (fun _ => rfl) _)
  have hbh : Blk wh (x + 3) 36 [.int .i64 vn,.int .i64 ve,.int .i64 vk,.int .i64 vs,.int .i64 vc,.int .i64 vq,.string vnm,.int .i64 vsz,.slice Av nv cv] := by rw [← hwh];have hbw := HBW.out;exact (Blk.set (Blk.set (Blk.set (Blk.set (Blk.set (Blk.set (Blk.set (Blk.set (Blk.set hbw 0 (.int .i64 vn)) 1 (.int .i64 ve)) 2 (.int .i64 vk)) 3 (.int .i64 vs)) 4 (.int .i64 vc)) 5 (.int .i64 vq)) 6 (.string vnm)) 7 (.int .i64 vsz)) 8 (.slice Av nv cv))
  rw [hwh]
  clear hwh c0 c1 c2 c3 c4 c5 c6 c7 c8 g0 g1 g2 g3 g4 g5 g6 g7 g8 hl2 k2g y4g
  (refine ⟨?anew,?_⟩;case anew => ((repeat (refine Reg.anew_cons rfl rfl (fun _ => by go_simp) ?_));exact Reg.anew_nil))
  repeat (first | (refine Reg.look rfl rfl rfl (by go_simp;rfl) rfl ?_;go_simp) | (refine Reg.skip rfl rfl rfl ?_;go_simp))
  (refine Reg.done ?_;simp only [Exit.then])
  have hkgh : Kp (· = x + 3) we wh := HKG.out.any.trans' hkh
  have hx3 : w.heap.size ≤ x + 3 := by have := HX.out;omega
  have hAh : LAt wh l L F := HAE.out.kept hkgh (fun k hk e => by have h1 := HAE.out.lt k hk;have h2 := HSE.out;omega)
  have hDh := HDE.out.kept hkgh (by omega)
  have hCh := HCE.out.kept hkgh (by omega)
  have hOh := HBO.out.kept hkgh (by omega)
  have hBh := HBE.out.kept hkgh (fun e => by have h1 := HAE.out.lt l HAE.out.self;have h2 := HSE.out;omega)
  have hKh : Kp No w wh := HKE.out.trans hkgh (fun i hi e => absurd hi (by omega))
  have hSh : x + 3 < wh.heap.size := Blk.lt hbh
  have HAH := Lib.hid hAh
  have HDH := Lib.hid hDh
  have HCH := Lib.hid hCh
  have HWH := Lib.hid hOh
  have HBH := Lib.hid hBh
  have HKH := Lib.hid hKh
  have HSH := Lib.hid hSh
  have HVH := Lib.hid hbh
  clear hkh hkgh hx3 hAh hDh hCh hBh hKh hSh HAE HDE HCE HBO HBE HKE HBW HKG HSE HLOOK
  have y5 : wh.cell? ⟨x + 2,5,none⟩ = some (.int .i64 oq) := Blk.cell hOh rfl
  have v0 : wh.cell? ⟨x + 3,0,none⟩ = some (.int .i64 vn) := Blk.cell hbh rfl
  have v1 : wh.cell? ⟨x + 3,1,none⟩ = some (.int .i64 ve) := Blk.cell hbh rfl
  have v2 : wh.cell? ⟨x + 3,2,none⟩ = some (.int .i64 vk) := Blk.cell hbh rfl
  have v3 : wh.cell? ⟨x + 3,3,none⟩ = some (.int .i64 vs) := Blk.cell hbh rfl
  have v4 : wh.cell? ⟨x + 3,4,none⟩ = some (.int .i64 vc) := Blk.cell hbh rfl
  have v5 : wh.cell? ⟨x + 3,5,none⟩ = some (.int .i64 vq) := Blk.cell hbh rfl
  have v6 : wh.cell? ⟨x + 3,6,none⟩ = some (.string vnm) := Blk.cell hbh rfl
  have v7 : wh.cell? ⟨x + 3,7,none⟩ = some (.int .i64 vsz) := Blk.cell hbh rfl
  have v8 : wh.cell? ⟨x + 3,8,none⟩ = some (.slice Av nv cv) := Blk.cell hbh rfl
  clear hOh hbh
  have hnew : Hid (doNew ⟨ck,he,hs,⟨on,oe,ok,os,oc,oq,onm,osz,ohs⟩,af,si,ops,tg⟩ L = P) ∧ (Bw = false ∨ (Bw = true ∧ ¬ oq ≤ vq)) ∨ (Bw = true ∧ oq < vq ∧ P = (failD 124,L)) ∨ (Bw = true ∧ oq = vq ∧ P = ((0,vn,ve),L)) := by
   have hp := HP.out
   rcases HWAS.out with ⟨hb,hg⟩ | ⟨hb,hg⟩
   · rw [hg] at hp
     simp only at hp
     by_cases h1 : oq ≤ vq
     · rw [if_pos h1] at hp
       by_cases h2 : oq < vq
       · rw [if_pos h2] at hp
         exact .inr (.inl ⟨hb,h2,hp.symm⟩)
       · rw [if_neg h2] at hp
         exact .inr (.inr ⟨hb,by omega,hp.symm⟩)
     · rw [if_neg h1] at hp
       exact .inl ⟨Lib.hid hp,.inr ⟨hb,h1⟩⟩
   · rw [hg] at hp
     exact .inl ⟨Lib.hid hp,.inl hb⟩
  clear HP HWAS
  rcases hnew with ⟨HP,hbq⟩ | ⟨rfl,hlt,rfl⟩ | ⟨rfl,rfl,rfl⟩
  case inr.inl =>
   have hle : oq ≤ vq := by omega
   go_wp2_with fail
   refine (l_failed 124 _).mono ?_
   rintro e w9 ⟨rfl,hk9⟩
   have hk9 := ((Kp.refl No wh)).trans' hk9
   have h9k := (HKH.out).trans' hk9
   have h9a := (HAH.out).keptNo hk9
   have h9d := (HDH.out).kept hk9 (fun x => x)
   have H9K := Lib.hid h9k
   have H9A := Lib.hid h9a
   have H9D := Lib.hid h9d
   have g0 := Blk.fr h9d 0
   have g1 := Blk.fr h9d 1
   have g2 := Blk.fr h9d 2
   have u0 : w9.cell? ⟨x + 1,0,none⟩ = some _ := Blk.cell h9d rfl
   have u1 : w9.cell? ⟨x + 1,1,none⟩ = some _ := Blk.cell h9d rfl
   have u2 : w9.cell? ⟨x + 1,2,none⟩ = some _ := Blk.cell h9d rfl
   clear hk9 h9k h9a h9d
   go_wp2_with fail
   clear g0 g1 g2 u0 u1 u2
   obtain ⟨hkf,hbf⟩ := done_stored H9D.out (.int .i64 124) (.int .i64 0) (.int .i64 0)
   have hfd := HFX.out.2
   have hwx : w.heap.size = x := HX.out
   have hAf := (H9A.out).kept hkf (fun k hk e => hfd (e ▸ hk))
   have hKf := (H9K.out).trans hkf (fun i hi e => absurd hi (by omega))
   exact bodyPost_ret (results_cell_row rfl _ _ (x + 1) _ _ _ _ rfl hbf Tryz.underlying44 rfl (by kernel_rfl)) rfl ⟨by rfl,F,hAf,hKf.any,fun k hk => .inl hk⟩
  case inr.inr =>
   have hnl : ¬ oq < oq := by omega
   go_wp2_with fail
   refine (l_spot ⟨vn,ve,vk,vs,vc,oq,vnm,vsz,[]⟩ (.slice Av nv cv) wh).mono ?_
   rintro e w9 ⟨rfl,hk9⟩
   have h9k := HKH.out.trans' hk9
   have h9a := HAH.out.keptNo hk9
   have h9d := HDH.out.kept hk9 (fun x => x)
   have H9K := Lib.hid h9k
   have H9A := Lib.hid h9a
   have H9D := Lib.hid h9d
   have g0 := Blk.fr h9d 0
   have g1 := Blk.fr h9d 1
   have g2 := Blk.fr h9d 2
   have u0 : w9.cell? ⟨x + 1,0,none⟩ = some _ := Blk.cell h9d rfl
   have u1 : w9.cell? ⟨x + 1,1,none⟩ = some _ := Blk.cell h9d rfl
   have u2 : w9.cell? ⟨x + 1,2,none⟩ = some _ := Blk.cell h9d rfl
   clear hk9 h9k h9a h9d v0 v1 v2 v3 v4 v5 v6 v7 v8 y5
   go_wp2_with fail
   clear g0 g1 g2 u0 u1 u2
   obtain ⟨hkf,hbf⟩ := done_stored H9D.out (.int .i64 0) (.int .i64 vn) (.int .i64 ve)
   have hfd := HFX.out.2
   have hwx : w.heap.size = x := HX.out
   have hAf := (H9A.out).kept hkf (fun k hk e => hfd (e ▸ hk))
   have hKf := (H9K.out).trans hkf (fun i hi e => absurd hi (by omega))
   exact bodyPost_ret (results_cell_row rfl _ _ (x + 1) _ _ _ _ rfl hbf Tryz.underlying44 rfl (by kernel_rfl)) rfl ⟨by rfl,F,hAf,hKf.any,fun k hk => .inl hk⟩
  case inl =>
   rcases hbq with rfl | ⟨rfl,hnq⟩
   all_goals
    go_upto_region 9 with fail
    clear v0 v1 v2 v3 v4 v5 v6 v7 v8 y5
    obtain ⟨ls,Al,nl,cl,hlive⟩ := HAH.out.live HBH.out rfl onm
    obtain ⟨lb,hlb⟩ : ∃ lb,liveL onm L = lb := ⟨_,rfl⟩
    rw [hlb] at hlive
    have HLB := Lib.hid hlb
    have HLV := Lib.hid hlive
    have hl1 := hlive wh.drew ((Kp.refl _ _).drew)
    obtain ⟨y,hy⟩ : ∃ y,wh.heap.size = y := ⟨_,rfl⟩
    have HY := Lib.hid hy
    have k0 : wh.cell? ⟨l,0,none⟩ = some (.map (some b1)) := Blk.cell HBH.out rfl
    have y6 : wh.cell? ⟨x + 2,6,none⟩ = some (.string onm) := Blk.cell HWH.out rfl
    clear hlb hlive
    refine Reg.wp_region_plan [⟨0,false,[]⟩,⟨1,false,[]⟩,⟨2,false,[]⟩,⟨3,false,[]⟩,⟨4,false,[]⟩,⟨5,false,[]⟩,⟨6,false,[]⟩,⟨7,false,[]⟩,⟨8,false,[]⟩,⟨9,false,[]⟩,⟨10,false,[]⟩,⟨11,true,[1,2,3,4,5,6,7,9,10]⟩,⟨12,true,[10]⟩,⟨13,false,[]⟩] rfl (by kernel_rfl) ?_
    repeat (first | (refine Reg.look rfl rfl rfl (by go_simp;rfl) rfl ?_;go_simp) | (refine Reg.skip rfl rfl rfl ?_;go_simp))
    refine Reg.act rfl ?_
    go_wp2_with fail
    obtain ⟨wi,hwi⟩ : ∃ wi,(wh.alloc (.cells #[.int .i64 0,.slice none 0 0] 34)).drew = wi := ⟨_,rfl⟩
    have hki : Kp No wh wi := by rw [← hwi];exact ((Kp.refl _ _).alloc _).drew
    have hbi : Blk wi y 34 [.int .i64 0,.slice none 0 0] := by
     rw [← hwi,← HY.out];exact (Blk.new wh _ _).kept (S := No) ((Kp.refl _ _).drew) (fun x => x)
    have hl2 := HLV.out wi hki
    have k0g : wi.cell? ⟨l,0,none⟩ = some (.map (some b1)) := Blk.cell (HBH.out.kept hki (fun x => x)) rfl
    have y6g : wi.cell? ⟨x + 2,6,none⟩ = some (.string onm) := Blk.cell (HWH.out.kept hki (fun x => x)) rfl
    have g0 := Blk.fr hbi 0
    have g1 := Blk.fr hbi 1
    have c0 : wi.cell? ⟨y,0,none⟩ = some _ := Blk.cell hbi rfl
    have c1 : wi.cell? ⟨y,1,none⟩ = some _ := Blk.cell hbi rfl
    have HKI := Lib.hid hki
    rw [hwi]
    clear hwi hbi hki hl1 k0 y6 hy
    (refine ⟨?anew,?_⟩;case anew => ((repeat (refine Reg.anew_cons rfl rfl (fun _ => by go_simp) ?_));exact Reg.anew_nil))
    refine Reg.act rfl ?_
    go_wp2_with fail
    obtain ⟨wj,hwj⟩ : ∃ wj,(wi.setCell ⟨y,0,none⟩ (.int .i64 ls)).setCell ⟨y,1,none⟩ (.slice Al nl cl) = wj := ⟨_,rfl⟩
    have hkij : Kp (· = y) wi wj := by rw [← hwj];exact ((Kp.refl (· = y) wi).setCell (p := ⟨y,0,none⟩) (fun _ => rfl) _).setCell (p := ⟨y,1,none⟩) (fun _ => rfl) _
    have hkj : Kp No wh wj := HKI.out.trans hkij (fun i hi e => by have := HY.out;omega)
    rw [hwj]
    clear hwj hkij c0 c1 g0 g1 hl2 k0g y6g
    (refine ⟨?anew,?_⟩;case anew => ((repeat (refine Reg.anew_cons rfl rfl (fun _ => by go_simp) ?_));exact Reg.anew_nil))
    repeat (first | (refine Reg.look rfl rfl rfl (by go_simp;rfl) rfl ?_;go_simp) | (refine Reg.skip rfl rfl rfl ?_;go_simp))
    (refine Reg.done ?_;simp only [Exit.then])
    have HAJ := Lib.hid (HAH.out.keptNo hkj)
    have HDJ := Lib.hid (HDH.out.kept hkj (fun x => x))
    have HCJ := Lib.hid (HCH.out.kept hkj (fun x => x))
    have HWJ := Lib.hid (HWH.out.kept hkj (fun x => x))
    have HBJ := Lib.hid (HBH.out.kept hkj (fun x => x))
    have HKJ := Lib.hid (HKH.out.trans' hkj)
    clear hkj HLV HKI
    have y2 : wj.cell? ⟨x + 2,2,none⟩ = some (.int .i64 ok) := Blk.cell HWJ.out rfl
    unfold doNew at HP
    simp only at HP
    rw [HLB.out] at HP
    by_cases hk1 : ok = 1
    · subst hk1
      cases lb
      · rw [if_neg (by simp)] at HP
        have y7 : wj.cell? ⟨x + 2,7,none⟩ = some (.int .i64 osz) := Blk.cell HWJ.out rfl
        have k1 := Blk.cell HBJ.out (i := 1) rfl
        have k9 := Blk.cell HBJ.out (i := 9) rfl
        obtain ⟨us,hus⟩ : ∃ us,L.fold.used = us := ⟨_,rfl⟩
        obtain ⟨qu,hqu⟩ : ∃ qu,L.quota = qu := ⟨_,rfl⟩
        have hub := HOK.out.foldOk.bound
        have hlen := HOK.out.len
        have hsb := HOP.out.size
        simp only [OpL.placed] at hsb
        rw [hus] at k1 HP hub
        rw [hqu] at k9 HP
        obtain ⟨hub1,hub2⟩ := hub
        obtain ⟨hsb1,hsb2⟩ := hsb
        have hub3 : us ≤ 85899345920 := by omega
        clear hus hqu hub2 hlen
        go_upto_region 12 with fail
        by_cases hq : qu < us + osz
        · rw [if_pos ⟨rfl,hq⟩] at HP
          have hPe : P = (failD 102,L) := HP.out.symm
          subst hPe
          clear HP
          go_quiet (fail)
          obtain ⟨wk,hwq⟩ : ∃ v,(wj).drewN nq = v := ⟨_,rfl⟩
          have hkq : Kp No wj wk := by rw [← hwq];exact (Kp.refl No _).drewN _
          rw [hwq]
          have HAK := Lib.hid (HAJ.out.keptNo hkq)
          have HDK := Lib.hid (HDJ.out.kept hkq (fun x => x))
          have HCK := Lib.hid (HCJ.out.kept hkq (fun x => x))
          have HWK := Lib.hid (HWJ.out.kept hkq (fun x => x))
          have HBK := Lib.hid (HBJ.out.kept hkq (fun x => x))
          have HKK := Lib.hid (HKJ.out.trans' hkq)
          clear hwq hkq
          clear y2 y7 k1 k9
          go_wp2_with fail
          refine (l_failed 102 _).mono ?_
          rintro e w9 ⟨rfl,hk9⟩
          have hk9 := ((Kp.refl No _)).trans' hk9
          have h9k := (HKK.out).trans' hk9
          have h9a := (HAK.out).keptNo hk9
          have h9d := (HDK.out).kept hk9 (fun x => x)
          have H9K := Lib.hid h9k
          have H9A := Lib.hid h9a
          have H9D := Lib.hid h9d
          have g0 := Blk.fr h9d 0
          have g1 := Blk.fr h9d 1
          have g2 := Blk.fr h9d 2
          have u0 : w9.cell? ⟨x + 1,0,none⟩ = some _ := Blk.cell h9d rfl
          have u1 : w9.cell? ⟨x + 1,1,none⟩ = some _ := Blk.cell h9d rfl
          have u2 : w9.cell? ⟨x + 1,2,none⟩ = some _ := Blk.cell h9d rfl
          clear hk9 h9k h9a h9d
          go_wp2_with fail
          clear g0 g1 g2 u0 u1 u2
          obtain ⟨hkf,hbf⟩ := done_stored H9D.out (.int .i64 102) (.int .i64 0) (.int .i64 0)
          have hfd := HFX.out.2
          have hwx : w.heap.size = x := HX.out
          have hAf := (H9A.out).kept hkf (fun k hk e => hfd (e ▸ hk))
          have hKf := (H9K.out).trans hkf (fun i hi e => absurd hi (by omega))
          exact bodyPost_ret (results_cell_row rfl _ _ (x + 1) _ _ _ _ rfl hbf Tryz.underlying44 rfl (by kernel_rfl)) rfl ⟨by rfl,F,hAf,hKf.any,fun k hk => .inl hk⟩
        · rw [if_neg (fun h => hq h.2),if_neg (fun h => absurd h.1 (by decide))] at HP
          have hqd : decide (qu < us + osz) = false := decide_eq_false hq
          go_quiet (fail)
          obtain ⟨wk,hwq⟩ : ∃ v,(wj).drewN nq = v := ⟨_,rfl⟩
          have hkq : Kp No wj wk := by rw [← hwq];exact (Kp.refl No _).drewN _
          rw [hwq]
          have HAK := Lib.hid (HAJ.out.keptNo hkq)
          have HDK := Lib.hid (HDJ.out.kept hkq (fun x => x))
          have HCK := Lib.hid (HCJ.out.kept hkq (fun x => x))
          have HWK := Lib.hid (HWJ.out.kept hkq (fun x => x))
          have HBK := Lib.hid (HBJ.out.kept hkq (fun x => x))
          have HKK := Lib.hid (HKJ.out.trans' hkq)
          clear hwq hkq
          clear y2 y7 k1 k9 hq hqd
          have y2 : wk.cell? ⟨x + 2,2,none⟩ = some (.int .i64 1) := Blk.cell HWK.out rfl
          have hroom := HOK.out.room
          have hlen := HOK.out.len
          obtain ⟨n,hnl⟩ : ∃ n,L.ops.length = n := ⟨_,rfl⟩
          obtain ⟨ro,hro⟩ : ∃ ro,L.room = ro := ⟨_,rfl⟩
          have k5 := Blk.cell HBK.out (i := 5) rfl
          have k10 := Blk.cell HBK.out (i := 10) rfl
          rw [hnl] at k5 hlen HP
          rw [hro] at k10 HP
          have HNL := Lib.hid hnl
          have HRO := Lib.hid hro
          clear hnl hro hroom
          go_upto_region 16 with fail
          by_cases hf : ro ≤ (n : Int)
          · rw [if_pos hf] at HP
            have hPe : P = (failD 125,L) := HP.out.symm
            subst hPe
            clear HP
            go_quiet (fail)
            obtain ⟨wl,hwq⟩ : ∃ v,(wk).drewN nq = v := ⟨_,rfl⟩
            have hkq : Kp No wk wl := by rw [← hwq];exact (Kp.refl No _).drewN _
            rw [hwq]
            have HAM := Lib.hid (HAK.out.keptNo hkq)
            have HDM := Lib.hid (HDK.out.kept hkq (fun x => x))
            have HCM := Lib.hid (HCK.out.kept hkq (fun x => x))
            have HWM := Lib.hid (HWK.out.kept hkq (fun x => x))
            have HBM := Lib.hid (HBK.out.kept hkq (fun x => x))
            have HKM := Lib.hid (HKK.out.trans' hkq)
            clear hwq hkq
            clear k5 k10 hf
            go_wp2_with fail
            refine (l_failed 125 _).mono ?_
            rintro e w9 ⟨rfl,hk9⟩
            have hk9 := ((Kp.refl No _)).trans' hk9
            have h9k := (HKM.out).trans' hk9
            have h9a := (HAM.out).keptNo hk9
            have h9d := (HDM.out).kept hk9 (fun x => x)
            have H9K := Lib.hid h9k
            have H9A := Lib.hid h9a
            have H9D := Lib.hid h9d
            have g0 := Blk.fr h9d 0
            have g1 := Blk.fr h9d 1
            have g2 := Blk.fr h9d 2
            have u0 : w9.cell? ⟨x + 1,0,none⟩ = some _ := Blk.cell h9d rfl
            have u1 : w9.cell? ⟨x + 1,1,none⟩ = some _ := Blk.cell h9d rfl
            have u2 : w9.cell? ⟨x + 1,2,none⟩ = some _ := Blk.cell h9d rfl
            clear hk9 h9k h9a h9d
            go_wp2_with fail
            clear g0 g1 g2 u0 u1 u2
            obtain ⟨hkf,hbf⟩ := done_stored H9D.out (.int .i64 125) (.int .i64 0) (.int .i64 0)
            have hfd := HFX.out.2
            have hwx : w.heap.size = x := HX.out
            have hAf := (H9A.out).kept hkf (fun k hk e => hfd (e ▸ hk))
            have hKf := (H9K.out).trans hkf (fun i hi e => absurd hi (by omega))
            exact bodyPost_ret (results_cell_row rfl _ _ (x + 1) _ _ _ _ rfl hbf Tryz.underlying44 rfl (by kernel_rfl)) rfl ⟨by rfl,F,hAf,hKf.any,fun k hk => .inl hk⟩
          · rw [if_neg hf] at HP
            go_quiet (fail)
            obtain ⟨wl,hwq⟩ : ∃ v,(wk).drewN nq = v := ⟨_,rfl⟩
            have hkq : Kp No wk wl := by rw [← hwq];exact (Kp.refl No _).drewN _
            rw [hwq]
            have HAM := Lib.hid (HAK.out.keptNo hkq)
            have HDM := Lib.hid (HDK.out.kept hkq (fun x => x))
            have HCM := Lib.hid (HCK.out.kept hkq (fun x => x))
            have HWM := Lib.hid (HWK.out.kept hkq (fun x => x))
            have HBM := Lib.hid (HBK.out.kept hkq (fun x => x))
            have HKM := Lib.hid (HKK.out.trans' hkq)
            clear hwq hkq
            clear k5 k10 hf
            have y0 : wl.cell? ⟨x + 2,0,none⟩ = some (.int .i64 on) := Blk.cell HWM.out rfl
            have y1 : wl.cell? ⟨x + 2,1,none⟩ = some (.int .i64 oe) := Blk.cell HWM.out rfl
            have y2 := Blk.cell HWM.out (i := 2) rfl
            have y3 : wl.cell? ⟨x + 2,3,none⟩ = some (.int .i64 os) := Blk.cell HWM.out rfl
            have y4 : wl.cell? ⟨x + 2,4,none⟩ = some (.int .i64 oc) := Blk.cell HWM.out rfl
            have y5 : wl.cell? ⟨x + 2,5,none⟩ = some (.int .i64 oq) := Blk.cell HWM.out rfl
            have y6 : wl.cell? ⟨x + 2,6,none⟩ = some (.string onm) := Blk.cell HWM.out rfl
            have y7 : wl.cell? ⟨x + 2,7,none⟩ = some (.int .i64 osz) := Blk.cell HWM.out rfl
            have y8 : wl.cell? ⟨x + 2,8,none⟩ = some (.slice A hn ca) := Blk.cell HWM.out rfl
            have z1 : wl.cell? ⟨x,1,none⟩ = some (.int .i64 he) := Blk.cell HCM.out rfl
            have z2 : wl.cell? ⟨x,2,none⟩ = some (.int .i64 hs) := Blk.cell HCM.out rfl
            go_wp2_with fail
            have hhn := HHN.out
            subst hhn
            refine (a_put ⟨on,oe,1,os,oc,oq,onm,osz,ohs⟩ he hs A ca SA l L F wl HAM.out (Rp.str.slice.keptNo HH2.out HKM.out) (nums_placed HOP.out HK3.out ⟨by omega,by have := HOK.out.len;omega⟩) (by have := HOP.out.hashes;simp only [OpL.placed] at this;show ohs.length ≤ 1000000;omega) (by have := HOK.out.len;omega) HOK.out.foldOk (fun _ => by have := HOP.out.size;simp only [OpL.placed] at this;unfold Small;simp only;omega)).mono ?_
            rintro e w9 ⟨rfl,F',h9a,h9u⟩
            have hds : x + 1 < wl.heap.size := Blk.lt HDM.out
            have h9d := HDM.out.kept h9u.kp (fun e => HFX.out.2 e)
            have H9A := Lib.hid h9a
            have H9U := Lib.hid h9u
            have H9D := Lib.hid h9d
            have HDS := Lib.hid hds
            have g0 := Blk.fr h9d 0
            have g1 := Blk.fr h9d 1
            have g2 := Blk.fr h9d 2
            have u0 : w9.cell? ⟨x + 1,0,none⟩ = some _ := Blk.cell h9d rfl
            have u1 : w9.cell? ⟨x + 1,1,none⟩ = some _ := Blk.cell h9d rfl
            have u2 : w9.cell? ⟨x + 1,2,none⟩ = some _ := Blk.cell h9d rfl
            have HP2 := HP
            obtain ⟨pl,hpl⟩ : ∃ pl,putL (⟨on,oe,1,os,oc,oq,onm,osz,ohs⟩ : OpL) he hs L = pl := ⟨_,rfl⟩
            have hPe : P = pl := HP.out.symm.trans hpl
            rw [hpl] at H9A ⊢
            subst hPe
            obtain ⟨⟨p0,p1,p2⟩,pL⟩ := P
            clear h9a h9u h9d hds HP HP2 hpl y0 y1 y2 y3 y4 y5 y6 y7 y8 z1 z2
            unfold doneV
            go_wp2_with fail
            clear g0 g1 g2 u0 u1 u2
            have HKF : Hid (Kp F w wl) := Lib.hid HKM.out.any
            obtain ⟨hkf,hbf⟩ := done_stored H9D.out (.int .i64 p0) (.int .i64 p1) (.int .i64 p2)
            have hwx : w.heap.size = x := HX.out
            have hnf : ∀ k,F' k → k ≠ x + 1 := fun k hk e => by
             rcases (H9U.out).foot k hk with h | h
             · exact HFX.out.2 (e ▸ h)
             · have := HDS.out;omega
            have hAf := (H9A.out).kept hkf (fun k hk e => hnf k hk e)
            have hKf := ((HKF.out).trans (H9U.out).kp (fun _ _ e => e)).trans hkf (fun i hi e => absurd hi (by omega))
            have hF' : ∀ k,F' k → F k ∨ w.heap.size ≤ k := fun k hk => by
             rcases (H9U.out).foot k hk with h | h
             · exact .inl h
             · exact .inr (Nat.le_trans (HKF.out).size h)
            exact bodyPost_ret (results_cell_row rfl _ _ (x + 1) _ _ _ _ rfl hbf Tryz.underlying44 rfl (by kernel_rfl)) rfl ⟨by rfl,F',hAf,hKf,hF'⟩
      · rw [if_pos ⟨rfl,rfl⟩] at HP
        have hPe : P = (failD 122,L) := HP.out.symm
        subst hPe
        clear HP
        go_wp2_with fail
        refine (l_failed 122 _).mono ?_
        rintro e w9 ⟨rfl,hk9⟩
        have hk9 := ((Kp.refl No wj)).trans' hk9
        have h9k := (HKJ.out).trans' hk9
        have h9a := (HAJ.out).keptNo hk9
        have h9d := (HDJ.out).kept hk9 (fun x => x)
        have H9K := Lib.hid h9k
        have H9A := Lib.hid h9a
        have H9D := Lib.hid h9d
        have g0 := Blk.fr h9d 0
        have g1 := Blk.fr h9d 1
        have g2 := Blk.fr h9d 2
        have u0 : w9.cell? ⟨x + 1,0,none⟩ = some _ := Blk.cell h9d rfl
        have u1 : w9.cell? ⟨x + 1,1,none⟩ = some _ := Blk.cell h9d rfl
        have u2 : w9.cell? ⟨x + 1,2,none⟩ = some _ := Blk.cell h9d rfl
        clear hk9 h9k h9a h9d
        go_wp2_with fail
        clear g0 g1 g2 u0 u1 u2
        obtain ⟨hkf,hbf⟩ := done_stored H9D.out (.int .i64 122) (.int .i64 0) (.int .i64 0)
        have hfd := HFX.out.2
        have hwx : w.heap.size = x := HX.out
        have hAf := (H9A.out).kept hkf (fun k hk e => hfd (e ▸ hk))
        have hKf := (H9K.out).trans hkf (fun i hi e => absurd hi (by omega))
        exact bodyPost_ret (results_cell_row rfl _ _ (x + 1) _ _ _ _ rfl hbf Tryz.underlying44 rfl (by kernel_rfl)) rfl ⟨by rfl,F,hAf,hKf.any,fun k hk => .inl hk⟩
    · have hk2 : ok = 2 := by
       have := HOP.out.2
       have h3 := HK3.out
       simp only [OpL.placed] at this
       rcases this with h | h | h
       · exact absurd h.1 hk1
       · exact h.1
       · exact absurd h.1 h3
      subst hk2
      rw [if_neg (fun h => hk1 h.1),if_neg (fun h => hk1 h.1)] at HP
      clear hk1
      go_upto_region 12 with fail
      go_quiet (fail)
      obtain ⟨wk,hwq⟩ : ∃ v,(wj).drewN nq = v := ⟨_,rfl⟩
      have hkq : Kp No wj wk := by rw [← hwq];exact (Kp.refl No _).drewN _
      rw [hwq]
      have HAK := Lib.hid (HAJ.out.keptNo hkq)
      have HDK := Lib.hid (HDJ.out.kept hkq (fun x => x))
      have HCK := Lib.hid (HCJ.out.kept hkq (fun x => x))
      have HWK := Lib.hid (HWJ.out.kept hkq (fun x => x))
      have HBK := Lib.hid (HBJ.out.kept hkq (fun x => x))
      have HKK := Lib.hid (HKJ.out.trans' hkq)
      clear hwq hkq
      clear y2
      have y2 : wk.cell? ⟨x + 2,2,none⟩ = some (.int .i64 2) := Blk.cell HWK.out rfl
      cases lb
      · rw [if_pos ⟨rfl,rfl⟩] at HP
        have hPe : P = (failD 123,L) := HP.out.symm
        subst hPe
        clear HP
        go_wp2_with fail
        refine (l_failed 123 _).mono ?_
        rintro e w9 ⟨rfl,hk9⟩
        have hk9 := ((Kp.refl No wk)).trans' hk9
        have h9k := (HKK.out).trans' hk9
        have h9a := (HAK.out).keptNo hk9
        have h9d := (HDK.out).kept hk9 (fun x => x)
        have H9K := Lib.hid h9k
        have H9A := Lib.hid h9a
        have H9D := Lib.hid h9d
        have g0 := Blk.fr h9d 0
        have g1 := Blk.fr h9d 1
        have g2 := Blk.fr h9d 2
        have u0 : w9.cell? ⟨x + 1,0,none⟩ = some _ := Blk.cell h9d rfl
        have u1 : w9.cell? ⟨x + 1,1,none⟩ = some _ := Blk.cell h9d rfl
        have u2 : w9.cell? ⟨x + 1,2,none⟩ = some _ := Blk.cell h9d rfl
        clear hk9 h9k h9a h9d
        go_wp2_with fail
        clear g0 g1 g2 u0 u1 u2
        obtain ⟨hkf,hbf⟩ := done_stored H9D.out (.int .i64 123) (.int .i64 0) (.int .i64 0)
        have hfd := HFX.out.2
        have hwx : w.heap.size = x := HX.out
        have hAf := (H9A.out).kept hkf (fun k hk e => hfd (e ▸ hk))
        have hKf := (H9K.out).trans hkf (fun i hi e => absurd hi (by omega))
        exact bodyPost_ret (results_cell_row rfl _ _ (x + 1) _ _ _ _ rfl hbf Tryz.underlying44 rfl (by kernel_rfl)) rfl ⟨by rfl,F,hAf,hKf.any,fun k hk => .inl hk⟩
      · rw [if_neg (by simp)] at HP
        have hroom := HOK.out.room
        have hlen := HOK.out.len
        obtain ⟨n,hnl⟩ : ∃ n,L.ops.length = n := ⟨_,rfl⟩
        obtain ⟨ro,hro⟩ : ∃ ro,L.room = ro := ⟨_,rfl⟩
        have k5 := Blk.cell HBK.out (i := 5) rfl
        have k10 := Blk.cell HBK.out (i := 10) rfl
        rw [hnl] at k5 hlen HP
        rw [hro] at k10 HP
        have HNL := Lib.hid hnl
        have HRO := Lib.hid hro
        clear hnl hro hroom
        go_upto_region 16 with fail
        by_cases hf : ro ≤ (n : Int)
        · rw [if_pos hf] at HP
          have hPe : P = (failD 125,L) := HP.out.symm
          subst hPe
          clear HP
          go_quiet (fail)
          obtain ⟨wl,hwq⟩ : ∃ v,(wk).drewN nq = v := ⟨_,rfl⟩
          have hkq : Kp No wk wl := by rw [← hwq];exact (Kp.refl No _).drewN _
          rw [hwq]
          have HAM := Lib.hid (HAK.out.keptNo hkq)
          have HDM := Lib.hid (HDK.out.kept hkq (fun x => x))
          have HCM := Lib.hid (HCK.out.kept hkq (fun x => x))
          have HWM := Lib.hid (HWK.out.kept hkq (fun x => x))
          have HBM := Lib.hid (HBK.out.kept hkq (fun x => x))
          have HKM := Lib.hid (HKK.out.trans' hkq)
          clear hwq hkq
          clear k5 k10 hf
          go_wp2_with fail
          refine (l_failed 125 _).mono ?_
          rintro e w9 ⟨rfl,hk9⟩
          have hk9 := ((Kp.refl No _)).trans' hk9
          have h9k := (HKM.out).trans' hk9
          have h9a := (HAM.out).keptNo hk9
          have h9d := (HDM.out).kept hk9 (fun x => x)
          have H9K := Lib.hid h9k
          have H9A := Lib.hid h9a
          have H9D := Lib.hid h9d
          have g0 := Blk.fr h9d 0
          have g1 := Blk.fr h9d 1
          have g2 := Blk.fr h9d 2
          have u0 : w9.cell? ⟨x + 1,0,none⟩ = some _ := Blk.cell h9d rfl
          have u1 : w9.cell? ⟨x + 1,1,none⟩ = some _ := Blk.cell h9d rfl
          have u2 : w9.cell? ⟨x + 1,2,none⟩ = some _ := Blk.cell h9d rfl
          clear hk9 h9k h9a h9d
          go_wp2_with fail
          clear g0 g1 g2 u0 u1 u2
          obtain ⟨hkf,hbf⟩ := done_stored H9D.out (.int .i64 125) (.int .i64 0) (.int .i64 0)
          have hfd := HFX.out.2
          have hwx : w.heap.size = x := HX.out
          have hAf := (H9A.out).kept hkf (fun k hk e => hfd (e ▸ hk))
          have hKf := (H9K.out).trans hkf (fun i hi e => absurd hi (by omega))
          exact bodyPost_ret (results_cell_row rfl _ _ (x + 1) _ _ _ _ rfl hbf Tryz.underlying44 rfl (by kernel_rfl)) rfl ⟨by rfl,F,hAf,hKf.any,fun k hk => .inl hk⟩
        · rw [if_neg hf] at HP
          go_quiet (fail)
          obtain ⟨wl,hwq⟩ : ∃ v,(wk).drewN nq = v := ⟨_,rfl⟩
          have hkq : Kp No wk wl := by rw [← hwq];exact (Kp.refl No _).drewN _
          rw [hwq]
          have HAM := Lib.hid (HAK.out.keptNo hkq)
          have HDM := Lib.hid (HDK.out.kept hkq (fun x => x))
          have HCM := Lib.hid (HCK.out.kept hkq (fun x => x))
          have HWM := Lib.hid (HWK.out.kept hkq (fun x => x))
          have HBM := Lib.hid (HBK.out.kept hkq (fun x => x))
          have HKM := Lib.hid (HKK.out.trans' hkq)
          clear hwq hkq
          clear k5 k10 hf
          have y0 : wl.cell? ⟨x + 2,0,none⟩ = some (.int .i64 on) := Blk.cell HWM.out rfl
          have y1 : wl.cell? ⟨x + 2,1,none⟩ = some (.int .i64 oe) := Blk.cell HWM.out rfl
          have y2 := Blk.cell HWM.out (i := 2) rfl
          have y3 : wl.cell? ⟨x + 2,3,none⟩ = some (.int .i64 os) := Blk.cell HWM.out rfl
          have y4 : wl.cell? ⟨x + 2,4,none⟩ = some (.int .i64 oc) := Blk.cell HWM.out rfl
          have y5 : wl.cell? ⟨x + 2,5,none⟩ = some (.int .i64 oq) := Blk.cell HWM.out rfl
          have y6 : wl.cell? ⟨x + 2,6,none⟩ = some (.string onm) := Blk.cell HWM.out rfl
          have y7 : wl.cell? ⟨x + 2,7,none⟩ = some (.int .i64 osz) := Blk.cell HWM.out rfl
          have y8 : wl.cell? ⟨x + 2,8,none⟩ = some (.slice A hn ca) := Blk.cell HWM.out rfl
          have z1 : wl.cell? ⟨x,1,none⟩ = some (.int .i64 he) := Blk.cell HCM.out rfl
          have z2 : wl.cell? ⟨x,2,none⟩ = some (.int .i64 hs) := Blk.cell HCM.out rfl
          go_wp2_with fail
          have hhn := HHN.out
          subst hhn
          refine (a_put ⟨on,oe,2,os,oc,oq,onm,osz,ohs⟩ he hs A ca SA l L F wl HAM.out (Rp.str.slice.keptNo HH2.out HKM.out) (nums_placed HOP.out HK3.out ⟨by omega,by have := HOK.out.len;omega⟩) (by have := HOP.out.hashes;simp only [OpL.placed] at this;show ohs.length ≤ 1000000;omega) (by have := HOK.out.len;omega) HOK.out.foldOk (fun _ => by have := HOP.out.size;simp only [OpL.placed] at this;unfold Small;simp only;omega)).mono ?_
          rintro e w9 ⟨rfl,F',h9a,h9u⟩
          have hds : x + 1 < wl.heap.size := Blk.lt HDM.out
          have h9d := HDM.out.kept h9u.kp (fun e => HFX.out.2 e)
          have H9A := Lib.hid h9a
          have H9U := Lib.hid h9u
          have H9D := Lib.hid h9d
          have HDS := Lib.hid hds
          have g0 := Blk.fr h9d 0
          have g1 := Blk.fr h9d 1
          have g2 := Blk.fr h9d 2
          have u0 : w9.cell? ⟨x + 1,0,none⟩ = some _ := Blk.cell h9d rfl
          have u1 : w9.cell? ⟨x + 1,1,none⟩ = some _ := Blk.cell h9d rfl
          have u2 : w9.cell? ⟨x + 1,2,none⟩ = some _ := Blk.cell h9d rfl
          have HP2 := HP
          obtain ⟨pl,hpl⟩ : ∃ pl,putL (⟨on,oe,2,os,oc,oq,onm,osz,ohs⟩ : OpL) he hs L = pl := ⟨_,rfl⟩
          have hPe : P = pl := HP.out.symm.trans hpl
          rw [hpl] at H9A ⊢
          subst hPe
          obtain ⟨⟨p0,p1,p2⟩,pL⟩ := P
          clear h9a h9u h9d hds HP HP2 hpl y0 y1 y2 y3 y4 y5 y6 y7 y8 z1 z2
          unfold doneV
          go_wp2_with fail
          clear g0 g1 g2 u0 u1 u2
          have HKF : Hid (Kp F w wl) := Lib.hid HKM.out.any
          obtain ⟨hkf,hbf⟩ := done_stored H9D.out (.int .i64 p0) (.int .i64 p1) (.int .i64 p2)
          have hwx : w.heap.size = x := HX.out
          have hnf : ∀ k,F' k → k ≠ x + 1 := fun k hk e => by
           rcases (H9U.out).foot k hk with h | h
           · exact HFX.out.2 (e ▸ h)
           · have := HDS.out;omega
          have hAf := (H9A.out).kept hkf (fun k hk e => hnf k hk e)
          have hKf := ((HKF.out).trans (H9U.out).kp (fun _ _ e => e)).trans hkf (fun i hi e => absurd hi (by omega))
          have hF' : ∀ k,F' k → F k ∨ w.heap.size ≤ k := fun k hk => by
           rcases (H9U.out).foot k hk with h | h
           · exact .inl h
           · exact .inr (Nat.le_trans (HKF.out).size h)
          exact bodyPost_ret (results_cell_row rfl _ _ (x + 1) _ _ _ _ rfl hbf Tryz.underlying44 rfl (by kernel_rfl)) rfl ⟨by rfl,F',hAf,hKf,hF'⟩
end Go.Proofs.YtjlbacfedfkilaaGreat
