/-
  The document's ledger: mark.
-/
import Derived.Test.YtjlbacfedfkilaaGreatRlG
import Derived.Test.YtjlbacfedfkilaaGreatGG
namespace Go.Proofs.YtjlbacfedfkilaaGreat
open Go.RowKit Go.ChangeShapes Go.WideShapes Go.ChangeAt
namespace RLAt
variable {w w' : World} {l : Nat} {L : LV} {F S T : Nat → Prop}
theorem self (h : RLAt w l L F S) : F l := by
 obtain ⟨ov,gv,_,h2⟩ := h
 exact (h2 l).2 (.inl rfl)
theorem turned (h : RLAt w l L F S) (i : Nat) (v : Value) (L' : LV) (ho : L'.ops = L.ops) (hg : L'.lost = L.lost) (hc : ∀ ov gv : Value,([ov,gv,.int .i64 L.fence,.int .i64 L.settled,.int .i64 L.quota,.int .i64 L.room] : List Value).set i v = [ov,gv,.int .i64 L'.fence,.int .i64 L'.settled,.int .i64 L'.quota,.int .i64 L'.room]) :
 RLAt (w.setCell ⟨l,i,none⟩ v) l L' F S := by
 obtain ⟨ov,gv,h1,h2⟩ := h
 have hk : Kp (· = l) w (w.setCell ⟨l,i,none⟩ v) := (Kp.refl (· = l) w).setCell (p := ⟨l,i,none⟩) (fun _ => rfl) _
 exact ⟨ov,gv,⟨by rw [← hc];exact Blk.set h1.blk i v,by rw [ho];exact h1.ops.kept hk (fun k hs _ e => h1.sl (e ▸ hs)) (fun k hv e => h1.ol (e ▸ hv)),by rw [hg];exact h1.gone.kept hk (fun k hs _ _ => hs) (fun k hv e => h1.gl (e ▸ hv)),h1.ol,h1.gl,h1.og,h1.sl,h1.so,h1.sg,fun k hk2 => Nat.lt_of_lt_of_le (h1.hi k hk2) hk.size⟩,h2⟩
theorem fence (h : RLAt w l L F S) (e : Int) : RLAt (w.setCell ⟨l,2,none⟩ (.int .i64 e)) l { L with fence := e } F S := h.turned 2 _ _ rfl rfl (fun _ _ => rfl)
theorem settled (h : RLAt w l L F S) (e : Int) : RLAt (w.setCell ⟨l,3,none⟩ (.int .i64 e)) l { L with settled := e } F S := h.turned 3 _ _ rfl rfl (fun _ _ => rfl)
theorem at_ (h : RLAt w l L F S) : ∃ (A : Option Addr) (c : Nat) (gv : Value),Blk w l 92 [.slice A L.ops.length c,gv,.int .i64 L.fence,.int .i64 L.settled,.int .i64 L.quota,.int .i64 L.room] ∧ ∀ (i : Nat) (o : OpL),L.ops[i]? = some o → ∃ (g : Nat) (A' : Option Addr) (c' : Nat),A = some ⟨g,0,none⟩ ∧ (∀ (j : Nat) u,(o.cells (.slice A' o.hashes.length c'))[j]? = some u → w.cell? ⟨g,i * 9 + j,none⟩ = some u) ∧ g < w.heap.size := by
 obtain ⟨ov,gv,h1,h2⟩ := h
 obtain ⟨A,c,rfl⟩ := h1.ops.shape
 refine ⟨A,c,gv,h1.blk,fun i o hi => ?_⟩
 obtain ⟨g,A',c',he,_,_,hc,_⟩ := Own.at_opl h1.ops hi
 exact ⟨g,A',c',he,hc,lt_of_cell (hc 0 _ rfl)⟩
end RLAt
theorem r_lappendA (o : OpL) (ep st : Int) (Ah : Option Addr) (ch : Nat) (SA : Nat → Prop) (l : Nat) (L : LV) (F S : Nat → Prop) (w : World) (h : RLAt w l L F S) (hh : Rp.str.slice.R w SA [.slice Ah o.hashes.length ch] o.hashes)
 (hn : (o.placed (L.ops.length + 1) ep st).nums) (hll : o.hashes.length ≤ 1000000) (hl : L.ops.length ≤ 1000) :
 Calls Tryz.prog 43 #[.pointer (some ⟨l,0,none⟩),opV o (.slice Ah o.hashes.length ch),.int .i64 ep,.int .i64 st] w fun x w' => x = .returned (doneV (putL o ep st L).1) ∧
  ∃ F' S',RLAt w' l (putL o ep st L).2 F' S' ∧ UpdS F S w w' F' S' := by
 obtain ⟨ov,gv,h1,h2⟩ := h
 refine (r_lappend o ep st Ah ch SA l ov gv S L w h1 hh hn hll hl).mono ?_
 rintro e w' ⟨he,ov',S',h3,h4,h5,h6,h7⟩
 exact ⟨he,_,S',⟨ov',gv,h3,fun k => Iff.rfl⟩,h4.mono (fun k _ hk => (h2 k).2 hk),fun k hk => (h5 k hk).imp (h2 k).2 id,fun k hk => (h6 k hk).imp (Or.imp id (h2 k).2) id,h7⟩
theorem r_begin {w : World} {l : Nat} {L : LV} {F S : Nat → Prop} (h : RLAt w l L F S) (c : CmdL) (hv ov : Value) :
 RLAt ((w.alloc (.cells (cmdC c hv ov).toArray 39)).alloc (.cells #[.int .i64 0,.int .i64 0,.int .i64 0] 44)) l L F S ∧
 Kp No w ((w.alloc (.cells (cmdC c hv ov).toArray 39)).alloc (.cells #[.int .i64 0,.int .i64 0,.int .i64 0] 44)) ∧
 Blk ((w.alloc (.cells (cmdC c hv ov).toArray 39)).alloc (.cells #[.int .i64 0,.int .i64 0,.int .i64 0] 44)) w.heap.size 39 (cmdC c hv ov) ∧
 Blk ((w.alloc (.cells (cmdC c hv ov).toArray 39)).alloc (.cells #[.int .i64 0,.int .i64 0,.int .i64 0] 44)) (w.heap.size + 1) 44 [.int .i64 0,.int .i64 0,.int .i64 0] := by
 have hk : Kp No w ((w.alloc (.cells (cmdC c hv ov).toArray 39)).alloc (.cells #[.int .i64 0,.int .i64 0,.int .i64 0] 44)) := ((Kp.refl _ _).alloc _).alloc _
 refine ⟨h.keptNo hk,hk,(Blk.new w _ _).kept (S := No) ((Kp.refl _ _).alloc _) (fun x => x),?_⟩
 have := Blk.new (w.alloc (.cells (cmdC c hv ov).toArray 39)) [.int .i64 0,.int .i64 0,.int .i64 0] 44
 simpa using this
set_option maxRecDepth 100000 in
set_option maxHeartbeats 4000000 in
theorem r_lmark (c : CmdL) (hv ov : Value) (B : Nat) (l : Nat) (L : LV) (F S : Nat → Prop) (w : World) (h : RLAt w l L F S) (hok : OkL B L) (hr : markP c) :
 Calls Tryz.prog 42 #[.pointer (some ⟨l,0,none⟩),cmdV c hv ov] w fun x w' => x = .returned (doneV (markL c L).1) ∧ ∃ F' S',RLAt w' l (markL c L).2 F' S' ∧ UpdS F S w w' F' S' := by
 have HOK := Lib.hid hok
 have HRP := Lib.hid hr
 clear hok hr
 obtain ⟨P,hP⟩ : ∃ P,markL c L = P := ⟨_,rfl⟩
 rw [hP]
 have HP := Lib.hid hP
 clear hP
 obtain ⟨x,hx⟩ : ∃ x,w.heap.size = x := ⟨_,rfl⟩
 obtain ⟨h1,h2,h3,h4⟩ := r_begin h c hv ov
 have hfx : ¬ (F x ∨ S x) ∧ ¬ (F (x + 1) ∨ S (x + 1)) := ⟨fun e => by have := h.lt e;omega,fun e => by have := h.lt e;omega⟩
 have HFX := Lib.hid hfx
 have hxl : l ≠ x ∧ l ≠ x + 1 := ⟨fun e => hfx.1 (.inl (e ▸ h.self)),fun e => hfx.2 (.inl (e ▸ h.self))⟩
 have HXL := Lib.hid hxl
 obtain ⟨hxl1,hxl2⟩ := hxl
 obtain ⟨wa,hwa⟩ : ∃ wa,(w.alloc (.cells (cmdC c hv ov).toArray 39)).alloc (.cells #[.int .i64 0,.int .i64 0,.int .i64 0] 44) = wa := ⟨_,rfl⟩
 rw [hwa] at h1 h2 h3 h4
 rw [hx] at h3 h4
 unfold cmdC at h3 hwa
 have HA := Lib.hid h1
 have HK := Lib.hid h2
 have HC := Lib.hid h3
 have HD := Lib.hid h4
 have HX := Lib.hid hx
 have HHO := Lib.hid (r_lholder l L F S wa h1 (by have := HOK.out.len;omega))
 clear h1 h2 h3 h4 h hfx
 unfold cmdV
 obtain ⟨ep,hep⟩ : ∃ ep,c.epoch = ep := ⟨_,rfl⟩
 obtain ⟨st,hst⟩ : ∃ st,c.site = st := ⟨_,rfl⟩
 obtain ⟨fe,hfe⟩ : ∃ fe,L.fence = fe := ⟨_,rfl⟩
 have HEP := Lib.hid hep
 have HST := Lib.hid hst
 have HFE := Lib.hid hfe
 clear hep hst hfe
 obtain ⟨an,han⟩ : ∃ an,c.after = an := ⟨_,rfl⟩
 obtain ⟨ae,hae⟩ : ∃ ae,c.since = ae := ⟨_,rfl⟩
 have HAN := Lib.hid han
 have HAE := Lib.hid hae
 clear han hae
 go_enter Tryz.func42,Tryz.ntmps42
 go_upto_region 1 with fail
 try rw [hwa,hx]
 clear hwa hx
 go_wp2_with fail
 refine HHO.out.mono ?_
 rintro e w2 ⟨rfl,hk2⟩
 obtain ⟨he,hhe⟩ : ∃ he,L.fold.hE = he := ⟨_,rfl⟩
 obtain ⟨hs,hhs⟩ : ∃ hs,L.fold.hS = hs := ⟨_,rfl⟩
 rw [hhe,hhs]
 have HHE := Lib.hid hhe
 have HHS := Lib.hid hhs
 clear hhe hhs HHO
 go_upto_region 2 with fail
 obtain ⟨z,hz⟩ : ∃ v,w2.heap.size = v := ⟨_,rfl⟩
 obtain ⟨wg,hwg⟩ : ∃ v,w2.alloc (.cells #[.int .i64 he,.int .i64 hs] 85) = v := ⟨_,rfl⟩
 have hbg : Blk wg z 85 [.int .i64 he,.int .i64 hs] := by rw [← hwg,← hz];exact Blk.new w2 _ _
 have hkg : Kp No wa wg := by rw [← hwg];exact hk2.trans' ((Kp.refl _ _).alloc _)
 have HG := Lib.hid hbg
 have HKG := Lib.hid hkg
 rw [hwg,hz]
 clear hwg hz hbg hkg hk2
 have HAG := Lib.hid (HA.out.keptNo HKG.out)
 have HCG := Lib.hid (HC.out.kept HKG.out (fun h => h))
 have HDG := Lib.hid (HD.out.kept HKG.out (fun h => h))
 have HKW := Lib.hid (HK.out.trans' HKG.out)
 clear HA HC HD HK HKG
 obtain ⟨HB,hHB⟩ : ∃ v,(!decide (holdsL ep st L)) = v := ⟨_,rfl⟩
 have HHB := Lib.hid hHB
 clear hHB
 go_cut [28] (fun bv wx => bv = .bool HB ∧ Hid (Kp No wg wx))
 case first =>
  obtain ⟨Ao,co,gv,hbl,hat⟩ := HAG.out.at_
  have k0 : wg.cell? ⟨l,0,none⟩ = some (.slice Ao L.ops.length co) := Blk.cell hbl rfl
  have k2 : wg.cell? ⟨l,2,none⟩ = some (.int .i64 fe) := HFE.out ▸ Blk.cell hbl rfl
  have y0 : wg.cell? ⟨z,0,none⟩ = some (.int .i64 he) := Blk.cell HG.out rfl
  have y1 : wg.cell? ⟨z,1,none⟩ = some (.int .i64 hs) := Blk.cell HG.out rfl
  have z1 : wg.cell? ⟨x,1,none⟩ = some (.int .i64 ep) := HEP.out ▸ Blk.cell HCG.out rfl
  have z2 : wg.cell? ⟨x,2,none⟩ = some (.int .i64 st) := HST.out ▸ Blk.cell HCG.out rfl
  by_cases e1 : ep = fe
  · by_cases e2 : he = ep
    · by_cases e3 : hs = st
      · obtain rfl : HB = false := by rw [← HHB.out,decide_eq_true (show holdsL ep st L from ⟨e1.trans HFE.out.symm,HHE.out.trans e2,HHS.out.trans e3⟩)];rfl
        have b1 : (ep != fe) = false := by simp [e1]
        have b2 : (he != ep) = false := by simp [e2]
        have b3 : (hs != st) = false := by simp [e3]
        clear e1 e2 e3
        clear hbl hat
        go_quiet (fail)
        go_wp2_with fail
        go_meet
        exact ⟨rfl,Lib.hid ((Kp.refl _ _).drewN _)⟩
      · obtain rfl : HB = true := by rw [← HHB.out,decide_eq_false (fun h : holdsL ep st L => e3 (HHS.out.symm.trans h.2.2))];rfl
        have b1 : (ep != fe) = false := by simp [e1]
        have b2 : (he != ep) = false := by simp [e2]
        have b3 : (hs != st) = true := bne_iff_ne.2 e3
        clear e1 e2 e3
        clear hbl hat
        go_quiet (fail)
        go_wp2_with fail
        go_meet
        exact ⟨rfl,Lib.hid ((Kp.refl _ _).drewN _)⟩
    · obtain rfl : HB = true := by rw [← HHB.out,decide_eq_false (fun h : holdsL ep st L => e2 (HHE.out.symm.trans h.2.1))];rfl
      have b1 : (ep != fe) = false := by simp [e1]
      have b2 : (he != ep) = true := bne_iff_ne.2 e2
      clear e1 e2
      clear hbl hat
      go_quiet (fail)
      go_wp2_with fail
      go_meet
      exact ⟨rfl,Lib.hid ((Kp.refl _ _).drewN _)⟩
  · obtain rfl : HB = true := by rw [← HHB.out,decide_eq_false (fun h : holdsL ep st L => e1 (h.1.trans HFE.out))];rfl
    have b1 : (ep != fe) = true := bne_iff_ne.2 e1
    clear e1
    clear hbl hat
    go_quiet (fail)
    go_wp2_with fail
    go_meet
    exact ⟨rfl,Lib.hid ((Kp.refl _ _).drewN _)⟩
 case rest =>
  obtain ⟨rfl,HKC⟩ := hcut
  have HAG := Lib.hid (HAG.out.keptNo HKC.out)
  have HCG := Lib.hid (HCG.out.kept HKC.out (fun h => h))
  have HDG := Lib.hid (HDG.out.kept HKC.out (fun h => h))
  have HG := Lib.hid (HG.out.kept HKC.out (fun h => h))
  have HKW := Lib.hid (HKW.out.trans' HKC.out)
  obtain ⟨wg,rfl⟩ : ∃ v,v = wc := ⟨_,rfl⟩
  cases HB
  case true =>
   have hh : ¬ holdsL ep st L := by have := HHB.out;simpa using this
   obtain rfl : P = (failD 120,L) := by rw [← HP.out];unfold markL;rw [HEP.out,HST.out,if_neg hh]
   clear hh HP HHB
   have hd9 := HDG.out
   have g0 := Blk.fr hd9 0
   have g1 := Blk.fr hd9 1
   have g2 := Blk.fr hd9 2
   have u0 : wg.cell? ⟨x + 1,0,none⟩ = some _ := Blk.cell hd9 rfl
   have u1 : wg.cell? ⟨x + 1,1,none⟩ = some _ := Blk.cell hd9 rfl
   have u2 : wg.cell? ⟨x + 1,2,none⟩ = some _ := Blk.cell hd9 rfl
   clear hd9
   go_wp2_with fail
   clear g0 g1 g2 u0 u1 u2
   obtain ⟨hkf,hbf⟩ := done_stored HDG.out (.int .i64 120) (.int .i64 0) (.int .i64 0)
   have hfd := HFX.out.2
   have hwx : w.heap.size = x := HX.out
   have hAf := HAG.out.kept hkf (fun k hk e => hfd (e ▸ hk))
   have hKf := HKW.out.trans hkf (fun i hi e => absurd hi (by omega))
   exact bodyPost_ret (results_cell_row rfl _ _ (x + 1) _ _ _ _ rfl hbf Tryz.underlying44 rfl (by kernel_rfl)) rfl ⟨by rfl,F,S,hAf,UpdS.none hKf.any⟩
  case false =>
   have hh : holdsL ep st L := by have := HHB.out;simpa using this
   have HP2 : Hid (P = if hasL an ae L = true then ((0,an,ae),{ L with settled := max L.settled an }) else (failD 121,L)) := Lib.hid (by rw [← HP.out];unfold markL;rw [HEP.out,HST.out,if_pos hh,HAN.out,HAE.out])
   have hrp := HRP.out
   unfold markP at hrp
   rw [HAN.out,HAE.out,HEP.out] at hrp
   have HRP2 := Lib.hid hrp
   clear hh HP HHB hrp
   obtain ⟨NB,hNB⟩ : ∃ v,(!hasL an ae L) = v := ⟨_,rfl⟩
   have HNB := Lib.hid hNB
   have hli : (L.ops.length : Int) ≤ 80 := by have := HOK.out.len;omega
   clear hNB
   go_upto_region 4 with fail
   go_cut [52] (fun bv wx => bv = .bool NB ∧ Hid (Kp No wg wx))
   case first =>
    obtain ⟨Ao,co,gv,hbl,hat⟩ := HAG.out.at_
    have k0 : wg.cell? ⟨l,0,none⟩ = some (.slice Ao L.ops.length co) := Blk.cell hbl rfl
    have k2 : wg.cell? ⟨l,2,none⟩ = some (.int .i64 fe) := HFE.out ▸ Blk.cell hbl rfl
    have y0 : wg.cell? ⟨z,0,none⟩ = some (.int .i64 he) := Blk.cell HG.out rfl
    have y1 : wg.cell? ⟨z,1,none⟩ = some (.int .i64 hs) := Blk.cell HG.out rfl
    have z1 : wg.cell? ⟨x,1,none⟩ = some (.int .i64 ep) := HEP.out ▸ Blk.cell HCG.out rfl
    have z2 : wg.cell? ⟨x,2,none⟩ = some (.int .i64 st) := HST.out ▸ Blk.cell HCG.out rfl
    have z12 : wg.cell? ⟨x,12,none⟩ = some (.int .i64 an) := HAN.out ▸ Blk.cell HCG.out rfl
    have z13 : wg.cell? ⟨x,13,none⟩ = some (.int .i64 ae) := HAE.out ▸ Blk.cell HCG.out rfl
    by_cases hgt : (L.ops.length : Int) < an
    case pos =>
     obtain rfl : NB = true := by
      have h := HNB.out
      have h0 : (an == 0) = false := beq_eq_false_iff_ne.2 (by have := HRP2.out.1;omega)
      unfold hasL at h
      rw [h0,decide_eq_false (by omega)] at h
      exact h.symm
     clear hbl hat
     go_quiet (fail)
     go_wp2_with fail
     go_meet
     exact ⟨rfl,Lib.hid ((Kp.refl _ _).drewN _)⟩
    case neg =>
     have hrp := HRP2.out
     obtain ⟨j,rfl⟩ : ∃ j : Nat,an = (j : Int) + 1 := ⟨(an - 1).toNat,by omega⟩
     obtain ⟨o,ho⟩ : ∃ o,L.ops[j]? = some o := ⟨_,List.getElem?_eq_getElem (by omega)⟩
     obtain ⟨g,A',c',rfl,hcell,_⟩ := hat j o ho
     have w1 : wg.cell? ⟨g,j * 9 + 1,none⟩ = some _ := hcell 1 _ rfl
     have hji : (j : Int) < (L.ops.length : Int) := by omega
     have hj0 : (0 : Int) ≤ (j : Int) := by omega
     have hb9 : (o.epoch != ae) = NB := by
      rw [← HNB.out]
      have h0 : ((j : Int) + 1 == 0) = false := beq_eq_false_iff_ne.2 (by omega)
      have h1 : ((j : Int) + 1 - 1).toNat = j := by omega
      unfold hasL epochAt
      rw [h0,h1,ho,decide_eq_true (by omega)]
      simp [bne]
     clear ho hcell hrp
     clear hbl hat
     go_quiet (fail)
     go_wp2_with fail
     go_meet
     exact ⟨rfl,Lib.hid ((Kp.refl _ _).drewN _)⟩
   case rest =>
    obtain ⟨rfl,HKC⟩ := hcut
    have HAG := Lib.hid (HAG.out.keptNo HKC.out)
    have HCG := Lib.hid (HCG.out.kept HKC.out (fun h => h))
    have HDG := Lib.hid (HDG.out.kept HKC.out (fun h => h))
    have HG := Lib.hid (HG.out.kept HKC.out (fun h => h))
    have HKW := Lib.hid (HKW.out.trans' HKC.out)
    obtain ⟨wg,rfl⟩ : ∃ v,v = wc := ⟨_,rfl⟩
    cases NB
    case true =>
     obtain rfl : P = (failD 121,L) := by rw [HP2.out,if_neg (by have := HNB.out;simpa using this)]
     clear HP2 HNB
     have hd9 := HDG.out
     have g0 := Blk.fr hd9 0
     have g1 := Blk.fr hd9 1
     have g2 := Blk.fr hd9 2
     have u0 : wg.cell? ⟨x + 1,0,none⟩ = some _ := Blk.cell hd9 rfl
     have u1 : wg.cell? ⟨x + 1,1,none⟩ = some _ := Blk.cell hd9 rfl
     have u2 : wg.cell? ⟨x + 1,2,none⟩ = some _ := Blk.cell hd9 rfl
     clear hd9
     go_wp2_with fail
     clear g0 g1 g2 u0 u1 u2
     obtain ⟨hkf,hbf⟩ := done_stored HDG.out (.int .i64 121) (.int .i64 0) (.int .i64 0)
     have hfd := HFX.out.2
     have hwx : w.heap.size = x := HX.out
     have hAf := HAG.out.kept hkf (fun k hk e => hfd (e ▸ hk))
     have hKf := HKW.out.trans hkf (fun i hi e => absurd hi (by omega))
     exact bodyPost_ret (results_cell_row rfl _ _ (x + 1) _ _ _ _ rfl hbf Tryz.underlying44 rfl (by kernel_rfl)) rfl ⟨by rfl,F,S,hAf,UpdS.none hKf.any⟩
    case false =>
     have hPe : P = ((0,an,ae),{ L with settled := max L.settled an }) := by rw [HP2.out,if_pos (by have := HNB.out;simpa using this)]
     obtain ⟨sd,hsd⟩ : ∃ sd,L.settled = sd := ⟨_,rfl⟩
     obtain ⟨M,hM⟩ : ∃ M,max sd an = M := ⟨_,rfl⟩
     rw [hsd,hM] at hPe
     subst hPe
     have hset := HOK.out.settled
     rw [hsd] at hset
     have hsd2 := hset.1
     have hsd3 : sd ≤ 80 := by omega
     have han2 := HRP2.out.1
     have han3 := HRP2.out.2.1
     have HSD := Lib.hid hsd
     have HM := Lib.hid hM
     clear HP2 HNB hset hsd
     go_upto_region 6 with fail
     obtain ⟨wd,hwd⟩ : ∃ v,wg.drew = v := ⟨_,rfl⟩
     have HKC : Hid (Kp No wg wd) := Lib.hid (by rw [← hwd];exact (Kp.refl _ _).drew)
     have HAG := Lib.hid (HAG.out.keptNo HKC.out)
     have HCG := Lib.hid (HCG.out.kept HKC.out (fun h => h))
     have HDG := Lib.hid (HDG.out.kept HKC.out (fun h => h))
     have HKW := Lib.hid (HKW.out.trans' HKC.out)
     obtain ⟨Ao,co,gv,hbl,hat⟩ := HAG.out.at_
     have k3 : wd.cell? ⟨l,3,none⟩ = some (.int .i64 sd) := HSD.out ▸ Blk.cell hbl rfl
     have f3 := Blk.fr hbl 3
     have z12 : wd.cell? ⟨x,12,none⟩ = some (.int .i64 an) := HAN.out ▸ Blk.cell HCG.out rfl
     clear hbl hat
     refine Reg.wp_region_plan [⟨0,false,[]⟩,⟨1,false,[]⟩,⟨2,false,[]⟩,⟨3,false,[]⟩,⟨4,false,[]⟩,⟨5,false,[]⟩,⟨6,false,[]⟩,⟨7,false,[]⟩,⟨8,false,[]⟩,⟨9,false,[]⟩,⟨10,true,[]⟩] rfl (by kernel_rfl) ?_
     rw [hwd]
     clear hwd
     repeat (first | (refine Reg.look rfl rfl rfl (by go_simp;rfl) rfl ?_;go_simp) | (refine Reg.skip rfl rfl rfl ?_;go_simp))
     refine Reg.act rfl ?_
     go_wp2_with fail
     (refine ⟨?anew,?_⟩;case anew => ((repeat (refine Reg.anew_cons rfl rfl (fun _ => by go_simp) ?_));exact Reg.anew_nil))
     repeat (first | (refine Reg.look rfl rfl rfl (by go_simp;rfl) rfl ?_;go_simp) | (refine Reg.skip rfl rfl rfl ?_;go_simp))
     (refine Reg.done ?_;simp only [Exit.then])
     have hks : Kp (· = l) wd (wd.setCell ⟨l,3,none⟩ (.int .i64 M)) := (Kp.refl (· = l) wd).setCell (p := ⟨l,3,none⟩) (fun _ => rfl) _
     have hA6 := HAG.out.settled M
     have hD6 := HDG.out.kept hks (fun e => hxl2 e.symm)
     have hC6 := HCG.out.kept hks (fun e => hxl1 e.symm)
     have hK6 : Kp F w (wd.setCell ⟨l,3,none⟩ (.int .i64 M)) := HKW.out.any.trans hks (fun i _ e => by rw [e];exact HAG.out.self)
     clear HKC HKW HAG HCG HDG HG k3 f3 z12 hM
     obtain ⟨wg,hw6⟩ : ∃ w6,wd.setCell ⟨l,3,none⟩ (.int .i64 M) = w6 := ⟨_,rfl⟩
     rw [hw6] at hA6 hD6 hC6 hK6
     rw [hw6]
     clear hw6 hks
     have HAG := Lib.hid hA6
     have HDG := Lib.hid hD6
     have HKW := Lib.hid hK6
     have z12 : wg.cell? ⟨x,12,none⟩ = some (.int .i64 an) := HAN.out ▸ Blk.cell hC6 rfl
     have z13 : wg.cell? ⟨x,13,none⟩ = some (.int .i64 ae) := HAE.out ▸ Blk.cell hC6 rfl
     clear hA6 hD6 hC6 hK6
     have hd9 := HDG.out
     have g0 := Blk.fr hd9 0
     have g1 := Blk.fr hd9 1
     have g2 := Blk.fr hd9 2
     have u0 : wg.cell? ⟨x + 1,0,none⟩ = some _ := Blk.cell hd9 rfl
     have u1 : wg.cell? ⟨x + 1,1,none⟩ = some _ := Blk.cell hd9 rfl
     have u2 : wg.cell? ⟨x + 1,2,none⟩ = some _ := Blk.cell hd9 rfl
     clear hd9
     go_wp2_with fail
     clear g0 g1 g2 u0 u1 u2 z12 z13
     obtain ⟨hkf,hbf⟩ := done_stored HDG.out (.int .i64 0) (.int .i64 an) (.int .i64 ae)
     have hfd := HFX.out.2
     have hwx : w.heap.size = x := HX.out
     have hAf := HAG.out.kept hkf (fun k hk e => hfd (e ▸ hk))
     have hKf := HKW.out.trans hkf (fun i hi e => absurd hi (by omega))
     exact bodyPost_ret (results_cell_row rfl _ _ (x + 1) _ _ _ _ rfl hbf Tryz.underlying44 rfl (by kernel_rfl)) rfl ⟨rfl,F,S,hAf,UpdS.none hKf⟩
end Go.Proofs.YtjlbacfedfkilaaGreat
