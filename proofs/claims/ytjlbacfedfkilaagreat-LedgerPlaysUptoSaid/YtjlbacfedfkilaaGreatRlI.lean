/-
  The document's ledger: do.
-/
import Derived.Test.YtjlbacfedfkilaaGreatRlH
import Derived.Test.YtjlbacfedfkilaaGreatRegT
namespace Go.Proofs.YtjlbacfedfkilaaGreat
open Go.RowKit Go.ChangeShapes Go.WideShapes Go.ChangeAt
theorem last_one (l : List OpL) (o : OpL) (cl : Int) : mget cl (FV.fresh.take (l ++ [o])).lastOf = if o.kind = 3 ∨ o.client ≠ cl then mget cl (FV.fresh.take l).lastOf else some o := by
 rw [FV.take_snoc]
 unfold FV.take1
 by_cases h : o.kind = 3
 · rw [if_pos h,if_pos (.inl h)]
 · rw [if_neg h]
   simp only
   rw [mget_put]
   by_cases e : o.client = cl
   · rw [if_pos e.symm,if_neg (by rintro (h2 | h2);exact h h2;exact h2 e)]
   · rw [if_neg (fun e2 => e e2.symm),if_pos (.inr e)]
def wasAt (sq : Int) (c : CmdL) (L : LV) : Option OpL → Done3 × LV
 | some was => if sq ≤ was.seq then (if sq < was.seq then failD 124 else (0,was.n,was.epoch),L) else doNew c L
 | none => doNew c L
theorem doL_was (c : CmdL) (L : LV) (h : holdsL c.epoch c.site L) : doL c L = wasAt c.op.seq c L (mget c.op.client L.fold.lastOf) := by
 unfold doL wasAt
 rw [if_pos h]
 cases mget c.op.client L.fold.lastOf <;> rfl
set_option maxRecDepth 100000 in
set_option maxHeartbeats 8000000 in
theorem r_ldo (c : CmdL) (Ah : Option Addr) (ch : Nat) (ov : Value) (SA : Nat → Prop) (B : Nat) (l : Nat) (L : LV) (F S : Nat → Prop) (w : World) (h : RLAt w l L F S) (hok : OkL B L) (hh : Rp.str.slice.R w SA [.slice Ah c.op.hashes.length ch] c.op.hashes)
 (hp : okP (c.op.placed 1 c.epoch c.site)) (hk3 : c.op.kind ≠ 3) :
 Calls Tryz.prog 40 #[.pointer (some ⟨l,0,none⟩),cmdV c (.slice Ah c.op.hashes.length ch) ov] w fun x w' => x = .returned (doneV (doL c L).1) ∧ ∃ F' S',RLAt w' l (doL c L).2 F' S' ∧ UpdS F S w w' F' S' := by
 have HOK := Lib.hid hok
 have HH := Lib.hid hh
 have HOP := Lib.hid hp
 have HK3 := Lib.hid hk3
 clear hok hh hp hk3
 obtain ⟨P,hP⟩ : ∃ P,doL c L = P := ⟨_,rfl⟩
 rw [hP]
 have HP := Lib.hid hP
 clear hP
 obtain ⟨hv,hhv⟩ : ∃ hv,Value.slice Ah c.op.hashes.length ch = hv := ⟨_,rfl⟩
 rw [hhv]
 obtain ⟨x,hx⟩ : ∃ x,w.heap.size = x := ⟨_,rfl⟩
 obtain ⟨h1,h2,h3,h4⟩ := r_begin h c hv ov
 have hfx : ¬ (F x ∨ S x) ∧ ¬ (F (x + 1) ∨ S (x + 1)) := ⟨fun e => by have := h.lt e;omega,fun e => by have := h.lt e;omega⟩
 have HFX := Lib.hid hfx
 have hxl : l ≠ x ∧ l ≠ x + 1 := ⟨fun e => hfx.1 (.inl (e ▸ h.self)),fun e => hfx.2 (.inl (e ▸ h.self))⟩
 have HXL := Lib.hid hxl
 obtain ⟨hxl1,hxl2⟩ := hxl
 obtain ⟨wa,hwa⟩ : ∃ wa,(w.alloc (.cells (cmdC c hv ov).toArray 39)).alloc (.cells #[.int .i64 0,.int .i64 0,.int .i64 0] 44) = wa := ⟨_,rfl⟩
 rw [hwa] at h1 h2 h3 h4
 rw [hx] at h3 h4
 unfold cmdC at h3 hwa
 have HA := Lib.hid h1
 have HK := Lib.hid h2
 have HC := Lib.hid h3
 have HD := Lib.hid h4
 have HX := Lib.hid hx
 have HHO := Lib.hid (r_lholder l L F S wa h1 (by have := HOK.out.len;omega))
 clear h1 h2 h3 h4 h hfx
 unfold cmdV
 subst hhv
 obtain ⟨ep,hep⟩ : ∃ ep,c.epoch = ep := ⟨_,rfl⟩
 obtain ⟨st,hst⟩ : ∃ st,c.site = st := ⟨_,rfl⟩
 obtain ⟨fe,hfe⟩ : ∃ fe,L.fence = fe := ⟨_,rfl⟩
 have HEP := Lib.hid hep
 have HST := Lib.hid hst
 have HFE := Lib.hid hfe
 clear hep hst hfe
 go_enter Tryz.func40,Tryz.ntmps40
 go_upto_region 1 with fail
 try rw [hwa,hx]
 clear hwa hx
 go_wp2_with fail
 refine HHO.out.mono ?_
 rintro e w2 ⟨rfl,hk2⟩
 obtain ⟨he,hhe⟩ : ∃ he,L.fold.hE = he := ⟨_,rfl⟩
 obtain ⟨hs,hhs⟩ : ∃ hs,L.fold.hS = hs := ⟨_,rfl⟩
 rw [hhe,hhs]
 have HHE := Lib.hid hhe
 have HHS := Lib.hid hhs
 clear hhe hhs HHO
 go_upto_region 2 with fail
 obtain ⟨z,hz⟩ : ∃ v,w2.heap.size = v := ⟨_,rfl⟩
 obtain ⟨wg,hwg⟩ : ∃ v,w2.alloc (.cells #[.int .i64 he,.int .i64 hs] 85) = v := ⟨_,rfl⟩
 have hbg : Blk wg z 85 [.int .i64 he,.int .i64 hs] := by rw [← hwg,← hz];exact Blk.new w2 _ _
 have hkg : Kp No wa wg := by rw [← hwg];exact hk2.trans' ((Kp.refl _ _).alloc _)
 have HG := Lib.hid hbg
 have HKG := Lib.hid hkg
 rw [hwg,hz]
 clear hwg hz hbg hkg hk2
 have HAG := Lib.hid (HA.out.keptNo HKG.out)
 have HCG := Lib.hid (HC.out.kept HKG.out (fun h => h))
 have HDG := Lib.hid (HD.out.kept HKG.out (fun h => h))
 have HKW := Lib.hid (HK.out.trans' HKG.out)
 clear HA HC HD HK HKG
 obtain ⟨HB,hHB⟩ : ∃ v,(!decide (holdsL ep st L)) = v := ⟨_,rfl⟩
 have HHB := Lib.hid hHB
 clear hHB
 go_cut [32] (fun bv wx => bv = .bool HB ∧ Hid (Kp No wg wx))
 case first =>
  obtain ⟨Ao,co,gv,hbl,hat⟩ := HAG.out.at_
  have k0 : wg.cell? ⟨l,0,none⟩ = some (.slice Ao L.ops.length co) := Blk.cell hbl rfl
  have k2 : wg.cell? ⟨l,2,none⟩ = some (.int .i64 fe) := HFE.out ▸ Blk.cell hbl rfl
  have y0 : wg.cell? ⟨z,0,none⟩ = some (.int .i64 he) := Blk.cell HG.out rfl
  have y1 : wg.cell? ⟨z,1,none⟩ = some (.int .i64 hs) := Blk.cell HG.out rfl
  have z1 : wg.cell? ⟨x,1,none⟩ = some (.int .i64 ep) := HEP.out ▸ Blk.cell HCG.out rfl
  have z2 : wg.cell? ⟨x,2,none⟩ = some (.int .i64 st) := HST.out ▸ Blk.cell HCG.out rfl
  by_cases e1 : ep = fe
  · by_cases e2 : he = ep
    · by_cases e3 : hs = st
      · obtain rfl : HB = false := by rw [← HHB.out,decide_eq_true (show holdsL ep st L from ⟨e1.trans HFE.out.symm,HHE.out.trans e2,HHS.out.trans e3⟩)];rfl
        have b1 : (ep != fe) = false := by simp [e1]
        have b2 : (he != ep) = false := by simp [e2]
        have b3 : (hs != st) = false := by simp [e3]
        clear e1 e2 e3
        clear hbl hat
        go_quiet (fail)
        go_wp2_with fail
        go_meet
        exact ⟨rfl,Lib.hid ((Kp.refl _ _).drewN _)⟩
      · obtain rfl : HB = true := by rw [← HHB.out,decide_eq_false (fun h : holdsL ep st L => e3 (HHS.out.symm.trans h.2.2))];rfl
        have b1 : (ep != fe) = false := by simp [e1]
        have b2 : (he != ep) = false := by simp [e2]
        have b3 : (hs != st) = true := bne_iff_ne.2 e3
        clear e1 e2 e3
        clear hbl hat
        go_quiet (fail)
        go_wp2_with fail
        go_meet
        exact ⟨rfl,Lib.hid ((Kp.refl _ _).drewN _)⟩
    · obtain rfl : HB = true := by rw [← HHB.out,decide_eq_false (fun h : holdsL ep st L => e2 (HHE.out.symm.trans h.2.1))];rfl
      have b1 : (ep != fe) = false := by simp [e1]
      have b2 : (he != ep) = true := bne_iff_ne.2 e2
      clear e1 e2
      clear hbl hat
      go_quiet (fail)
      go_wp2_with fail
      go_meet
      exact ⟨rfl,Lib.hid ((Kp.refl _ _).drewN _)⟩
  · obtain rfl : HB = true := by rw [← HHB.out,decide_eq_false (fun h : holdsL ep st L => e1 (h.1.trans HFE.out))];rfl
    have b1 : (ep != fe) = true := bne_iff_ne.2 e1
    clear e1
    clear hbl hat
    go_quiet (fail)
    go_wp2_with fail
    go_meet
    exact ⟨rfl,Lib.hid ((Kp.refl _ _).drewN _)⟩
 case rest =>
  obtain ⟨rfl,HKC⟩ := hcut
  have HAG := Lib.hid (HAG.out.keptNo HKC.out)
  have HCG := Lib.hid (HCG.out.kept HKC.out (fun h => h))
  have HDG := Lib.hid (HDG.out.kept HKC.out (fun h => h))
  have HG := Lib.hid (HG.out.kept HKC.out (fun h => h))
  have HKW := Lib.hid (HKW.out.trans' HKC.out)
  obtain ⟨wg,rfl⟩ : ∃ v,v = wc := ⟨_,rfl⟩
  cases HB
  case true =>
   have hh : ¬ holdsL ep st L := by have := HHB.out;simpa using this
   obtain rfl : P = (failD 120,L) := by rw [← HP.out];unfold doL;rw [HEP.out,HST.out,if_neg hh]
   clear hh HP HHB
   have hd9 := HDG.out
   have g0 := Blk.fr hd9 0
   have g1 := Blk.fr hd9 1
   have g2 := Blk.fr hd9 2
   have u0 : wg.cell? ⟨x + 1,0,none⟩ = some _ := Blk.cell hd9 rfl
   have u1 : wg.cell? ⟨x + 1,1,none⟩ = some _ := Blk.cell hd9 rfl
   have u2 : wg.cell? ⟨x + 1,2,none⟩ = some _ := Blk.cell hd9 rfl
   clear hd9
   go_wp2_with fail
   clear g0 g1 g2 u0 u1 u2
   obtain ⟨hkf,hbf⟩ := done_stored HDG.out (.int .i64 120) (.int .i64 0) (.int .i64 0)
   have hfd := HFX.out.2
   have hwx : w.heap.size = x := HX.out
   have hAf := HAG.out.kept hkf (fun k hk e => hfd (e ▸ hk))
   have hKf := HKW.out.trans hkf (fun i hi e => absurd hi (by omega))
   exact bodyPost_ret (results_cell_row rfl _ _ (x + 1) _ _ _ _ rfl hbf Tryz.underlying44 rfl (by kernel_rfl)) rfl ⟨by rfl,F,S,hAf,UpdS.none hKf.any⟩
  case false =>
   have hh : holdsL ep st L := by have := HHB.out;simpa using this
   obtain ⟨cl,hcl⟩ : ∃ v,c.op.client = v := ⟨_,rfl⟩
   obtain ⟨sq,hsq⟩ : ∃ v,c.op.seq = v := ⟨_,rfl⟩
   obtain ⟨Z,hZ⟩ : ∃ v,mget cl L.fold.lastOf = v := ⟨_,rfl⟩
   have HCL := Lib.hid hcl
   have HSQ := Lib.hid hsq
   have HP2 : Hid (P = wasAt sq c L Z) := Lib.hid (by rw [← HP.out,← hZ,← hcl,← hsq];exact doL_was c L (by rw [HEP.out,HST.out];exact hh))
   have hli : (L.ops.length : Int) ≤ 80 := by have := HOK.out.len;omega
   have HZ0 : Hid (mget cl (FV.fresh.take (L.ops.take L.ops.length)).lastOf = Z) := Lib.hid (by rw [List.take_length];exact hZ)
   clear hh HP HHB hcl hsq hZ
   obtain ⟨Ao,co,gv,hbl,hat⟩ := HAG.out.at_
   have k0 : wg.cell? ⟨l,0,none⟩ = some (.slice Ao L.ops.length co) := Blk.cell hbl rfl
   have HLT : Hid (l < wg.heap.size) := Lib.hid (Blk.lt hbl)
   have HAT := Lib.hid hat
   clear hbl hat
   go_wp2_with fail
   go_loopw [6] (fun iv wr => ∃ k : Nat,k ≤ L.ops.length ∧ iv = .int .i64 ((k : Int) - 1) ∧ Hid (mget cl (FV.fresh.take (L.ops.take k)).lastOf = Z) ∧ Hid (Kp No wg wr)) (fun iv _ => (intOf iv + 1).toNat)
   case atStart => exact ⟨L.ops.length,Nat.le_refl _,rfl,HZ0,Lib.hid (Kp.refl _ _)⟩
   case round =>
    clear HZ0
    obtain ⟨k,hk,rfl,HZ,HKR⟩ := hrel
    rcases Nat.eq_zero_or_pos k with hk0 | hk0
    case inl =>
     subst hk0
     have e0 : ((0 : Nat) : Int) - 1 = -1 := rfl
     rw [e0]
     have hZn : Z = none := by rw [← HZ.out];rfl
     subst hZn
     have HPN : Hid (doNew c L = P) := Lib.hid HP2.out.symm
     have HKC := HKR
     obtain ⟨wc,rfl⟩ : ∃ v,v = wr := ⟨_,rfl⟩
     clear HP2 HAT HLT k0 e0 hk HZ HKR
     have HAG := Lib.hid (HAG.out.keptNo HKC.out)
     have HCG := Lib.hid (HCG.out.kept HKC.out (fun h => h))
     have HDG := Lib.hid (HDG.out.kept HKC.out (fun h => h))
     have HG := Lib.hid (HG.out.kept HKC.out (fun h => h))
     have HKW := Lib.hid (HKW.out.trans' HKC.out)
     obtain ⟨wg,rfl⟩ : ∃ v,v = wc := ⟨_,rfl⟩
     go_upto_region 13 with fail
     obtain ⟨LV,hLV⟩ : ∃ v,(mget c.op.name L.fold.live).isSome = v := ⟨_,rfl⟩
     have HSO := Lib.hid (fun w' (hk : Kp No wg w') => r_lsheet B c.op.name l L F S w' (HAG.out.keptNo hk) HOK.out)
     rw [hLV] at HSO
     have HLV : Hid (liveL c.op.name L = LV) := Lib.hid hLV
     clear hLV
     go_cut [9] (fun bv wx => bv = .bool LV ∧ Hid (Kp No wg wx))
     case first =>
      have z9 : wg.cell? ⟨x,9,none⟩ = some (.string c.op.name) := Blk.cell HCG.out rfl
      go_wp2_with fail
      refine (HSO.out wg (Kp.refl _ _)).mono ?_
      rintro e w4 ⟨A6,c6,rfl,_,hk4⟩
      have HK4 := Lib.hid (hk4 : Kp No wg w4)
      clear hk4 z9
      go_wp2_with fail
      go_meet
      exact ⟨rfl,Lib.hid (HK4.out.trans' ((Kp.refl No w4).alloc _))⟩
     case rest =>
      obtain ⟨rfl,HKC⟩ := hcut
      have HAG := Lib.hid (HAG.out.keptNo HKC.out)
      have HCG := Lib.hid (HCG.out.kept HKC.out (fun h => h))
      have HDG := Lib.hid (HDG.out.kept HKC.out (fun h => h))
      have HG := Lib.hid (HG.out.kept HKC.out (fun h => h))
      have HKW := Lib.hid (HKW.out.trans' HKC.out)
      obtain ⟨wg,rfl⟩ : ∃ v,v = wc := ⟨_,rfl⟩
      have HPN2 := Lib.hid HPN.out
      unfold doNew at HPN2
      rw [HLV.out,HEP.out,HST.out] at HPN2
      clear HPN HLV
      have q5 : wg.cell? ⟨x,5,none⟩ = some (.int .i64 c.op.kind) := Blk.cell HCG.out rfl
      by_cases k1 : c.op.kind = 1
      case pos =>
       rw [k1] at q5 HPN2
       have HK1 := Lib.hid k1
       clear k1
       cases LV
       case true =>
        have hP : P = (failD 122,L) := by have h := HPN2.out;simpa using h.symm
        subst hP
        clear HPN2
        have hd9 := HDG.out
        have g0 := Blk.fr hd9 0
        have g1 := Blk.fr hd9 1
        have g2 := Blk.fr hd9 2
        have u0 : wg.cell? ⟨x + 1,0,none⟩ = some _ := Blk.cell hd9 rfl
        have u1 : wg.cell? ⟨x + 1,1,none⟩ = some _ := Blk.cell hd9 rfl
        have u2 : wg.cell? ⟨x + 1,2,none⟩ = some _ := Blk.cell hd9 rfl
        clear hd9
        go_wp2_with fail
        clear g0 g1 g2 u0 u1 u2
        obtain ⟨hkf,hbf⟩ := done_stored HDG.out (.int .i64 122) (.int .i64 0) (.int .i64 0)
        have hfd := HFX.out.2
        have hwx : w.heap.size = x := HX.out
        have hAf := HAG.out.kept hkf (fun k hk e => hfd (e ▸ hk))
        have hKf := HKW.out.trans hkf (fun i hi e => absurd hi (by omega))
        exact bodyPost_ret (results_cell_row rfl _ _ (x + 1) _ _ _ _ rfl hbf Tryz.underlying44 rfl (by kernel_rfl)) rfl ⟨by rfl,F,S,hAf,UpdS.none hKf.any⟩
       case false =>
        obtain ⟨qt,hqt⟩ : ∃ v,L.quota = v := ⟨_,rfl⟩
        obtain ⟨us,hus⟩ : ∃ v,L.fold.used = v := ⟨_,rfl⟩
        obtain ⟨sz,hsz⟩ : ∃ v,c.op.size = v := ⟨_,rfl⟩
        obtain ⟨QB,hQB⟩ : ∃ v,decide (qt < us + sz) = v := ⟨_,rfl⟩
        have HQT := Lib.hid hqt
        have HUS := Lib.hid hus
        have HSZ := Lib.hid hsz
        have hub := HOK.out.foldOk.bound
        rw [hus] at hub
        have hu1 := hub.1
        have hu2 : us ≤ 85899345920 := by have := HOK.out.len;omega
        have hsb := HOP.out.size
        simp only [OpL.placed] at hsb
        rw [hsz] at hsb
        obtain ⟨hs1,hs2⟩ := hsb
        have hwus : IntKind.i64.wrap (us + sz) = us + sz := by rw [IntKind.wrap_i64];omega
        have HPN : Hid ((if qt < us + sz then (failD 102,L) else if L.room ≤ (L.ops.length : Int) then (failD 125,L) else putL c.op ep st L) = P) := Lib.hid (by have h := HPN2.out;rw [hqt,hus,hsz] at h;simpa using h)
        clear HPN2 hqt hus hsz hub
        go_upto_region 16 with fail
        clear q5
        go_cut [114] (fun bv wx => bv = .bool QB ∧ Hid (Kp No wg wx))
        case first =>
         obtain ⟨wd,hwd⟩ : ∃ v,wg.drew = v := ⟨_,rfl⟩
         have HKD : Hid (Kp No wg wd) := Lib.hid (by rw [← hwd];exact (Kp.refl _ _).drew)
         have HCD := Lib.hid (HCG.out.kept HKD.out (fun h => h))
         have HAD := Lib.hid (HAG.out.keptNo HKD.out)
         have HUD := Lib.hid (r_lused B l L F S wd HAD.out HOK.out)
         rw [HUS.out] at HUD
         obtain ⟨Ao,co,gv,hbl,hat⟩ := HAD.out.at_
         have q5 : wd.cell? ⟨x,5,none⟩ = some (.int .i64 1) := by have h : wd.cell? ⟨x,5,none⟩ = some (.int .i64 c.op.kind) := Blk.cell HCD.out rfl;rw [HK1.out] at h;exact h
         have q10 : wd.cell? ⟨x,10,none⟩ = some (.int .i64 sz) := HSZ.out ▸ Blk.cell HCD.out rfl
         have k4 : wd.cell? ⟨l,4,none⟩ = some (.int .i64 qt) := HQT.out ▸ Blk.cell hbl rfl
         clear hbl hat
         refine Reg.wp_region_tree (.look 0 (.look 1 (.look 2 (.look 3 (.look 4 (.look 5 (.look 7 (.look 8 (.look 9 (.look 10 (.look 12 (.look 13 (.look 14 (.look 15 (.one 6 [7,8,9,10,13,14,15] (.look 11 (.look 16 (.look 17 (.done))))))))))))))))))) [6] rfl (by kernel_rfl) ?_
         rw [hwd]
         clear hwd
         repeat (first | (refine Reg.lookT rfl rfl rfl (by go_simp;rfl) rfl ?_;go_simp))
         refine Reg.oneT rfl ?_
         go_wp2_with fail
         refine HUD.out.mono ?_
         rintro e w4 ⟨rfl,hk4⟩
         have HK4 := Lib.hid (HKD.out.trans' hk4)
         have HC4 := Lib.hid (HCD.out.kept hk4 (fun h => h))
         obtain ⟨Ao,co,gv,hbl,hat⟩ := (HAD.out.keptNo hk4).at_
         clear hk4 q5 q10 k4 HUD
         have q5 : w4.cell? ⟨x,5,none⟩ = some (.int .i64 1) := by have h : w4.cell? ⟨x,5,none⟩ = some (.int .i64 c.op.kind) := Blk.cell HC4.out rfl;rw [HK1.out] at h;exact h
         have q10 : w4.cell? ⟨x,10,none⟩ = some (.int .i64 sz) := HSZ.out ▸ Blk.cell HC4.out rfl
         have k4 : w4.cell? ⟨l,4,none⟩ = some (.int .i64 qt) := HQT.out ▸ Blk.cell hbl rfl
         clear hbl hat
         go_wp2_with fail
         (refine ⟨?anew,?_⟩;case anew => ((repeat (refine Reg.anew_cons rfl rfl (fun _ => by go_simp) ?_));exact Reg.anew_nil))
         repeat (first | (refine Reg.lookT rfl rfl rfl (by go_simp;rfl) rfl ?_;go_simp))
         refine Reg.doneT ?_
         simp only [Exit.then]
         go_wp2_with fail
         go_meet
         exact ⟨rfl,HK4⟩
        case rest =>
         obtain ⟨rfl,HKC⟩ := hcut
         have HAG := Lib.hid (HAG.out.keptNo HKC.out)
         have HCG := Lib.hid (HCG.out.kept HKC.out (fun h => h))
         have HDG := Lib.hid (HDG.out.kept HKC.out (fun h => h))
         have HG := Lib.hid (HG.out.kept HKC.out (fun h => h))
         have HKW := Lib.hid (HKW.out.trans' HKC.out)
         obtain ⟨wg,rfl⟩ : ∃ v,v = wc := ⟨_,rfl⟩
         have HQB := Lib.hid hQB
         clear hQB hu1 hu2 hs1 hs2 hwus
         cases QB
         case true =>
          have hP : P = (failD 102,L) := by rw [← HPN.out,if_pos (of_decide_eq_true HQB.out)]
          subst hP
          clear HPN
          have hd9 := HDG.out
          have g0 := Blk.fr hd9 0
          have g1 := Blk.fr hd9 1
          have g2 := Blk.fr hd9 2
          have u0 : wg.cell? ⟨x + 1,0,none⟩ = some _ := Blk.cell hd9 rfl
          have u1 : wg.cell? ⟨x + 1,1,none⟩ = some _ := Blk.cell hd9 rfl
          have u2 : wg.cell? ⟨x + 1,2,none⟩ = some _ := Blk.cell hd9 rfl
          clear hd9
          go_wp2_with fail
          clear g0 g1 g2 u0 u1 u2
          obtain ⟨hkf,hbf⟩ := done_stored HDG.out (.int .i64 102) (.int .i64 0) (.int .i64 0)
          have hfd := HFX.out.2
          have hwx : w.heap.size = x := HX.out
          have hAf := HAG.out.kept hkf (fun k hk e => hfd (e ▸ hk))
          have hKf := HKW.out.trans hkf (fun i hi e => absurd hi (by omega))
          exact bodyPost_ret (results_cell_row rfl _ _ (x + 1) _ _ _ _ rfl hbf Tryz.underlying44 rfl (by kernel_rfl)) rfl ⟨by rfl,F,S,hAf,UpdS.none hKf.any⟩
         case false =>
          have HPN : Hid ((if L.room ≤ (L.ops.length : Int) then (failD 125,L) else putL c.op ep st L) = P) := Lib.hid (by rw [← HPN.out,if_neg (of_decide_eq_false HQB.out)])
          clear HQB
          have q5 : wg.cell? ⟨x,5,none⟩ = some (.int .i64 1) := by have h : wg.cell? ⟨x,5,none⟩ = some (.int .i64 c.op.kind) := Blk.cell HCG.out rfl;rw [HK1.out] at h;exact h
          go_upto_region 20 with fail
          clear q5
          obtain ⟨rm,hrm⟩ : ∃ v,L.room = v := ⟨_,rfl⟩
          have HRM := Lib.hid hrm
          clear hrm
          obtain ⟨Ao,co,gv,hbl,hat⟩ := HAG.out.at_
          have k0 : wg.cell? ⟨l,0,none⟩ = some (.slice Ao L.ops.length co) := Blk.cell hbl rfl
          have k5 : wg.cell? ⟨l,5,none⟩ = some (.int .i64 rm) := HRM.out ▸ Blk.cell hbl rfl
          clear hbl hat
          by_cases hfull : rm ≤ (L.ops.length : Int)
          · have hP : P = (failD 125,L) := by rw [← HPN.out,HRM.out,if_pos hfull]
            subst hP
            clear HPN
            go_quiet (fail)
            clear k0 k5
            have HKC := Lib.hid ((Kp.refl No wg).drewN nq)
            have HAG := Lib.hid (HAG.out.keptNo HKC.out)
            have HDG := Lib.hid (HDG.out.kept HKC.out (fun h => h))
            have HKW := Lib.hid (HKW.out.trans' HKC.out)
            obtain ⟨wg2,hwg2⟩ : ∃ v,wg.drewN nq = v := ⟨_,rfl⟩
            rw [hwg2] at HAG HDG HKW ⊢
            clear hwg2 HKC
            obtain ⟨wg,rfl⟩ : ∃ v,v = wg2 := ⟨_,rfl⟩
            have hd9 := HDG.out
            have g0 := Blk.fr hd9 0
            have g1 := Blk.fr hd9 1
            have g2 := Blk.fr hd9 2
            have u0 : wg.cell? ⟨x + 1,0,none⟩ = some _ := Blk.cell hd9 rfl
            have u1 : wg.cell? ⟨x + 1,1,none⟩ = some _ := Blk.cell hd9 rfl
            have u2 : wg.cell? ⟨x + 1,2,none⟩ = some _ := Blk.cell hd9 rfl
            clear hd9
            go_wp2_with fail
            clear g0 g1 g2 u0 u1 u2
            obtain ⟨hkf,hbf⟩ := done_stored HDG.out (.int .i64 125) (.int .i64 0) (.int .i64 0)
            have hfd := HFX.out.2
            have hwx : w.heap.size = x := HX.out
            have hAf := HAG.out.kept hkf (fun k hk e => hfd (e ▸ hk))
            have hKf := HKW.out.trans hkf (fun i hi e => absurd hi (by omega))
            exact bodyPost_ret (results_cell_row rfl _ _ (x + 1) _ _ _ _ rfl hbf Tryz.underlying44 rfl (by kernel_rfl)) rfl ⟨by rfl,F,S,hAf,UpdS.none hKf.any⟩
          · have hP : putL c.op ep st L = P := by rw [← HPN.out,HRM.out,if_neg hfull]
            clear HPN
            go_quiet (fail)
            clear k0 k5 hfull
            have HKC := Lib.hid ((Kp.refl No wg).drewN nq)
            have HAG := Lib.hid (HAG.out.keptNo HKC.out)
            have HCG := Lib.hid (HCG.out.kept HKC.out (fun h => h))
            have HDG := Lib.hid (HDG.out.kept HKC.out (fun h => h))
            have HKW := Lib.hid (HKW.out.trans' HKC.out)
            obtain ⟨wg2,hwg2⟩ : ∃ v,wg.drewN nq = v := ⟨_,rfl⟩
            rw [hwg2] at HAG HCG HDG HKW ⊢
            clear hwg2 HKC
            obtain ⟨wg,rfl⟩ : ∃ v,v = wg2 := ⟨_,rfl⟩
            have z1 : wg.cell? ⟨x,1,none⟩ = some (.int .i64 ep) := HEP.out ▸ Blk.cell HCG.out rfl
            have z2 : wg.cell? ⟨x,2,none⟩ = some (.int .i64 st) := HST.out ▸ Blk.cell HCG.out rfl
            have q3 : wg.cell? ⟨x,3,none⟩ = some _ := Blk.cell HCG.out rfl
            have q4 : wg.cell? ⟨x,4,none⟩ = some _ := Blk.cell HCG.out rfl
            have q5 : wg.cell? ⟨x,5,none⟩ = some _ := Blk.cell HCG.out rfl
            have q6 : wg.cell? ⟨x,6,none⟩ = some _ := Blk.cell HCG.out rfl
            have q7 : wg.cell? ⟨x,7,none⟩ = some _ := Blk.cell HCG.out rfl
            have q8 : wg.cell? ⟨x,8,none⟩ = some _ := Blk.cell HCG.out rfl
            have q9 : wg.cell? ⟨x,9,none⟩ = some _ := Blk.cell HCG.out rfl
            have q10 : wg.cell? ⟨x,10,none⟩ = some _ := Blk.cell HCG.out rfl
            have q11 : wg.cell? ⟨x,11,none⟩ = some _ := Blk.cell HCG.out rfl
            go_wp2_with fail
            refine (r_lappendA c.op ep st Ah ch SA l L F S wg HAG.out (Rp.str.slice.keptNo HH.out HKW.out) (by rw [← HEP.out,← HST.out];exact nums_placed HOP.out HK3.out ⟨by omega,by have := HOK.out.len;omega⟩) (by have := HOP.out.hashes;simp only [OpL.placed] at this;omega) (by have := HOK.out.len;omega)).mono ?_
            rintro e w9 ⟨rfl,F',S',h9a,h9u⟩
            have h9d := HDG.out.kept h9u.kp (fun e => HFX.out.2 (.inl e))
            have H9A := Lib.hid h9a
            have H9U := Lib.hid h9u
            have H9D := Lib.hid h9d
            have g0 := Blk.fr h9d 0
            have g1 := Blk.fr h9d 1
            have g2 := Blk.fr h9d 2
            have u0 : w9.cell? ⟨x + 1,0,none⟩ = some _ := Blk.cell h9d rfl
            have u1 : w9.cell? ⟨x + 1,1,none⟩ = some _ := Blk.cell h9d rfl
            have u2 : w9.cell? ⟨x + 1,2,none⟩ = some _ := Blk.cell h9d rfl
            have HDS : Hid (x + 1 < wg.heap.size) := Lib.hid (Blk.lt HDG.out)
            rw [hP] at H9A ⊢
            obtain ⟨⟨p0,p1,p2⟩,pL⟩ := P
            clear h9a h9u h9d hP z1 z2 q3 q4 q5 q6 q7 q8 q9 q10 q11
            unfold doneV
            go_wp2_with fail
            clear g0 g1 g2 u0 u1 u2
            obtain ⟨hkf,hbf⟩ := done_stored H9D.out (.int .i64 p0) (.int .i64 p1) (.int .i64 p2)
            have hwx : w.heap.size = x := HX.out
            have hnf : ∀ k,F' k ∨ S' k → k ≠ x + 1 := fun k hk e => by
             rcases hk with hk | hk
             · rcases H9U.out.foot k hk with h | h
               · exact HFX.out.2 (.inl (e ▸ h))
               · have := HDS.out;omega
             · rcases H9U.out.sfoot k hk with h | h
               · exact HFX.out.2 (Or.symm (e ▸ h))
               · have := HDS.out;omega
            have hAf := H9A.out.kept hkf (fun k hk e => hnf k hk e)
            have hKf := (HKW.out.any.trans H9U.out.kp (fun _ _ e => e)).trans hkf (fun i hi e => absurd hi (by omega))
            have hF' : UpdS F S w wg F S := UpdS.none HKW.out.any
            exact bodyPost_ret (results_cell_row rfl _ _ (x + 1) _ _ _ _ rfl hbf Tryz.underlying44 rfl (by kernel_rfl)) rfl ⟨rfl,F',S',hAf,⟨hKf,(hF'.trans H9U.out).foot,(hF'.trans H9U.out).sfoot,H9U.out.more⟩⟩
      case neg =>
       have k2 : c.op.kind = 2 := by
        have h := HOP.out.2
        simp only [OpL.placed] at h
        rcases h with h | h | h
        · exact absurd h.1 k1
        · exact h.1
        · exact absurd h.1 HK3.out
       rw [k2] at q5 HPN2
       have HK2 := Lib.hid k2
       clear k1 k2
       go_upto_region 16 with fail
       go_quiet (fail)
       clear q5
       have HKC := Lib.hid ((Kp.refl No wg).drewN nq)
       obtain ⟨wc,hwc⟩ : ∃ v,wg.drewN nq = v := ⟨_,rfl⟩
       rw [hwc] at HKC ⊢
       clear hwc
       have HAG := Lib.hid (HAG.out.keptNo HKC.out)
       have HCG := Lib.hid (HCG.out.kept HKC.out (fun h => h))
       have HDG := Lib.hid (HDG.out.kept HKC.out (fun h => h))
       have HG := Lib.hid (HG.out.kept HKC.out (fun h => h))
       have HKW := Lib.hid (HKW.out.trans' HKC.out)
       obtain ⟨wg,rfl⟩ : ∃ v,v = wc := ⟨_,rfl⟩
       have q5 : wg.cell? ⟨x,5,none⟩ = some (.int .i64 2) := by have h : wg.cell? ⟨x,5,none⟩ = some (.int .i64 c.op.kind) := Blk.cell HCG.out rfl;rw [HK2.out] at h;exact h
       cases LV
       case false =>
        have hP : P = (failD 123,L) := by have h := HPN2.out;simpa using h.symm
        subst hP
        clear HPN2
        have hd9 := HDG.out
        have g0 := Blk.fr hd9 0
        have g1 := Blk.fr hd9 1
        have g2 := Blk.fr hd9 2
        have u0 : wg.cell? ⟨x + 1,0,none⟩ = some _ := Blk.cell hd9 rfl
        have u1 : wg.cell? ⟨x + 1,1,none⟩ = some _ := Blk.cell hd9 rfl
        have u2 : wg.cell? ⟨x + 1,2,none⟩ = some _ := Blk.cell hd9 rfl
        clear hd9
        go_wp2_with fail
        clear g0 g1 g2 u0 u1 u2
        obtain ⟨hkf,hbf⟩ := done_stored HDG.out (.int .i64 123) (.int .i64 0) (.int .i64 0)
        have hfd := HFX.out.2
        have hwx : w.heap.size = x := HX.out
        have hAf := HAG.out.kept hkf (fun k hk e => hfd (e ▸ hk))
        have hKf := HKW.out.trans hkf (fun i hi e => absurd hi (by omega))
        exact bodyPost_ret (results_cell_row rfl _ _ (x + 1) _ _ _ _ rfl hbf Tryz.underlying44 rfl (by kernel_rfl)) rfl ⟨by rfl,F,S,hAf,UpdS.none hKf.any⟩
       case true =>
        have HPN : Hid ((if L.room ≤ (L.ops.length : Int) then (failD 125,L) else putL c.op ep st L) = P) := Lib.hid (by have h := HPN2.out;simpa using h)
        clear HPN2
        go_upto_region 20 with fail
        clear q5
        obtain ⟨rm,hrm⟩ : ∃ v,L.room = v := ⟨_,rfl⟩
        have HRM := Lib.hid hrm
        clear hrm
        obtain ⟨Ao,co,gv,hbl,hat⟩ := HAG.out.at_
        have k0 : wg.cell? ⟨l,0,none⟩ = some (.slice Ao L.ops.length co) := Blk.cell hbl rfl
        have k5 : wg.cell? ⟨l,5,none⟩ = some (.int .i64 rm) := HRM.out ▸ Blk.cell hbl rfl
        clear hbl hat
        by_cases hfull : rm ≤ (L.ops.length : Int)
        · have hP : P = (failD 125,L) := by rw [← HPN.out,HRM.out,if_pos hfull]
          subst hP
          clear HPN
          go_quiet (fail)
          clear k0 k5
          have HKC := Lib.hid ((Kp.refl No wg).drewN nq)
          have HAG := Lib.hid (HAG.out.keptNo HKC.out)
          have HDG := Lib.hid (HDG.out.kept HKC.out (fun h => h))
          have HKW := Lib.hid (HKW.out.trans' HKC.out)
          obtain ⟨wg2,hwg2⟩ : ∃ v,wg.drewN nq = v := ⟨_,rfl⟩
          rw [hwg2] at HAG HDG HKW ⊢
          clear hwg2 HKC
          obtain ⟨wg,rfl⟩ : ∃ v,v = wg2 := ⟨_,rfl⟩
          have hd9 := HDG.out
          have g0 := Blk.fr hd9 0
          have g1 := Blk.fr hd9 1
          have g2 := Blk.fr hd9 2
          have u0 : wg.cell? ⟨x + 1,0,none⟩ = some _ := Blk.cell hd9 rfl
          have u1 : wg.cell? ⟨x + 1,1,none⟩ = some _ := Blk.cell hd9 rfl
          have u2 : wg.cell? ⟨x + 1,2,none⟩ = some _ := Blk.cell hd9 rfl
          clear hd9
          go_wp2_with fail
          clear g0 g1 g2 u0 u1 u2
          obtain ⟨hkf,hbf⟩ := done_stored HDG.out (.int .i64 125) (.int .i64 0) (.int .i64 0)
          have hfd := HFX.out.2
          have hwx : w.heap.size = x := HX.out
          have hAf := HAG.out.kept hkf (fun k hk e => hfd (e ▸ hk))
          have hKf := HKW.out.trans hkf (fun i hi e => absurd hi (by omega))
          exact bodyPost_ret (results_cell_row rfl _ _ (x + 1) _ _ _ _ rfl hbf Tryz.underlying44 rfl (by kernel_rfl)) rfl ⟨by rfl,F,S,hAf,UpdS.none hKf.any⟩
        · have hP : putL c.op ep st L = P := by rw [← HPN.out,HRM.out,if_neg hfull]
          clear HPN
          go_quiet (fail)
          clear k0 k5 hfull
          have HKC := Lib.hid ((Kp.refl No wg).drewN nq)
          have HAG := Lib.hid (HAG.out.keptNo HKC.out)
          have HCG := Lib.hid (HCG.out.kept HKC.out (fun h => h))
          have HDG := Lib.hid (HDG.out.kept HKC.out (fun h => h))
          have HKW := Lib.hid (HKW.out.trans' HKC.out)
          obtain ⟨wg2,hwg2⟩ : ∃ v,wg.drewN nq = v := ⟨_,rfl⟩
          rw [hwg2] at HAG HCG HDG HKW ⊢
          clear hwg2 HKC
          obtain ⟨wg,rfl⟩ : ∃ v,v = wg2 := ⟨_,rfl⟩
          have z1 : wg.cell? ⟨x,1,none⟩ = some (.int .i64 ep) := HEP.out ▸ Blk.cell HCG.out rfl
          have z2 : wg.cell? ⟨x,2,none⟩ = some (.int .i64 st) := HST.out ▸ Blk.cell HCG.out rfl
          have q3 : wg.cell? ⟨x,3,none⟩ = some _ := Blk.cell HCG.out rfl
          have q4 : wg.cell? ⟨x,4,none⟩ = some _ := Blk.cell HCG.out rfl
          have q5 : wg.cell? ⟨x,5,none⟩ = some _ := Blk.cell HCG.out rfl
          have q6 : wg.cell? ⟨x,6,none⟩ = some _ := Blk.cell HCG.out rfl
          have q7 : wg.cell? ⟨x,7,none⟩ = some _ := Blk.cell HCG.out rfl
          have q8 : wg.cell? ⟨x,8,none⟩ = some _ := Blk.cell HCG.out rfl
          have q9 : wg.cell? ⟨x,9,none⟩ = some _ := Blk.cell HCG.out rfl
          have q10 : wg.cell? ⟨x,10,none⟩ = some _ := Blk.cell HCG.out rfl
          have q11 : wg.cell? ⟨x,11,none⟩ = some _ := Blk.cell HCG.out rfl
          go_wp2_with fail
          refine (r_lappendA c.op ep st Ah ch SA l L F S wg HAG.out (Rp.str.slice.keptNo HH.out HKW.out) (by rw [← HEP.out,← HST.out];exact nums_placed HOP.out HK3.out ⟨by omega,by have := HOK.out.len;omega⟩) (by have := HOP.out.hashes;simp only [OpL.placed] at this;omega) (by have := HOK.out.len;omega)).mono ?_
          rintro e w9 ⟨rfl,F',S',h9a,h9u⟩
          have h9d := HDG.out.kept h9u.kp (fun e => HFX.out.2 (.inl e))
          have H9A := Lib.hid h9a
          have H9U := Lib.hid h9u
          have H9D := Lib.hid h9d
          have g0 := Blk.fr h9d 0
          have g1 := Blk.fr h9d 1
          have g2 := Blk.fr h9d 2
          have u0 : w9.cell? ⟨x + 1,0,none⟩ = some _ := Blk.cell h9d rfl
          have u1 : w9.cell? ⟨x + 1,1,none⟩ = some _ := Blk.cell h9d rfl
          have u2 : w9.cell? ⟨x + 1,2,none⟩ = some _ := Blk.cell h9d rfl
          have HDS : Hid (x + 1 < wg.heap.size) := Lib.hid (Blk.lt HDG.out)
          rw [hP] at H9A ⊢
          obtain ⟨⟨p0,p1,p2⟩,pL⟩ := P
          clear h9a h9u h9d hP z1 z2 q3 q4 q5 q6 q7 q8 q9 q10 q11
          unfold doneV
          go_wp2_with fail
          clear g0 g1 g2 u0 u1 u2
          obtain ⟨hkf,hbf⟩ := done_stored H9D.out (.int .i64 p0) (.int .i64 p1) (.int .i64 p2)
          have hwx : w.heap.size = x := HX.out
          have hnf : ∀ k,F' k ∨ S' k → k ≠ x + 1 := fun k hk e => by
           rcases hk with hk | hk
           · rcases H9U.out.foot k hk with h | h
             · exact HFX.out.2 (.inl (e ▸ h))
             · have := HDS.out;omega
           · rcases H9U.out.sfoot k hk with h | h
             · exact HFX.out.2 (Or.symm (e ▸ h))
             · have := HDS.out;omega
          have hAf := H9A.out.kept hkf (fun k hk e => hnf k hk e)
          have hKf := (HKW.out.any.trans H9U.out.kp (fun _ _ e => e)).trans hkf (fun i hi e => absurd hi (by omega))
          have hF' : UpdS F S w wg F S := UpdS.none HKW.out.any
          exact bodyPost_ret (results_cell_row rfl _ _ (x + 1) _ _ _ _ rfl hbf Tryz.underlying44 rfl (by kernel_rfl)) rfl ⟨rfl,F',S',hAf,⟨hKf,(hF'.trans H9U.out).foot,(hF'.trans H9U.out).sfoot,H9U.out.more⟩⟩
    case inr =>
     obtain ⟨j,rfl⟩ : ∃ j,k = j + 1 := ⟨k - 1,by omega⟩
     have hij : ((j + 1 : Nat) : Int) - 1 = (j : Int) := by omega
     rw [hij]
     have hji : (j : Int) < (L.ops.length : Int) := by omega
     have hj0 : (0 : Int) ≤ (j : Int) := by omega
     obtain ⟨o,ho⟩ : ∃ o,L.ops[j]? = some o := ⟨_,List.getElem?_eq_getElem (by omega)⟩
     obtain ⟨g,A',c',rfl,hcell,hgl⟩ := HAT.out j o ho
     have hst := last_one (L.ops.take j) o cl
     rw [← take_snoc ho,HZ.out] at hst
     have HST1 := Lib.hid hst
     have HCE := Lib.hid (fun w' (hk' : Kp No wg w') (i : Nat) u (hu : (o.cells (.slice A' o.hashes.length c'))[i]? = some u) => (hk'.cell (p := ⟨g,j * 9 + i,none⟩) hgl (fun z => z)).trans (hcell i u hu))
     clear hst ho hcell hij hgl
     go_upto_region 7 with fail
     go_cut [7] (fun bv wx => ∃ y,bv = .pointer (some ⟨y,0,none⟩) ∧ Hid (Blk wx y 36 (o.cells (.slice A' o.hashes.length c'))) ∧ Hid (Kp No wr wx))
     case first =>
      have k0r := (HKR.out.cell (p := ⟨l,0,none⟩) HLT.out (fun z => z)).trans k0
      have z0 : wr.cell? ⟨g,j * 9,none⟩ = some _ := HCE.out wr HKR.out 0 _ rfl
      have z1 : wr.cell? ⟨g,j * 9 + 1,none⟩ = some _ := HCE.out wr HKR.out 1 _ rfl
      have z2 : wr.cell? ⟨g,j * 9 + 2,none⟩ = some _ := HCE.out wr HKR.out 2 _ rfl
      have z3 : wr.cell? ⟨g,j * 9 + 3,none⟩ = some _ := HCE.out wr HKR.out 3 _ rfl
      have z4 : wr.cell? ⟨g,j * 9 + 4,none⟩ = some _ := HCE.out wr HKR.out 4 _ rfl
      have z5 : wr.cell? ⟨g,j * 9 + 5,none⟩ = some _ := HCE.out wr HKR.out 5 _ rfl
      have z6 : wr.cell? ⟨g,j * 9 + 6,none⟩ = some _ := HCE.out wr HKR.out 6 _ rfl
      have z7 : wr.cell? ⟨g,j * 9 + 7,none⟩ = some _ := HCE.out wr HKR.out 7 _ rfl
      have z8 : wr.cell? ⟨g,j * 9 + 8,none⟩ = some _ := HCE.out wr HKR.out 8 _ rfl
      go_wp2_with fail
      go_meet
      exact ⟨_,rfl,Lib.hid (Blk.new wr _ _),Lib.hid ((Kp.refl _ _).alloc _)⟩
     case rest =>
      obtain ⟨y,rfl,HY,HKY⟩ := hcut
      have HKN := Lib.hid (HKR.out.trans' HKY.out)
      have y0 : wc.cell? ⟨y,0,none⟩ = some _ := Blk.cell HY.out rfl
      have y1 : wc.cell? ⟨y,1,none⟩ = some _ := Blk.cell HY.out rfl
      have y2 : wc.cell? ⟨y,2,none⟩ = some _ := Blk.cell HY.out rfl
      have y4 : wc.cell? ⟨y,4,none⟩ = some _ := Blk.cell HY.out rfl
      have y5 : wc.cell? ⟨y,5,none⟩ = some _ := Blk.cell HY.out rfl
      have q7 : wc.cell? ⟨x,7,none⟩ = some (.int .i64 cl) := HCL.out ▸ Blk.cell (HCG.out.kept HKN.out (fun h => h)) rfl
      have q8 : wc.cell? ⟨x,8,none⟩ = some (.int .i64 sq) := HSQ.out ▸ Blk.cell (HCG.out.kept HKN.out (fun h => h)) rfl
      by_cases h3 : o.kind = 3
      case pos =>
       have HZ2 : Hid (mget cl (FV.fresh.take (L.ops.take j)).lastOf = Z) := Lib.hid (by rw [HST1.out,if_pos (.inl h3)])
       have kn : (o.kind == 3) = true := beq_iff_eq.2 h3
       clear h3
       go_wp2_with fail
       go_roundw
       case rel => exact ⟨j,by omega,by go_num,HZ2,HKN⟩
       case measure => simp [intOf]
      have kn : (o.kind == 3) = false := beq_eq_false_iff_ne.2 h3
      by_cases hcl : o.client = cl
      case neg =>
       have HZ2 : Hid (mget cl (FV.fresh.take (L.ops.take j)).lastOf = Z) := Lib.hid (by rw [HST1.out,if_pos (.inr hcl)])
       have nb : (o.client != cl) = true := bne_iff_ne.2 hcl
       clear h3 hcl
       go_wp2_with fail
       go_roundw
       case rel => exact ⟨j,by omega,by go_num,HZ2,HKN⟩
       case measure => simp [intOf]
      have nb : (o.client != cl) = false := by simp [hcl]
      obtain rfl : Z = some o := by rw [HST1.out,if_neg (by rintro (h | h);exact h3 h;exact h hcl)]
      clear HZ HST1 h3 hcl
      have HKC := HKN
      by_cases hlt : sq < o.seq
      case pos =>
       obtain rfl : P = (failD 124,L) := by rw [HP2.out];unfold wasAt;simp only;rw [if_pos (by omega),if_pos hlt]
       clear HP2
       have HAG := Lib.hid (HAG.out.keptNo HKC.out)
       have HCG := Lib.hid (HCG.out.kept HKC.out (fun h => h))
       have HDG := Lib.hid (HDG.out.kept HKC.out (fun h => h))
       have HG := Lib.hid (HG.out.kept HKC.out (fun h => h))
       have HKW := Lib.hid (HKW.out.trans' HKC.out)
       obtain ⟨wg,rfl⟩ : ∃ v,v = wc := ⟨_,rfl⟩
       have hd9 := HDG.out
       have g0 := Blk.fr hd9 0
       have g1 := Blk.fr hd9 1
       have g2 := Blk.fr hd9 2
       have u0 : wg.cell? ⟨x + 1,0,none⟩ = some _ := Blk.cell hd9 rfl
       have u1 : wg.cell? ⟨x + 1,1,none⟩ = some _ := Blk.cell hd9 rfl
       have u2 : wg.cell? ⟨x + 1,2,none⟩ = some _ := Blk.cell hd9 rfl
       clear hd9
       go_wp2_with fail
       clear g0 g1 g2 u0 u1 u2
       obtain ⟨hkf,hbf⟩ := done_stored HDG.out (.int .i64 124) (.int .i64 0) (.int .i64 0)
       have hfd := HFX.out.2
       have hwx : w.heap.size = x := HX.out
       have hAf := HAG.out.kept hkf (fun k hk e => hfd (e ▸ hk))
       have hKf := HKW.out.trans hkf (fun i hi e => absurd hi (by omega))
       exact bodyPost_ret (results_cell_row rfl _ _ (x + 1) _ _ _ _ rfl hbf Tryz.underlying44 rfl (by kernel_rfl)) rfl ⟨by rfl,F,S,hAf,UpdS.none hKf.any⟩
      by_cases heq : o.seq = sq
      case pos =>
       obtain rfl : P = ((0,o.n,o.epoch),L) := by rw [HP2.out];unfold wasAt;simp only;rw [if_pos (by omega),if_neg hlt]
       have nq : (o.seq == sq) = true := beq_iff_eq.2 heq
       clear HP2 heq
       have HAG := Lib.hid (HAG.out.keptNo HKC.out)
       have HCG := Lib.hid (HCG.out.kept HKC.out (fun h => h))
       have HDG := Lib.hid (HDG.out.kept HKC.out (fun h => h))
       have HG := Lib.hid (HG.out.kept HKC.out (fun h => h))
       have HKW := Lib.hid (HKW.out.trans' HKC.out)
       obtain ⟨wg,rfl⟩ : ∃ v,v = wc := ⟨_,rfl⟩
       have hd9 := HDG.out
       have g0 := Blk.fr hd9 0
       have g1 := Blk.fr hd9 1
       have g2 := Blk.fr hd9 2
       have u0 : wg.cell? ⟨x + 1,0,none⟩ = some _ := Blk.cell hd9 rfl
       have u1 : wg.cell? ⟨x + 1,1,none⟩ = some _ := Blk.cell hd9 rfl
       have u2 : wg.cell? ⟨x + 1,2,none⟩ = some _ := Blk.cell hd9 rfl
       clear hd9
       go_wp2_with fail
       clear g0 g1 g2 u0 u1 u2
       obtain ⟨hkf,hbf⟩ := done_stored HDG.out (.int .i64 0) (.int .i64 o.n) (.int .i64 o.epoch)
       have hfd := HFX.out.2
       have hwx : w.heap.size = x := HX.out
       have hAf := HAG.out.kept hkf (fun k hk e => hfd (e ▸ hk))
       have hKf := HKW.out.trans hkf (fun i hi e => absurd hi (by omega))
       exact bodyPost_ret (results_cell_row rfl _ _ (x + 1) _ _ _ _ rfl hbf Tryz.underlying44 rfl (by kernel_rfl)) rfl ⟨by rfl,F,S,hAf,UpdS.none hKf.any⟩
      have nqq : (o.seq == sq) = false := beq_eq_false_iff_ne.2 heq
      have HPN : Hid (doNew c L = P) := Lib.hid (by rw [HP2.out];unfold wasAt;simp only;rw [if_neg (by omega)])
      clear HP2 HAT HLT k0 heq
      have HAG := Lib.hid (HAG.out.keptNo HKC.out)
      have HCG := Lib.hid (HCG.out.kept HKC.out (fun h => h))
      have HDG := Lib.hid (HDG.out.kept HKC.out (fun h => h))
      have HG := Lib.hid (HG.out.kept HKC.out (fun h => h))
      have HKW := Lib.hid (HKW.out.trans' HKC.out)
      obtain ⟨wg,rfl⟩ : ∃ v,v = wc := ⟨_,rfl⟩
      go_upto_region 13 with fail
      obtain ⟨LV,hLV⟩ : ∃ v,(mget c.op.name L.fold.live).isSome = v := ⟨_,rfl⟩
      have HSO := Lib.hid (fun w' (hk : Kp No wg w') => r_lsheet B c.op.name l L F S w' (HAG.out.keptNo hk) HOK.out)
      rw [hLV] at HSO
      have HLV : Hid (liveL c.op.name L = LV) := Lib.hid hLV
      clear hLV
      go_cut [9] (fun bv wx => bv = .bool LV ∧ Hid (Kp No wg wx))
      case first =>
       have z9 : wg.cell? ⟨x,9,none⟩ = some (.string c.op.name) := Blk.cell HCG.out rfl
       go_wp2_with fail
       refine (HSO.out wg (Kp.refl _ _)).mono ?_
       rintro e w4 ⟨A6,c6,rfl,_,hk4⟩
       have HK4 := Lib.hid (hk4 : Kp No wg w4)
       clear hk4 z9
       go_wp2_with fail
       go_meet
       exact ⟨rfl,Lib.hid (HK4.out.trans' ((Kp.refl No w4).alloc _))⟩
      case rest =>
       obtain ⟨rfl,HKC⟩ := hcut
       have HAG := Lib.hid (HAG.out.keptNo HKC.out)
       have HCG := Lib.hid (HCG.out.kept HKC.out (fun h => h))
       have HDG := Lib.hid (HDG.out.kept HKC.out (fun h => h))
       have HG := Lib.hid (HG.out.kept HKC.out (fun h => h))
       have HKW := Lib.hid (HKW.out.trans' HKC.out)
       obtain ⟨wg,rfl⟩ : ∃ v,v = wc := ⟨_,rfl⟩
       have HPN2 := Lib.hid HPN.out
       unfold doNew at HPN2
       rw [HLV.out,HEP.out,HST.out] at HPN2
       clear HPN HLV
       have q5 : wg.cell? ⟨x,5,none⟩ = some (.int .i64 c.op.kind) := Blk.cell HCG.out rfl
       by_cases k1 : c.op.kind = 1
       case pos =>
        rw [k1] at q5 HPN2
        have HK1 := Lib.hid k1
        clear k1
        cases LV
        case true =>
         have hP : P = (failD 122,L) := by have h := HPN2.out;simpa using h.symm
         subst hP
         clear HPN2
         have hd9 := HDG.out
         have g0 := Blk.fr hd9 0
         have g1 := Blk.fr hd9 1
         have g2 := Blk.fr hd9 2
         have u0 : wg.cell? ⟨x + 1,0,none⟩ = some _ := Blk.cell hd9 rfl
         have u1 : wg.cell? ⟨x + 1,1,none⟩ = some _ := Blk.cell hd9 rfl
         have u2 : wg.cell? ⟨x + 1,2,none⟩ = some _ := Blk.cell hd9 rfl
         clear hd9
         go_wp2_with fail
         clear g0 g1 g2 u0 u1 u2
         obtain ⟨hkf,hbf⟩ := done_stored HDG.out (.int .i64 122) (.int .i64 0) (.int .i64 0)
         have hfd := HFX.out.2
         have hwx : w.heap.size = x := HX.out
         have hAf := HAG.out.kept hkf (fun k hk e => hfd (e ▸ hk))
         have hKf := HKW.out.trans hkf (fun i hi e => absurd hi (by omega))
         exact bodyPost_ret (results_cell_row rfl _ _ (x + 1) _ _ _ _ rfl hbf Tryz.underlying44 rfl (by kernel_rfl)) rfl ⟨by rfl,F,S,hAf,UpdS.none hKf.any⟩
        case false =>
         obtain ⟨qt,hqt⟩ : ∃ v,L.quota = v := ⟨_,rfl⟩
         obtain ⟨us,hus⟩ : ∃ v,L.fold.used = v := ⟨_,rfl⟩
         obtain ⟨sz,hsz⟩ : ∃ v,c.op.size = v := ⟨_,rfl⟩
         obtain ⟨QB,hQB⟩ : ∃ v,decide (qt < us + sz) = v := ⟨_,rfl⟩
         have HQT := Lib.hid hqt
         have HUS := Lib.hid hus
         have HSZ := Lib.hid hsz
         have hub := HOK.out.foldOk.bound
         rw [hus] at hub
         have hu1 := hub.1
         have hu2 : us ≤ 85899345920 := by have := HOK.out.len;omega
         have hsb := HOP.out.size
         simp only [OpL.placed] at hsb
         rw [hsz] at hsb
         obtain ⟨hs1,hs2⟩ := hsb
         have hwus : IntKind.i64.wrap (us + sz) = us + sz := by rw [IntKind.wrap_i64];omega
         have HPN : Hid ((if qt < us + sz then (failD 102,L) else if L.room ≤ (L.ops.length : Int) then (failD 125,L) else putL c.op ep st L) = P) := Lib.hid (by have h := HPN2.out;rw [hqt,hus,hsz] at h;simpa using h)
         clear HPN2 hqt hus hsz hub
         go_upto_region 16 with fail
         clear q5
         go_cut [114] (fun bv wx => bv = .bool QB ∧ Hid (Kp No wg wx))
         case first =>
          obtain ⟨wd,hwd⟩ : ∃ v,wg.drew = v := ⟨_,rfl⟩
          have HKD : Hid (Kp No wg wd) := Lib.hid (by rw [← hwd];exact (Kp.refl _ _).drew)
          have HCD := Lib.hid (HCG.out.kept HKD.out (fun h => h))
          have HAD := Lib.hid (HAG.out.keptNo HKD.out)
          have HUD := Lib.hid (r_lused B l L F S wd HAD.out HOK.out)
          rw [HUS.out] at HUD
          obtain ⟨Ao,co,gv,hbl,hat⟩ := HAD.out.at_
          have q5 : wd.cell? ⟨x,5,none⟩ = some (.int .i64 1) := by have h : wd.cell? ⟨x,5,none⟩ = some (.int .i64 c.op.kind) := Blk.cell HCD.out rfl;rw [HK1.out] at h;exact h
          have q10 : wd.cell? ⟨x,10,none⟩ = some (.int .i64 sz) := HSZ.out ▸ Blk.cell HCD.out rfl
          have k4 : wd.cell? ⟨l,4,none⟩ = some (.int .i64 qt) := HQT.out ▸ Blk.cell hbl rfl
          clear hbl hat
          refine Reg.wp_region_tree (.look 0 (.look 1 (.look 2 (.look 3 (.look 4 (.look 5 (.look 7 (.look 8 (.look 9 (.look 10 (.look 12 (.look 13 (.look 14 (.look 15 (.one 6 [7,8,9,10,13,14,15] (.look 11 (.look 16 (.look 17 (.done))))))))))))))))))) [6] rfl (by kernel_rfl) ?_
          rw [hwd]
          clear hwd
          repeat (first | (refine Reg.lookT rfl rfl rfl (by go_simp;rfl) rfl ?_;go_simp))
          refine Reg.oneT rfl ?_
          go_wp2_with fail
          refine HUD.out.mono ?_
          rintro e w4 ⟨rfl,hk4⟩
          have HK4 := Lib.hid (HKD.out.trans' hk4)
          have HC4 := Lib.hid (HCD.out.kept hk4 (fun h => h))
          obtain ⟨Ao,co,gv,hbl,hat⟩ := (HAD.out.keptNo hk4).at_
          clear hk4 q5 q10 k4 HUD
          have q5 : w4.cell? ⟨x,5,none⟩ = some (.int .i64 1) := by have h : w4.cell? ⟨x,5,none⟩ = some (.int .i64 c.op.kind) := Blk.cell HC4.out rfl;rw [HK1.out] at h;exact h
          have q10 : w4.cell? ⟨x,10,none⟩ = some (.int .i64 sz) := HSZ.out ▸ Blk.cell HC4.out rfl
          have k4 : w4.cell? ⟨l,4,none⟩ = some (.int .i64 qt) := HQT.out ▸ Blk.cell hbl rfl
          clear hbl hat
          go_wp2_with fail
          (refine ⟨?anew,?_⟩;case anew => ((repeat (refine Reg.anew_cons rfl rfl (fun _ => by go_simp) ?_));exact Reg.anew_nil))
          repeat (first | (refine Reg.lookT rfl rfl rfl (by go_simp;rfl) rfl ?_;go_simp))
          refine Reg.doneT ?_
          simp only [Exit.then]
          go_wp2_with fail
          go_meet
          exact ⟨rfl,HK4⟩
         case rest =>
          obtain ⟨rfl,HKC⟩ := hcut
          have HAG := Lib.hid (HAG.out.keptNo HKC.out)
          have HCG := Lib.hid (HCG.out.kept HKC.out (fun h => h))
          have HDG := Lib.hid (HDG.out.kept HKC.out (fun h => h))
          have HG := Lib.hid (HG.out.kept HKC.out (fun h => h))
          have HKW := Lib.hid (HKW.out.trans' HKC.out)
          obtain ⟨wg,rfl⟩ : ∃ v,v = wc := ⟨_,rfl⟩
          have HQB := Lib.hid hQB
          clear hQB hu1 hu2 hs1 hs2 hwus
          cases QB
          case true =>
           have hP : P = (failD 102,L) := by rw [← HPN.out,if_pos (of_decide_eq_true HQB.out)]
           subst hP
           clear HPN
           have hd9 := HDG.out
           have g0 := Blk.fr hd9 0
           have g1 := Blk.fr hd9 1
           have g2 := Blk.fr hd9 2
           have u0 : wg.cell? ⟨x + 1,0,none⟩ = some _ := Blk.cell hd9 rfl
           have u1 : wg.cell? ⟨x + 1,1,none⟩ = some _ := Blk.cell hd9 rfl
           have u2 : wg.cell? ⟨x + 1,2,none⟩ = some _ := Blk.cell hd9 rfl
           clear hd9
           go_wp2_with fail
           clear g0 g1 g2 u0 u1 u2
           obtain ⟨hkf,hbf⟩ := done_stored HDG.out (.int .i64 102) (.int .i64 0) (.int .i64 0)
           have hfd := HFX.out.2
           have hwx : w.heap.size = x := HX.out
           have hAf := HAG.out.kept hkf (fun k hk e => hfd (e ▸ hk))
           have hKf := HKW.out.trans hkf (fun i hi e => absurd hi (by omega))
           exact bodyPost_ret (results_cell_row rfl _ _ (x + 1) _ _ _ _ rfl hbf Tryz.underlying44 rfl (by kernel_rfl)) rfl ⟨by rfl,F,S,hAf,UpdS.none hKf.any⟩
          case false =>
           have HPN : Hid ((if L.room ≤ (L.ops.length : Int) then (failD 125,L) else putL c.op ep st L) = P) := Lib.hid (by rw [← HPN.out,if_neg (of_decide_eq_false HQB.out)])
           clear HQB
           have q5 : wg.cell? ⟨x,5,none⟩ = some (.int .i64 1) := by have h : wg.cell? ⟨x,5,none⟩ = some (.int .i64 c.op.kind) := Blk.cell HCG.out rfl;rw [HK1.out] at h;exact h
           go_upto_region 20 with fail
           clear q5
           obtain ⟨rm,hrm⟩ : ∃ v,L.room = v := ⟨_,rfl⟩
           have HRM := Lib.hid hrm
           clear hrm
           obtain ⟨Ao,co,gv,hbl,hat⟩ := HAG.out.at_
           have k0 : wg.cell? ⟨l,0,none⟩ = some (.slice Ao L.ops.length co) := Blk.cell hbl rfl
           have k5 : wg.cell? ⟨l,5,none⟩ = some (.int .i64 rm) := HRM.out ▸ Blk.cell hbl rfl
           clear hbl hat
           by_cases hfull : rm ≤ (L.ops.length : Int)
           · have hP : P = (failD 125,L) := by rw [← HPN.out,HRM.out,if_pos hfull]
             subst hP
             clear HPN
             go_quiet (fail)
             clear k0 k5
             have HKC := Lib.hid ((Kp.refl No wg).drewN nq)
             have HAG := Lib.hid (HAG.out.keptNo HKC.out)
             have HDG := Lib.hid (HDG.out.kept HKC.out (fun h => h))
             have HKW := Lib.hid (HKW.out.trans' HKC.out)
             obtain ⟨wg2,hwg2⟩ : ∃ v,wg.drewN nq = v := ⟨_,rfl⟩
             rw [hwg2] at HAG HDG HKW ⊢
             clear hwg2 HKC
             obtain ⟨wg,rfl⟩ : ∃ v,v = wg2 := ⟨_,rfl⟩
             have hd9 := HDG.out
             have g0 := Blk.fr hd9 0
             have g1 := Blk.fr hd9 1
             have g2 := Blk.fr hd9 2
             have u0 : wg.cell? ⟨x + 1,0,none⟩ = some _ := Blk.cell hd9 rfl
             have u1 : wg.cell? ⟨x + 1,1,none⟩ = some _ := Blk.cell hd9 rfl
             have u2 : wg.cell? ⟨x + 1,2,none⟩ = some _ := Blk.cell hd9 rfl
             clear hd9
             go_wp2_with fail
             clear g0 g1 g2 u0 u1 u2
             obtain ⟨hkf,hbf⟩ := done_stored HDG.out (.int .i64 125) (.int .i64 0) (.int .i64 0)
             have hfd := HFX.out.2
             have hwx : w.heap.size = x := HX.out
             have hAf := HAG.out.kept hkf (fun k hk e => hfd (e ▸ hk))
             have hKf := HKW.out.trans hkf (fun i hi e => absurd hi (by omega))
             exact bodyPost_ret (results_cell_row rfl _ _ (x + 1) _ _ _ _ rfl hbf Tryz.underlying44 rfl (by kernel_rfl)) rfl ⟨by rfl,F,S,hAf,UpdS.none hKf.any⟩
           · have hP : putL c.op ep st L = P := by rw [← HPN.out,HRM.out,if_neg hfull]
             clear HPN
             go_quiet (fail)
             clear k0 k5 hfull
             have HKC := Lib.hid ((Kp.refl No wg).drewN nq)
             have HAG := Lib.hid (HAG.out.keptNo HKC.out)
             have HCG := Lib.hid (HCG.out.kept HKC.out (fun h => h))
             have HDG := Lib.hid (HDG.out.kept HKC.out (fun h => h))
             have HKW := Lib.hid (HKW.out.trans' HKC.out)
             obtain ⟨wg2,hwg2⟩ : ∃ v,wg.drewN nq = v := ⟨_,rfl⟩
             rw [hwg2] at HAG HCG HDG HKW ⊢
             clear hwg2 HKC
             obtain ⟨wg,rfl⟩ : ∃ v,v = wg2 := ⟨_,rfl⟩
             have z1 : wg.cell? ⟨x,1,none⟩ = some (.int .i64 ep) := HEP.out ▸ Blk.cell HCG.out rfl
             have z2 : wg.cell? ⟨x,2,none⟩ = some (.int .i64 st) := HST.out ▸ Blk.cell HCG.out rfl
             have q3 : wg.cell? ⟨x,3,none⟩ = some _ := Blk.cell HCG.out rfl
             have q4 : wg.cell? ⟨x,4,none⟩ = some _ := Blk.cell HCG.out rfl
             have q5 : wg.cell? ⟨x,5,none⟩ = some _ := Blk.cell HCG.out rfl
             have q6 : wg.cell? ⟨x,6,none⟩ = some _ := Blk.cell HCG.out rfl
             have q7 : wg.cell? ⟨x,7,none⟩ = some _ := Blk.cell HCG.out rfl
             have q8 : wg.cell? ⟨x,8,none⟩ = some _ := Blk.cell HCG.out rfl
             have q9 : wg.cell? ⟨x,9,none⟩ = some _ := Blk.cell HCG.out rfl
             have q10 : wg.cell? ⟨x,10,none⟩ = some _ := Blk.cell HCG.out rfl
             have q11 : wg.cell? ⟨x,11,none⟩ = some _ := Blk.cell HCG.out rfl
             go_wp2_with fail
             refine (r_lappendA c.op ep st Ah ch SA l L F S wg HAG.out (Rp.str.slice.keptNo HH.out HKW.out) (by rw [← HEP.out,← HST.out];exact nums_placed HOP.out HK3.out ⟨by omega,by have := HOK.out.len;omega⟩) (by have := HOP.out.hashes;simp only [OpL.placed] at this;omega) (by have := HOK.out.len;omega)).mono ?_
             rintro e w9 ⟨rfl,F',S',h9a,h9u⟩
             have h9d := HDG.out.kept h9u.kp (fun e => HFX.out.2 (.inl e))
             have H9A := Lib.hid h9a
             have H9U := Lib.hid h9u
             have H9D := Lib.hid h9d
             have g0 := Blk.fr h9d 0
             have g1 := Blk.fr h9d 1
             have g2 := Blk.fr h9d 2
             have u0 : w9.cell? ⟨x + 1,0,none⟩ = some _ := Blk.cell h9d rfl
             have u1 : w9.cell? ⟨x + 1,1,none⟩ = some _ := Blk.cell h9d rfl
             have u2 : w9.cell? ⟨x + 1,2,none⟩ = some _ := Blk.cell h9d rfl
             have HDS : Hid (x + 1 < wg.heap.size) := Lib.hid (Blk.lt HDG.out)
             rw [hP] at H9A ⊢
             obtain ⟨⟨p0,p1,p2⟩,pL⟩ := P
             clear h9a h9u h9d hP z1 z2 q3 q4 q5 q6 q7 q8 q9 q10 q11
             unfold doneV
             go_wp2_with fail
             clear g0 g1 g2 u0 u1 u2
             obtain ⟨hkf,hbf⟩ := done_stored H9D.out (.int .i64 p0) (.int .i64 p1) (.int .i64 p2)
             have hwx : w.heap.size = x := HX.out
             have hnf : ∀ k,F' k ∨ S' k → k ≠ x + 1 := fun k hk e => by
              rcases hk with hk | hk
              · rcases H9U.out.foot k hk with h | h
                · exact HFX.out.2 (.inl (e ▸ h))
                · have := HDS.out;omega
              · rcases H9U.out.sfoot k hk with h | h
                · exact HFX.out.2 (Or.symm (e ▸ h))
                · have := HDS.out;omega
             have hAf := H9A.out.kept hkf (fun k hk e => hnf k hk e)
             have hKf := (HKW.out.any.trans H9U.out.kp (fun _ _ e => e)).trans hkf (fun i hi e => absurd hi (by omega))
             have hF' : UpdS F S w wg F S := UpdS.none HKW.out.any
             exact bodyPost_ret (results_cell_row rfl _ _ (x + 1) _ _ _ _ rfl hbf Tryz.underlying44 rfl (by kernel_rfl)) rfl ⟨rfl,F',S',hAf,⟨hKf,(hF'.trans H9U.out).foot,(hF'.trans H9U.out).sfoot,H9U.out.more⟩⟩
       case neg =>
        have k2 : c.op.kind = 2 := by
         have h := HOP.out.2
         simp only [OpL.placed] at h
         rcases h with h | h | h
         · exact absurd h.1 k1
         · exact h.1
         · exact absurd h.1 HK3.out
        rw [k2] at q5 HPN2
        have HK2 := Lib.hid k2
        clear k1 k2
        go_upto_region 16 with fail
        go_quiet (fail)
        clear q5
        have HKC := Lib.hid ((Kp.refl No wg).drewN nq)
        obtain ⟨wc,hwc⟩ : ∃ v,wg.drewN nq = v := ⟨_,rfl⟩
        rw [hwc] at HKC ⊢
        clear hwc
        have HAG := Lib.hid (HAG.out.keptNo HKC.out)
        have HCG := Lib.hid (HCG.out.kept HKC.out (fun h => h))
        have HDG := Lib.hid (HDG.out.kept HKC.out (fun h => h))
        have HG := Lib.hid (HG.out.kept HKC.out (fun h => h))
        have HKW := Lib.hid (HKW.out.trans' HKC.out)
        obtain ⟨wg,rfl⟩ : ∃ v,v = wc := ⟨_,rfl⟩
        have q5 : wg.cell? ⟨x,5,none⟩ = some (.int .i64 2) := by have h : wg.cell? ⟨x,5,none⟩ = some (.int .i64 c.op.kind) := Blk.cell HCG.out rfl;rw [HK2.out] at h;exact h
        cases LV
        case false =>
         have hP : P = (failD 123,L) := by have h := HPN2.out;simpa using h.symm
         subst hP
         clear HPN2
         have hd9 := HDG.out
         have g0 := Blk.fr hd9 0
         have g1 := Blk.fr hd9 1
         have g2 := Blk.fr hd9 2
         have u0 : wg.cell? ⟨x + 1,0,none⟩ = some _ := Blk.cell hd9 rfl
         have u1 : wg.cell? ⟨x + 1,1,none⟩ = some _ := Blk.cell hd9 rfl
         have u2 : wg.cell? ⟨x + 1,2,none⟩ = some _ := Blk.cell hd9 rfl
         clear hd9
         go_wp2_with fail
         clear g0 g1 g2 u0 u1 u2
         obtain ⟨hkf,hbf⟩ := done_stored HDG.out (.int .i64 123) (.int .i64 0) (.int .i64 0)
         have hfd := HFX.out.2
         have hwx : w.heap.size = x := HX.out
         have hAf := HAG.out.kept hkf (fun k hk e => hfd (e ▸ hk))
         have hKf := HKW.out.trans hkf (fun i hi e => absurd hi (by omega))
         exact bodyPost_ret (results_cell_row rfl _ _ (x + 1) _ _ _ _ rfl hbf Tryz.underlying44 rfl (by kernel_rfl)) rfl ⟨by rfl,F,S,hAf,UpdS.none hKf.any⟩
        case true =>
         have HPN : Hid ((if L.room ≤ (L.ops.length : Int) then (failD 125,L) else putL c.op ep st L) = P) := Lib.hid (by have h := HPN2.out;simpa using h)
         clear HPN2
         go_upto_region 20 with fail
         clear q5
         obtain ⟨rm,hrm⟩ : ∃ v,L.room = v := ⟨_,rfl⟩
         have HRM := Lib.hid hrm
         clear hrm
         obtain ⟨Ao,co,gv,hbl,hat⟩ := HAG.out.at_
         have k0 : wg.cell? ⟨l,0,none⟩ = some (.slice Ao L.ops.length co) := Blk.cell hbl rfl
         have k5 : wg.cell? ⟨l,5,none⟩ = some (.int .i64 rm) := HRM.out ▸ Blk.cell hbl rfl
         clear hbl hat
         by_cases hfull : rm ≤ (L.ops.length : Int)
         · have hP : P = (failD 125,L) := by rw [← HPN.out,HRM.out,if_pos hfull]
           subst hP
           clear HPN
           go_quiet (fail)
           clear k0 k5
           have HKC := Lib.hid ((Kp.refl No wg).drewN nq)
           have HAG := Lib.hid (HAG.out.keptNo HKC.out)
           have HDG := Lib.hid (HDG.out.kept HKC.out (fun h => h))
           have HKW := Lib.hid (HKW.out.trans' HKC.out)
           obtain ⟨wg2,hwg2⟩ : ∃ v,wg.drewN nq = v := ⟨_,rfl⟩
           rw [hwg2] at HAG HDG HKW ⊢
           clear hwg2 HKC
           obtain ⟨wg,rfl⟩ : ∃ v,v = wg2 := ⟨_,rfl⟩
           have hd9 := HDG.out
           have g0 := Blk.fr hd9 0
           have g1 := Blk.fr hd9 1
           have g2 := Blk.fr hd9 2
           have u0 : wg.cell? ⟨x + 1,0,none⟩ = some _ := Blk.cell hd9 rfl
           have u1 : wg.cell? ⟨x + 1,1,none⟩ = some _ := Blk.cell hd9 rfl
           have u2 : wg.cell? ⟨x + 1,2,none⟩ = some _ := Blk.cell hd9 rfl
           clear hd9
           go_wp2_with fail
           clear g0 g1 g2 u0 u1 u2
           obtain ⟨hkf,hbf⟩ := done_stored HDG.out (.int .i64 125) (.int .i64 0) (.int .i64 0)
           have hfd := HFX.out.2
           have hwx : w.heap.size = x := HX.out
           have hAf := HAG.out.kept hkf (fun k hk e => hfd (e ▸ hk))
           have hKf := HKW.out.trans hkf (fun i hi e => absurd hi (by omega))
           exact bodyPost_ret (results_cell_row rfl _ _ (x + 1) _ _ _ _ rfl hbf Tryz.underlying44 rfl (by kernel_rfl)) rfl ⟨by rfl,F,S,hAf,UpdS.none hKf.any⟩
         · have hP : putL c.op ep st L = P := by rw [← HPN.out,HRM.out,if_neg hfull]
           clear HPN
           go_quiet (fail)
           clear k0 k5 hfull
           have HKC := Lib.hid ((Kp.refl No wg).drewN nq)
           have HAG := Lib.hid (HAG.out.keptNo HKC.out)
           have HCG := Lib.hid (HCG.out.kept HKC.out (fun h => h))
           have HDG := Lib.hid (HDG.out.kept HKC.out (fun h => h))
           have HKW := Lib.hid (HKW.out.trans' HKC.out)
           obtain ⟨wg2,hwg2⟩ : ∃ v,wg.drewN nq = v := ⟨_,rfl⟩
           rw [hwg2] at HAG HCG HDG HKW ⊢
           clear hwg2 HKC
           obtain ⟨wg,rfl⟩ : ∃ v,v = wg2 := ⟨_,rfl⟩
           have z1 : wg.cell? ⟨x,1,none⟩ = some (.int .i64 ep) := HEP.out ▸ Blk.cell HCG.out rfl
           have z2 : wg.cell? ⟨x,2,none⟩ = some (.int .i64 st) := HST.out ▸ Blk.cell HCG.out rfl
           have q3 : wg.cell? ⟨x,3,none⟩ = some _ := Blk.cell HCG.out rfl
           have q4 : wg.cell? ⟨x,4,none⟩ = some _ := Blk.cell HCG.out rfl
           have q5 : wg.cell? ⟨x,5,none⟩ = some _ := Blk.cell HCG.out rfl
           have q6 : wg.cell? ⟨x,6,none⟩ = some _ := Blk.cell HCG.out rfl
           have q7 : wg.cell? ⟨x,7,none⟩ = some _ := Blk.cell HCG.out rfl
           have q8 : wg.cell? ⟨x,8,none⟩ = some _ := Blk.cell HCG.out rfl
           have q9 : wg.cell? ⟨x,9,none⟩ = some _ := Blk.cell HCG.out rfl
           have q10 : wg.cell? ⟨x,10,none⟩ = some _ := Blk.cell HCG.out rfl
           have q11 : wg.cell? ⟨x,11,none⟩ = some _ := Blk.cell HCG.out rfl
           go_wp2_with fail
           refine (r_lappendA c.op ep st Ah ch SA l L F S wg HAG.out (Rp.str.slice.keptNo HH.out HKW.out) (by rw [← HEP.out,← HST.out];exact nums_placed HOP.out HK3.out ⟨by omega,by have := HOK.out.len;omega⟩) (by have := HOP.out.hashes;simp only [OpL.placed] at this;omega) (by have := HOK.out.len;omega)).mono ?_
           rintro e w9 ⟨rfl,F',S',h9a,h9u⟩
           have h9d := HDG.out.kept h9u.kp (fun e => HFX.out.2 (.inl e))
           have H9A := Lib.hid h9a
           have H9U := Lib.hid h9u
           have H9D := Lib.hid h9d
           have g0 := Blk.fr h9d 0
           have g1 := Blk.fr h9d 1
           have g2 := Blk.fr h9d 2
           have u0 : w9.cell? ⟨x + 1,0,none⟩ = some _ := Blk.cell h9d rfl
           have u1 : w9.cell? ⟨x + 1,1,none⟩ = some _ := Blk.cell h9d rfl
           have u2 : w9.cell? ⟨x + 1,2,none⟩ = some _ := Blk.cell h9d rfl
           have HDS : Hid (x + 1 < wg.heap.size) := Lib.hid (Blk.lt HDG.out)
           rw [hP] at H9A ⊢
           obtain ⟨⟨p0,p1,p2⟩,pL⟩ := P
           clear h9a h9u h9d hP z1 z2 q3 q4 q5 q6 q7 q8 q9 q10 q11
           unfold doneV
           go_wp2_with fail
           clear g0 g1 g2 u0 u1 u2
           obtain ⟨hkf,hbf⟩ := done_stored H9D.out (.int .i64 p0) (.int .i64 p1) (.int .i64 p2)
           have hwx : w.heap.size = x := HX.out
           have hnf : ∀ k,F' k ∨ S' k → k ≠ x + 1 := fun k hk e => by
            rcases hk with hk | hk
            · rcases H9U.out.foot k hk with h | h
              · exact HFX.out.2 (.inl (e ▸ h))
              · have := HDS.out;omega
            · rcases H9U.out.sfoot k hk with h | h
              · exact HFX.out.2 (Or.symm (e ▸ h))
              · have := HDS.out;omega
           have hAf := H9A.out.kept hkf (fun k hk e => hnf k hk e)
           have hKf := (HKW.out.any.trans H9U.out.kp (fun _ _ e => e)).trans hkf (fun i hi e => absurd hi (by omega))
           have hF' : UpdS F S w wg F S := UpdS.none HKW.out.any
           exact bodyPost_ret (results_cell_row rfl _ _ (x + 1) _ _ _ _ rfl hbf Tryz.underlying44 rfl (by kernel_rfl)) rfl ⟨rfl,F',S',hAf,⟨hKf,(hF'.trans H9U.out).foot,(hF'.trans H9U.out).sfoot,H9U.out.more⟩⟩
end Go.Proofs.YtjlbacfedfkilaaGreat
