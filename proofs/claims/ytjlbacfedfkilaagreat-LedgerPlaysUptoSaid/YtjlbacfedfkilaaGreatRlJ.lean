/-
  The document's ledger: ship.
-/
import Derived.Test.YtjlbacfedfkilaaGreatRlI
import Derived.Test.YtjlbacfedfkilaaGreatShip
import Derived.Test.YtjlbacfedfkilaaGreatAppF
import Derived.Deep.CutBlock
namespace Go.Proofs.YtjlbacfedfkilaaGreat
open Go.RowKit Go.ChangeShapes Go.WideShapes Go.ChangeAt
namespace RLIn
variable {w w' : World} {l : Nat} {ov gv : Value} {S : Nat → Prop} {L : LV}
theorem lost_ (h : RLIn w l ov gv S L) {m : List OpL} {v' : Value} (hown : Own Rp.opl w' No 0 36 v' (L.lost ++ m)) (hg : w.grownBy w' gv.ownBlock) (hb : v'.ownBlock = gv.ownBlock ∨ v'.ownBlock = some w.heap.size) :
 RLIn (w'.setCell ⟨l,1,none⟩ v') l ov v' S { L with lost := L.lost ++ m } ∧ Kp (fun k => k = l ∨ gv.ownBlock = some k) w (w'.setCell ⟨l,1,none⟩ v') := by
 have hk1 : Kp (fun k => gv.ownBlock = some k) w w' := (Kp.refl _ _).grown hg (fun g hg _ => hg)
 have hk2 : Kp (· = l) w' (w'.setCell ⟨l,1,none⟩ v') := (Kp.refl (· = l) w').setCell (p := ⟨l,1,none⟩) (fun _ => rfl) _
 have hk : Kp (fun k => k = l ∨ gv.ownBlock = some k) w (w'.setCell ⟨l,1,none⟩ v') := (hk1.mono (fun _ _ e => .inr e)).trans (hk2.mono (fun _ _ e => .inl e)) (fun _ _ e => e)
 have hlb : l < w.heap.size := Blk.lt h.blk
 have hvb : ∀ k,v'.ownBlock = some k → gv.ownBlock = some k ∨ k = w.heap.size := by
  intro k hk
  rcases hb with e | e
  · exact .inl (e ▸ hk)
  · rw [e] at hk;injection hk with hk;exact .inr hk.symm
 have hbl := h.blk.kept hk1 (fun e => h.gl e)
 have hvl : ∀ k,v'.ownBlock = some k → k ≠ l := fun k hv e => by
  rcases hvb k hv with e2 | e2
  · exact h.gl (e ▸ e2)
  · omega
 refine ⟨⟨Blk.set hbl 1 _,(h.ops.kept hk1 (fun k hs _ e => h.sg k hs e) (fun k hv e => h.og k hv e)).kept hk2 (fun k hs _ e => h.sl (e ▸ hs)) (fun k hv e => h.ol (e ▸ hv)),hown.kept hk2 (fun k hs _ _ => hs) (fun k hv e => hvl k hv e),h.ol,fun e => hvl l e rfl,fun k hv e => ?_,h.sl,h.so,fun k hs hv => ?_,fun k hs => Nat.lt_of_lt_of_le (h.hi k hs) hk.size⟩,hk⟩
 · rcases hvb k e with e2 | e2
   · exact h.og k hv e2
   · have := (h.ops.lt k hv).2;omega
 · rcases hvb k hv with e2 | e2
   · exact h.sg k hs e2
   · have := h.hi k hs;omega
theorem replaced (h : RLIn w l ov gv S L) (hk1 : Kp No w w') {base : Nat} {S' : Nat → Prop} {m : List OpL} {v' : Value} (hb : w.heap.size ≤ base) (hown : Own Rp.opl w' S' base 36 v' m)
 (hS : ∀ k,S' k → (S k ∨ ov.ownBlock = some k) ∨ w.heap.size ≤ k) (hS2 : ∀ k,S' k → k < w'.heap.size) (hSv : ∀ k,S' k → v'.ownBlock ≠ some k) :
 RLIn (w'.setCell ⟨l,0,none⟩ v') l v' gv S' { L with ops := m } ∧ Kp (· = l) w (w'.setCell ⟨l,0,none⟩ v') := by
 have hk2 : Kp (· = l) w' (w'.setCell ⟨l,0,none⟩ v') := (Kp.refl (· = l) w').setCell (p := ⟨l,0,none⟩) (fun _ => rfl) _
 have hlb : l < w.heap.size := Blk.lt h.blk
 have hvb : ∀ k,v'.ownBlock = some k → w.heap.size ≤ k := fun k hk => Nat.le_trans hb (hown.lt k hk).1
 have hSl : ∀ k,S' k → k ≠ l := fun k hs e => by
  rcases hS k hs with (h1 | h1) | h1
  · exact h.sl (e ▸ h1)
  · exact h.ol (e ▸ h1)
  · omega
 refine ⟨⟨Blk.set (h.blk.kept hk1 (fun x => x)) 0 _,(hown.mono (Nat.zero_le _) (fun _ h => h)).kept hk2 (fun k hs _ e => hSl k hs e) (fun k hv e => by have := hvb k hv;omega),(h.gone.keptNo hk1).kept hk2 (fun k hs _ _ => hs) (fun k hv e => h.gl (e ▸ hv)),fun e => by have := hvb l e;omega,h.gl,fun k hv e => ?_,fun e => hSl l e rfl,hSv,fun k hs hv => ?_,fun k hs => Nat.lt_of_lt_of_le (hS2 k hs) hk2.size⟩,hk1.any.trans' hk2⟩
 · have h1 := hvb k hv
   have h2 := (h.gone.lt k e).2
   omega
 · rcases hS k hs with (h1 | h1) | h1
   · exact h.sg k h1 hv
   · exact h.og k h1 hv
   · have h2 := (h.gone.lt k hv).2;omega
end RLIn
def shipR (c : CmdL) (L1 : LV) : Done3 × LV :=
 if hasL c.after c.since L1 = true then
  match c.ops.drop (hadL L1 c.ops) with
  | [] => ((0,lastAt c),{ L1 with settled := max L1.settled (lastAt c).1 })
  | o :: rest =>
    if o.kind ≠ 3 ∧ siteAt o.n L1 ≠ some o.site then (failD 121,L1)
    else ((0,lastAt c),{ partL (o.n - 1).toNat L1 with ops := (partL (o.n - 1).toNat L1).ops ++ o :: rest,settled := max (partL (o.n - 1).toNat L1).settled (lastAt c).1 })
 else (failD 121,L1)
theorem shipL_R (c : CmdL) (L : LV) : shipL c L = if c.epoch < L.fence ∨ (c.epoch = L.fold.hE ∧ c.site ≠ L.fold.hS) then (failD 120,L) else shipR c { L with fence := c.epoch } := by
 unfold shipL shipR
 simp only
 cases c.ops.drop (hadL { L with fence := c.epoch } c.ops) <;> rfl
theorem Rp.recap {α : Type} {E : Rp α} {w : World} {S : Nat → Prop} {A : Option Addr} {c : Nat} {l : List α} (h : E.slice.R w S [.slice A l.length c] l) {c' : Nat} (h1 : l.length ≤ c') (h2 : c' ≤ maxLen) : E.slice.R w S [.slice A l.length c'] l := by
 obtain ⟨A',c0,he,_,_,h3⟩ := h
 simp only [List.cons.injEq,Value.slice.injEq,and_true,true_and] at he
 obtain ⟨rfl,rfl⟩ := he
 exact ⟨_,_,rfl,h1,h2,h3⟩
set_option maxRecDepth 100000 in
set_option maxHeartbeats 40000000 in
theorem r_lship (c : CmdL) (hv : Value) (Ao' : Option Addr) (cb : Nat) (SB : Nat → Prop) (B : Nat) (l : Nat) (L : LV) (F S : Nat → Prop) (w : World) (h : RLAt w l L F S) (hok : OkL B L) (hB : B ≤ 800000) (hh : Rp.opl.slice.R w SB [.slice Ao' c.ops.length cb] c.ops) (hsb : ∀ k,SB k → k < w.heap.size → ¬ F k)
 (hr : reignP c.epoch c.site) (hs : shipP c) (hrow : rowB c.after c.since c.ops = true) :
 Calls Tryz.prog 41 #[.pointer (some ⟨l,0,none⟩),cmdV c hv (.slice Ao' c.ops.length cb)] w fun x w' => x = .returned (doneV (shipL c L).1) ∧ ∃ F' S',RLAt w' l (shipL c L).2 F' S' ∧ UpdS F S w w' F' S' := by
 obtain ⟨P,hP⟩ : ∃ P,shipL c L = P := ⟨_,rfl⟩
 rw [hP]
 have HP := Lib.hid hP
 have HOK := Lib.hid hok
 have HBB := Lib.hid hB
 have HRP := Lib.hid hr
 have HROW := Lib.hid hrow
 have hol8 : c.ops.length ≤ 8 := hs.1
 have hh2 : Rp.opl.slice.R w (Free F w) [.slice Ao' c.ops.length cb] c.ops := Rp.opl.slice.more (Rp.opl.slice.bnd hh) (fun k hk => ⟨hk.2,hsb k hk.1 hk.2⟩)
 have HH := Lib.hid hh2
 have HFLT : Hid (∀ k,F k ∨ S k → k < w.heap.size) := Lib.hid (fun k hk => h.lt hk)
 clear hP hok hB hh hsb hr hs hrow hh2
 obtain ⟨ov,hov⟩ : ∃ ov,Value.slice Ao' c.ops.length cb = ov := ⟨_,rfl⟩
 rw [hov]
 obtain ⟨x,hx⟩ : ∃ x,w.heap.size = x := ⟨_,rfl⟩
 obtain ⟨h1,h2,h3,h4⟩ := r_begin h c hv ov
 have hfx : ¬ (F x ∨ S x) ∧ ¬ (F (x + 1) ∨ S (x + 1)) := ⟨fun e => by have := h.lt e;omega,fun e => by have := h.lt e;omega⟩
 have HFX := Lib.hid hfx
 have hxl : l ≠ x ∧ l ≠ x + 1 := ⟨fun e => hfx.1 (.inl (e ▸ h.self)),fun e => hfx.2 (.inl (e ▸ h.self))⟩
 have HXL := Lib.hid hxl
 obtain ⟨hxl1,hxl2⟩ := hxl
 obtain ⟨wa,hwa⟩ : ∃ wa,(w.alloc (.cells (cmdC c hv ov).toArray 39)).alloc (.cells #[.int .i64 0,.int .i64 0,.int .i64 0] 44) = wa := ⟨_,rfl⟩
 rw [hwa] at h1 h2 h3 h4
 rw [hx] at h3 h4
 unfold cmdC at h3 hwa
 have HA := Lib.hid h1
 have HK := Lib.hid h2
 have HC := Lib.hid h3
 have HD := Lib.hid h4
 have HX := Lib.hid hx
 have HHO := Lib.hid (r_lholder l L F S wa h1 (by have := HOK.out.len;omega))
 clear h1 h2 h3 h4 h hfx
 unfold cmdV
 subst hov
 obtain ⟨on,hon⟩ : ∃ on,c.ops.length = on := ⟨_,rfl⟩
 rw [hon] at hol8
 have HON := Lib.hid hon
 rw [hon] at HH
 obtain ⟨ep,hep⟩ : ∃ ep,c.epoch = ep := ⟨_,rfl⟩
 obtain ⟨st,hst⟩ : ∃ st,c.site = st := ⟨_,rfl⟩
 obtain ⟨fe,hfe⟩ : ∃ fe,L.fence = fe := ⟨_,rfl⟩
 have HEP := Lib.hid hep
 have HST := Lib.hid hst
 have HFE := Lib.hid hfe
 clear hep hst hfe
 obtain ⟨an,han⟩ : ∃ an,c.after = an := ⟨_,rfl⟩
 obtain ⟨ae,hae⟩ : ∃ ae,c.since = ae := ⟨_,rfl⟩
 have HAN := Lib.hid han
 have HAE := Lib.hid hae
 rw [han,hae] at HROW
 clear han hae hon
 go_enter Tryz.func41,Tryz.ntmps41
 go_upto_region 1 with fail
 try rw [hwa,hx]
 clear hwa hx
 go_wp2_with fail
 refine HHO.out.mono ?_
 rintro e w2 ⟨rfl,hk2⟩
 obtain ⟨he,hhe⟩ : ∃ he,L.fold.hE = he := ⟨_,rfl⟩
 obtain ⟨hs,hhs⟩ : ∃ hs,L.fold.hS = hs := ⟨_,rfl⟩
 rw [hhe,hhs]
 have HHE := Lib.hid hhe
 have HHS := Lib.hid hhs
 clear hhe hhs HHO
 go_upto_region 2 with fail
 obtain ⟨z,hz⟩ : ∃ v,w2.heap.size = v := ⟨_,rfl⟩
 obtain ⟨wg,hwg⟩ : ∃ v,w2.alloc (.cells #[.int .i64 he,.int .i64 hs] 85) = v := ⟨_,rfl⟩
 have hbg : Blk wg z 85 [.int .i64 he,.int .i64 hs] := by rw [← hwg,← hz];exact Blk.new w2 _ _
 have hkg : Kp No wa wg := by rw [← hwg];exact hk2.trans' ((Kp.refl _ _).alloc _)
 have HG := Lib.hid hbg
 have HKG := Lib.hid hkg
 rw [hwg,hz]
 clear hwg hz hbg hkg hk2
 have HAG := Lib.hid (HA.out.keptNo HKG.out)
 have HCG := Lib.hid (HC.out.kept HKG.out (fun h => h))
 have HDG := Lib.hid (HD.out.kept HKG.out (fun h => h))
 have HKW := Lib.hid (HK.out.trans' HKG.out)
 clear HA HC HD HK HKG
 obtain ⟨HB,hHB⟩ : ∃ v,decide (ep < fe ∨ (ep = he ∧ st ≠ hs)) = v := ⟨_,rfl⟩
 have HHB := Lib.hid hHB
 clear hHB
 go_cut [34] (fun bv wx => bv = .bool HB ∧ Hid (Kp No wg wx))
 case first =>
  clear_value *
  as_aux_lemma =>
  obtain ⟨Ao,co,gv,hbl,hat⟩ := HAG.out.at_
  have k0 : wg.cell? ⟨l,0,none⟩ = some (.slice Ao L.ops.length co) := Blk.cell hbl rfl
  have k2 : wg.cell? ⟨l,2,none⟩ = some (.int .i64 fe) := HFE.out ▸ Blk.cell hbl rfl
  have y0 : wg.cell? ⟨z,0,none⟩ = some (.int .i64 he) := Blk.cell HG.out rfl
  have y1 : wg.cell? ⟨z,1,none⟩ = some (.int .i64 hs) := Blk.cell HG.out rfl
  have z1 : wg.cell? ⟨x,1,none⟩ = some (.int .i64 ep) := HEP.out ▸ Blk.cell HCG.out rfl
  have z2 : wg.cell? ⟨x,2,none⟩ = some (.int .i64 st) := HST.out ▸ Blk.cell HCG.out rfl
  by_cases e1 : ep < fe
  · obtain rfl : HB = true := by rw [← HHB.out];exact decide_eq_true (.inl e1)
    clear hbl hat
    go_quiet (fail)
    go_wp2_with fail
    go_meet
    exact ⟨rfl,Lib.hid ((Kp.refl _ _).drewN _)⟩
  · by_cases e2 : ep = he
    · by_cases e3 : st = hs
      · obtain rfl : HB = false := by rw [← HHB.out];exact decide_eq_false (fun h => by rcases h with h | h;exact e1 h;exact h.2 e3)
        have b2 : (ep == he) = true := beq_iff_eq.2 e2
        have b3 : (st != hs) = false := by simp [e3]
        clear e2 e3
        clear hbl hat
        go_quiet (fail)
        go_wp2_with fail
        go_meet
        exact ⟨rfl,Lib.hid ((Kp.refl _ _).drewN _)⟩
      · obtain rfl : HB = true := by rw [← HHB.out];exact decide_eq_true (.inr ⟨e2,e3⟩)
        have b2 : (ep == he) = true := beq_iff_eq.2 e2
        have b3 : (st != hs) = true := bne_iff_ne.2 e3
        clear e2 e3
        clear hbl hat
        go_quiet (fail)
        go_wp2_with fail
        go_meet
        exact ⟨rfl,Lib.hid ((Kp.refl _ _).drewN _)⟩
    · obtain rfl : HB = false := by rw [← HHB.out];exact decide_eq_false (fun h => by rcases h with h | h;exact e1 h;exact e2 h.1)
      have b2 : (ep == he) = false := beq_eq_false_iff_ne.2 e2
      clear e2
      clear hbl hat
      go_quiet (fail)
      go_wp2_with fail
      go_meet
      exact ⟨rfl,Lib.hid ((Kp.refl _ _).drewN _)⟩
 case rest =>
  rename_i Q0 K0 a0 K0b a0b
  obtain ⟨rfl,HKC⟩ := hcut
  have HAG := Lib.hid (HAG.out.keptNo HKC.out)
  have HCG := Lib.hid (HCG.out.kept HKC.out (fun h => h))
  have HDG := Lib.hid (HDG.out.kept HKC.out (fun h => h))
  have HKW := Lib.hid (HKW.out.trans' HKC.out)
  obtain ⟨wg,rfl⟩ : ∃ v,v = wc := ⟨_,rfl⟩
  have hp := HP.out
  rw [shipL_R,HEP.out,HST.out,HFE.out,HHE.out,HHS.out] at hp
  cases HB
  case true =>
   have hPe : P = (failD 120,L) := by rw [if_pos (of_decide_eq_true HHB.out)] at hp;exact hp.symm
   subst hPe
   clear hp HP HHB
   have HKW : Hid (Kp F w wg) := Lib.hid HKW.out.any
   have hd9 := HDG.out
   have g0 := Blk.fr hd9 0
   have g1 := Blk.fr hd9 1
   have g2 := Blk.fr hd9 2
   have u0 : wg.cell? ⟨x + 1,0,none⟩ = some _ := Blk.cell hd9 rfl
   have u1 : wg.cell? ⟨x + 1,1,none⟩ = some _ := Blk.cell hd9 rfl
   have u2 : wg.cell? ⟨x + 1,2,none⟩ = some _ := Blk.cell hd9 rfl
   clear hd9
   go_wp2_with fail
   clear g0 g1 g2 u0 u1 u2
   obtain ⟨hkf,hbf⟩ := done_stored HDG.out (.int .i64 120) (.int .i64 0) (.int .i64 0)
   have hfd := HFX.out.2
   have hwx : w.heap.size = x := HX.out
   have hAf := HAG.out.kept hkf (fun k hk e => hfd (e ▸ hk))
   have hKf := HKW.out.trans hkf (fun i hi e => absurd hi (by omega))
   exact bodyPost_ret (results_cell_row rfl _ _ (x + 1) _ _ _ _ rfl hbf Tryz.underlying44 rfl (by as_aux_lemma => kernel_rfl)) rfl ⟨by rfl,F,S,hAf,UpdS.none hKf⟩
  case false =>
   have hnf := of_decide_eq_false HHB.out
   rw [if_neg hnf] at hp
   have hrp := HRP.out
   rw [HEP.out] at hrp
   unfold reignP at hrp
   have hok1 : OkL B { L with fence := ep } := ⟨HOK.out.row,fun o ho => Int.le_trans (HOK.out.fence o ho) (by rw [HFE.out];show fe ≤ ep;omega),⟨by show 0 ≤ ep;omega,by show ep ≤ 16;omega⟩,HOK.out.settled,HOK.out.bare,HOK.out.lost,HOK.out.quota,HOK.out.room⟩
   obtain ⟨Ao,co,gv,hbl,hat⟩ := HAG.out.at_
   have k2 : wg.cell? ⟨l,2,none⟩ = some (.int .i64 fe) := HFE.out ▸ Blk.cell hbl rfl
   have f2 := Blk.fr hbl 2
   have z1 : wg.cell? ⟨x,1,none⟩ = some (.int .i64 ep) := HEP.out ▸ Blk.cell HCG.out rfl
   have hks : Kp (· = l) wg (wg.setCell ⟨l,2,none⟩ (.int .i64 ep)) := (Kp.refl (· = l) wg).setCell (p := ⟨l,2,none⟩) (fun _ => rfl) _
   have hA6 := HAG.out.fence ep
   have hD6 := HDG.out.kept hks (fun e => hxl2 e.symm)
   have hC6 := HCG.out.kept hks (fun e => hxl1 e.symm)
   have hK6 : Kp F w (wg.setCell ⟨l,2,none⟩ (.int .i64 ep)) := HKW.out.any.trans hks (fun i _ e => by rw [e];exact HAG.out.self)
   obtain ⟨L1,hL1⟩ : ∃ L1 : LV,{ L with fence := ep } = L1 := ⟨_,rfl⟩
   rw [hL1] at hp hok1 hA6
   have HPP := Lib.hid hp
   have HOK := Lib.hid hok1
   clear hp HP HHB hnf hrp hok1 hbl hat hL1 HHE HHS HFE
   go_upto_region 5 with fail
   clear k2 f2 z1 HAG HCG HDG HKW HG
   obtain ⟨wg,hw6⟩ : ∃ w6,wg.setCell ⟨l,2,none⟩ (.int .i64 ep) = w6 := ⟨_,rfl⟩
   rw [hw6] at hA6 hD6 hC6 hK6
   rw [hw6]
   clear hw6 hks
   have HAG := Lib.hid hA6
   have HCG := Lib.hid hC6
   have HDG := Lib.hid hD6
   have HKW := Lib.hid hK6
   clear hA6 hC6 hD6 hK6
   obtain ⟨NB,hNB⟩ : ∃ v,(!hasL an ae L1) = v := ⟨_,rfl⟩
   have HNB := Lib.hid hNB
   have hli : (L1.ops.length : Int) ≤ 80 := by have := HOK.out.len;omega
   have hsp := HROW.out
   unfold rowB at hsp
   rw [Bool.and_eq_true,decide_eq_true_iff] at hsp
   have HSPOT := Lib.hid hsp.1
   clear hNB hsp
   go_cut [68] (fun bv wx => bv = .bool NB ∧ Hid (Kp No wg wx))
   case first =>
    clear_value *
    as_aux_lemma =>
    obtain ⟨Ao,co,gv,hbl,hat⟩ := HAG.out.at_
    have k0 : wg.cell? ⟨l,0,none⟩ = some (.slice Ao L1.ops.length co) := Blk.cell hbl rfl
    have z12 : wg.cell? ⟨x,12,none⟩ = some (.int .i64 an) := HAN.out ▸ Blk.cell HCG.out rfl
    have z13 : wg.cell? ⟨x,13,none⟩ = some (.int .i64 ae) := HAE.out ▸ Blk.cell HCG.out rfl
    have hs0 := HSPOT.out.1
    have hs1 := HSPOT.out.2.1
    by_cases hgt : (L1.ops.length : Int) < an
    case pos =>
     obtain rfl : NB = true := by
      have h := HNB.out
      have h0 : (an == 0) = false := beq_eq_false_iff_ne.2 (by omega)
      unfold hasL at h
      rw [h0,decide_eq_false (by omega)] at h
      exact h.symm
     clear hbl hat
     go_quiet (fail)
     go_wp2_with fail
     go_meet
     exact ⟨rfl,Lib.hid ((Kp.refl _ _).drewN _)⟩
    case neg =>
     by_cases hz : an = 0
     case pos =>
      subst hz
      obtain rfl : NB = false := by rw [← HNB.out];rfl
      clear hbl hat
      go_quiet (fail)
      go_wp2_with fail
      go_meet
      exact ⟨rfl,Lib.hid ((Kp.refl _ _).drewN _)⟩
     case neg =>
      obtain ⟨j,rfl⟩ : ∃ j : Nat,an = (j : Int) + 1 := ⟨(an - 1).toNat,by omega⟩
      obtain ⟨o,ho⟩ : ∃ o,L1.ops[j]? = some o := ⟨_,List.getElem?_eq_getElem (by omega)⟩
      obtain ⟨g,A',c',rfl,hcell,_⟩ := hat j o ho
      have w1 : wg.cell? ⟨g,j * 9 + 1,none⟩ = some _ := hcell 1 _ rfl
      have hji : (j : Int) < (L1.ops.length : Int) := by omega
      have hj0 : (0 : Int) ≤ (j : Int) := by omega
      have hjp : (0 : Int) < (j : Int) + 1 := by omega
      have hb9 : (o.epoch != ae) = NB := by
       rw [← HNB.out]
       have h0 : ((j : Int) + 1 == 0) = false := beq_eq_false_iff_ne.2 (by omega)
       have h1 : ((j : Int) + 1 - 1).toNat = j := by omega
       unfold hasL epochAt
       rw [h0,h1,ho,decide_eq_true (by omega)]
       simp [bne]
      clear ho hcell hz
      clear hbl hat
      go_quiet (fail)
      go_wp2_with fail
      go_meet
      exact ⟨rfl,Lib.hid ((Kp.refl _ _).drewN _)⟩
   case rest =>
    obtain ⟨rfl,HKC⟩ := hcut
    have HAG := Lib.hid (HAG.out.keptNo HKC.out)
    have HCG := Lib.hid (HCG.out.kept HKC.out (fun h => h))
    have HDG := Lib.hid (HDG.out.kept HKC.out (fun h => h))
    have HKW : Hid (Kp F w wc) := Lib.hid (HKW.out.trans HKC.out (fun _ _ h => h.elim))
    obtain ⟨wg,rfl⟩ : ∃ v,v = wc := ⟨_,rfl⟩
    cases NB
    case true =>
     have hPe : P = (failD 121,L1) := by have h := HPP.out;unfold shipR at h;rw [HAN.out,HAE.out,if_neg (by have := HNB.out;simpa using this)] at h;exact h.symm
     subst hPe
     clear HPP HNB
     have hd9 := HDG.out
     have g0 := Blk.fr hd9 0
     have g1 := Blk.fr hd9 1
     have g2 := Blk.fr hd9 2
     have u0 : wg.cell? ⟨x + 1,0,none⟩ = some _ := Blk.cell hd9 rfl
     have u1 : wg.cell? ⟨x + 1,1,none⟩ = some _ := Blk.cell hd9 rfl
     have u2 : wg.cell? ⟨x + 1,2,none⟩ = some _ := Blk.cell hd9 rfl
     clear hd9
     go_wp2_with fail
     clear g0 g1 g2 u0 u1 u2
     obtain ⟨hkf,hbf⟩ := done_stored HDG.out (.int .i64 121) (.int .i64 0) (.int .i64 0)
     have hfd := HFX.out.2
     have hwx : w.heap.size = x := HX.out
     have hAf := HAG.out.kept hkf (fun k hk e => hfd (e ▸ hk))
     have hKf := HKW.out.trans hkf (fun i hi e => absurd hi (by omega))
     exact bodyPost_ret (results_cell_row rfl _ _ (x + 1) _ _ _ _ rfl hbf Tryz.underlying44 rfl (by as_aux_lemma => kernel_rfl)) rfl ⟨by rfl,F,S,hAf,UpdS.none hKf⟩
    case false =>
     have hhas : hasL an ae L1 = true := by have := HNB.out;simpa using this
     have hp2 := HPP.out
     unfold shipR at hp2
     rw [HAN.out,HAE.out,if_pos hhas] at hp2
     obtain ⟨⟨la,le⟩,hla⟩ : ∃ p,lastAt c = p := ⟨_,rfl⟩
     rw [hla] at hp2
     have HLA := Lib.hid hla
     have HP2 := Lib.hid hp2
     have hpl := ship_place HROW.out hhas
     have HPL := Lib.hid hpl
     have hLb : 0 ≤ la ∧ la ≤ 80 := by
      have hl := HLA.out
      unfold lastAt at hl
      cases hg : c.ops.getLast? with
      | none =>
        rw [hg] at hl
        simp only [Prod.mk.injEq] at hl
        have h1 := HSPOT.out
        have h2 := HAN.out
        unfold spotP at h1
        omega
      | some o =>
        rw [hg] at hl
        simp only [Prod.mk.injEq] at hl
        rw [List.getLast?_eq_getElem?] at hg
        have := (HPL.out.2.2.1 _ o hg).1.1
        unfold placeP at this
        omega
     obtain ⟨hla1,hla2⟩ := hLb
     have hset : 0 ≤ L1.settled ∧ L1.settled ≤ 80 := by
      have h1 := HOK.out.settled
      have h2 := HOK.out.len
      omega
     have HSET := Lib.hid hset
     obtain ⟨y,hy⟩ : ∃ v,wg.heap.size = v := ⟨_,rfl⟩
     obtain ⟨wy,hwy⟩ : ∃ v,wg.alloc (.cells #[.int .i64 an,.int .i64 ae] 42) = v := ⟨_,rfl⟩
     have HKC : Hid (Kp No wg wy) := Lib.hid (by rw [← hwy];exact (Kp.refl _ _).alloc _)
     have HYG : Hid (Blk wy y 42 [.int .i64 an,.int .i64 ae]) := Lib.hid (by rw [← hwy,← hy];exact Blk.new wg _ _)
     have HYX : Hid (x + 2 ≤ y) := Lib.hid (by have := Blk.lt HDG.out;omega)
     have z12 : wg.cell? ⟨x,12,none⟩ = some (.int .i64 an) := HAN.out ▸ Blk.cell HCG.out rfl
     have z13 : wg.cell? ⟨x,13,none⟩ = some (.int .i64 ae) := HAE.out ▸ Blk.cell HCG.out rfl
     have HHG : Hid (Rp.opl.slice.R wy (Free F w) [.slice Ao' on cb] c.ops) := Lib.hid (Rp.opl.slice.kept HH.out (HKW.out.trans HKC.out (fun _ _ h => h.elim)) (fun k hk _ => hk.2))
     clear hp2 hla hpl hset hhas HNB HPP HH
     go_upto_region 8 with fail
     try rw [hwy]
     try rw [hy]
     clear hwy hy z12 z13
     have HAG := Lib.hid (HAG.out.keptNo HKC.out)
     have HCG := Lib.hid (HCG.out.kept HKC.out (fun h => h))
     have HDG := Lib.hid (HDG.out.kept HKC.out (fun h => h))
     have HKW : Hid (Kp F w wy) := Lib.hid (HKW.out.trans HKC.out (fun _ _ h => h.elim))
     clear HKC
     have HK0 : Hid (hadL L1 c.ops = 0 + hadL L1 (c.ops.drop 0)) := Lib.hid (by rw [List.drop_zero];omega)
     go_wp2_with fail
     go_loopw [7] (fun iv wr => ∃ k : Nat,k ≤ on ∧ iv = .int .i64 (k : Int) ∧ Hid (hadL L1 c.ops = k + hadL L1 (c.ops.drop k)) ∧ Hid (Kp No wy wr)) (fun iv _ => on - (intOf iv).toNat)
     case atStart => exact ⟨0,Nat.zero_le _,rfl,HK0,Lib.hid (Kp.refl _ _)⟩
     case round =>
      clear HK0
      obtain ⟨k,hk,rfl,HJ,HKC⟩ := hrel
      have HAG := Lib.hid (HAG.out.keptNo HKC.out)
      have HCG := Lib.hid (HCG.out.kept HKC.out (fun h => h))
      have HDG := Lib.hid (HDG.out.kept HKC.out (fun h => h))
      have HYG := Lib.hid (HYG.out.kept HKC.out (fun h => h))
      have HHG := Lib.hid (Rp.opl.slice.keptNo HHG.out HKC.out)
      have HKW : Hid (Kp F w wr) := Lib.hid (HKW.out.trans HKC.out (fun _ _ h => h.elim))
      obtain ⟨wg,rfl⟩ : ∃ v,v = wr := ⟨_,rfl⟩
      have z14 : wg.cell? ⟨x,14,none⟩ = some (.slice Ao' on cb) := HON.out ▸ Blk.cell HCG.out rfl
      by_cases hlt : k < on
      case neg =>
       obtain rfl : on = k := by omega
       have hkj : hadL L1 c.ops = on := by
        have := HJ.out
        rw [List.drop_eq_nil_of_le (by have := HON.out;omega)] at this
        simpa [hadL] using this
       have HPT : Hid (P = ((0,la,le),{ L1 with settled := max L1.settled la })) := Lib.hid (by
        have := HP2.out
        rw [hkj,List.drop_eq_nil_of_le (by have := HON.out;omega)] at this
        exact this.symm)
       have HUF : Hid (∀ k,F k → F k ∨ y < k) := Lib.hid (fun k hk => .inl hk)
       have HUS : Hid (∀ k,S k → (S k ∨ F k) ∨ y < k) := Lib.hid (fun k hk => .inl (.inl hk))
       have HMS : Hid (∀ k,S k → S k) := Lib.hid (fun k hk => hk)
       have HSET2 := HSET
       clear hkj HP2 HJ HPL
       revert Q0
       as_aux_lemma =>
       intros
       obtain ⟨sd,hsd⟩ : ∃ sd,(L1).settled = sd := ⟨_,rfl⟩
       have HSD := Lib.hid hsd
       have hset := HSET2.out
       rw [hsd] at hset
       obtain ⟨hset1,hset2⟩ := hset
       clear hsd
       have z14 : wg.cell? ⟨x,14,none⟩ = some (.slice Ao' on cb) := HON.out ▸ Blk.cell HCG.out rfl
       go_upto_if 194 with fail
       go_cut [7] (fun _ wx => Hid (Blk wx y 42 [.int .i64 la,.int .i64 le]) ∧ Hid (Kp (· = y) wg wx))
       case first =>
        have hlast := HLA.out
        unfold lastAt at hlast
        rcases Nat.eq_zero_or_pos on with h0 | h0
        · subst h0
          have hnil : c.ops = [] := List.eq_nil_of_length_eq_zero HON.out
          rw [hnil] at hlast
          simp only [List.getLast?_nil,Prod.mk.injEq] at hlast
          obtain ⟨hl1,hl2⟩ := hlast
          have HY8 : Hid (Blk wg y 42 [.int .i64 la,.int .i64 le]) := Lib.hid (by rw [← hl1,← hl2,HAN.out,HAE.out];exact HYG.out)
          clear hnil hl1 hl2
          go_wp2_with fail
          all_goals go_meet
          all_goals exact ⟨HY8,Lib.hid (Kp.refl _ _)⟩
        · obtain ⟨m,rfl⟩ : ∃ m,on = m + 1 := ⟨on - 1,by omega⟩
          obtain ⟨o,ho⟩ : ∃ o,c.ops[m]? = some o := ⟨_,List.getElem?_eq_getElem (by have := HON.out;omega)⟩
          have hgl : c.ops.getLast? = some o := by rw [List.getLast?_eq_getElem?,HON.out];exact ho
          rw [hgl] at hlast
          simp only [Prod.mk.injEq] at hlast
          obtain ⟨hl1,hl2⟩ := hlast
          have HL12 : Hid (o.n = la ∧ o.epoch = le) := Lib.hid ⟨hl1,hl2⟩
          have hread : Rp.opl.slice.R wg (Free F w) [.slice Ao' c.ops.length cb] c.ops := by rw [HON.out];exact HHG.out
          obtain ⟨ad,A2,c2,rfl,_,hcell,hnum,_⟩ := Rp.at_opl hread ho
          obtain ⟨y0,y1,y2,y3,y4,y5,y6,y7,y8⟩ := opl_cells hcell
          obtain ⟨nh,hnh⟩ : ∃ nh,o.hashes.length = nh := ⟨_,rfl⟩
          rw [hnh] at y8
          have hm9 : m ≤ 8 := by omega
          have hwm : IntKind.i64.wrap (m : Int) = (m : Int) := by rw [IntKind.wrap_i64];omega
          have hmlt : (m : Int) < (m : Int) + 1 := by omega
          have hm0 : (0 : Int) < (m : Int) + 1 := by omega
          clear ho hgl hread hcell hnum hnh h0 hl1 hl2
          go_upto_region 24 with fail
          go_cut [11] (fun bv wx => ∃ t,bv = .pointer (some ⟨t,0,none⟩) ∧ Hid (Blk wx t 36 (o.cells (.slice A2 nh c2))) ∧ Hid (Kp No wg wx))
          case first =>
           go_wp2_with fail
           go_meet
           exact ⟨_,rfl,Lib.hid (Blk.new wg _ _),Lib.hid ((Kp.refl _ _).alloc _)⟩
          case rest =>
           obtain ⟨t,rfl,HT,HKT⟩ := hcut
           clear_value *
           as_aux_lemma =>
           clear y0 y1 y2 y3 y4 y5 y6 y7 y8 z14
           have hyw := HYG.out.kept HKT.out (fun h => h)
           have s0 : wc.cell? ⟨y,0,none⟩ = some _ := Blk.cell hyw rfl
           have s1 : wc.cell? ⟨y,1,none⟩ = some _ := Blk.cell hyw rfl
           have g0 := Blk.fr hyw 0
           have g1 := Blk.fr hyw 1
           have y0 : wc.cell? ⟨t,0,none⟩ = some _ := Blk.cell HT.out rfl
           have y1 : wc.cell? ⟨t,1,none⟩ = some _ := Blk.cell HT.out rfl
           have y2 : wc.cell? ⟨t,2,none⟩ = some _ := Blk.cell HT.out rfl
           have y3 : wc.cell? ⟨t,3,none⟩ = some _ := Blk.cell HT.out rfl
           have HY9 : Hid (Blk ((wc.setCell ⟨y,0,none⟩ (.int .i64 o.n)).setCell ⟨y,1,none⟩ (.int .i64 o.epoch)) y 42 [.int .i64 la,.int .i64 le]) := Lib.hid (by rw [← HL12.out.1,← HL12.out.2];exact Blk.set (Blk.set hyw 0 _) 1 _)
           have HK9 : Hid (Kp (· = y) wg ((wc.setCell ⟨y,0,none⟩ (.int .i64 o.n)).setCell ⟨y,1,none⟩ (.int .i64 o.epoch))) := Lib.hid (((HKT.out.any : Kp (· = y) wg wc).setCell (p := ⟨y,0,none⟩) (fun _ => rfl) _).setCell (p := ⟨y,1,none⟩) (fun _ => rfl) _)
           clear hyw
           go_wp2_with fail
           go_meet
           exact ⟨HY9,HK9⟩
       case rest =>
        obtain ⟨HYM,HKM⟩ := hcut
        clear z14
        have hyx1 : y ≠ x ∧ y ≠ x + 1 := by have := HYX.out;omega
        have hfy : ∀ k,F k ∨ S k → k ≠ y := fun k hk e => by
         have h1 := HYX.out
         have h2 := HX.out
         rcases hk with hk | hk
         · rcases HUF.out k hk with h | h
           · have := HFLT.out k (.inl h);omega
           · omega
         · rcases HUS.out k hk with (h | h) | h
           · have := HFLT.out k (.inr h);omega
           · have := HFLT.out k (.inl h);omega
           · omega
        have hfd : ∀ k,F k ∨ S k → k ≠ x + 1 := fun k hk e => by
         have h1 := HYX.out
         have h2 := HX.out
         rcases hk with hk | hk
         · rcases HUF.out k hk with h | h
           · have := HFLT.out k (.inl h);omega
           · omega
         · rcases HUS.out k hk with (h | h) | h
           · have := HFLT.out k (.inr h);omega
           · have := HFLT.out k (.inl h);omega
           · omega
        have HAG := Lib.hid (HAG.out.kept HKM.out hfy)
        have HDG := Lib.hid (HDG.out.kept HKM.out (fun e => hyx1.2 e.symm))
        have HKW : Hid (Kp F w wc) := Lib.hid (HKW.out.trans HKM.out (fun i hi e => by have h2 := HYX.out;have h3 := HX.out;omega))
        have HYG := HYM
        have HFD := Lib.hid hfd
        have HFY := Lib.hid hfy
        clear HYM HKM hfy hfd hyx1
        obtain ⟨wg,rfl⟩ : ∃ v,v = wc := ⟨_,rfl⟩
        obtain ⟨M,hM⟩ : ∃ M,max sd la = M := ⟨_,rfl⟩
        have HM := Lib.hid hM
        go_upto_region 26 with fail
        obtain ⟨wd,hwd⟩ : ∃ v,wg.drew = v := ⟨_,rfl⟩
        have HKC : Hid (Kp No wg wd) := Lib.hid (by rw [← hwd];exact (Kp.refl _ _).drew)
        have HAG := Lib.hid (HAG.out.keptNo HKC.out)
        have HDG := Lib.hid (HDG.out.kept HKC.out (fun h => h))
        have HYG := Lib.hid (HYG.out.kept HKC.out (fun h => h))
        have HKW : Hid (Kp F w wd) := Lib.hid (HKW.out.trans HKC.out (fun _ _ h => h.elim))
        obtain ⟨Ao,co,gv,hbl,hat⟩ := HAG.out.at_
        have k3 : wd.cell? ⟨l,3,none⟩ = some (.int .i64 sd) := HSD.out ▸ Blk.cell hbl rfl
        have f3 := Blk.fr hbl 3
        have t0 : wd.cell? ⟨y,0,none⟩ = some (.int .i64 la) := Blk.cell HYG.out rfl
        clear hbl hat
        refine Reg.wp_region_plan [⟨0,false,[]⟩,⟨1,false,[]⟩,⟨2,false,[]⟩,⟨3,false,[]⟩,⟨4,false,[]⟩,⟨5,false,[]⟩,⟨6,false,[]⟩,⟨7,false,[]⟩,⟨8,false,[]⟩,⟨9,false,[]⟩,⟨10,true,[]⟩] rfl (by as_aux_lemma => kernel_rfl) ?_
        rw [hwd]
        clear hwd
        repeat (first | (refine Reg.look rfl rfl rfl (by go_simp;rfl) rfl ?_;go_simp) | (refine Reg.skip rfl rfl rfl ?_;go_simp))
        refine Reg.act rfl ?_
        go_wp2_with fail
        (refine ⟨?anew,?_⟩;case anew => ((repeat (refine Reg.anew_cons rfl rfl (fun _ => by go_simp) ?_));exact Reg.anew_nil))
        repeat (first | (refine Reg.look rfl rfl rfl (by go_simp;rfl) rfl ?_;go_simp) | (refine Reg.skip rfl rfl rfl ?_;go_simp))
        (refine Reg.done ?_;simp only [Exit.then])
        have hks : Kp (· = l) wd (wd.setCell ⟨l,3,none⟩ (.int .i64 M)) := (Kp.refl (· = l) wd).setCell (p := ⟨l,3,none⟩) (fun _ => rfl) _
        have hA6 := HAG.out.settled M
        have hD6 := HDG.out.kept hks (fun e => HFD.out l (.inl HAG.out.self) e.symm)
        have hY6 := HYG.out.kept hks (fun e => HFY.out l (.inl HAG.out.self) e.symm)
        have hK6 : Kp F w (wd.setCell ⟨l,3,none⟩ (.int .i64 M)) := HKW.out.trans hks (fun i hi e => by
         rcases HUF.out l HAG.out.self with h | h
         · exact e ▸ h
         · have h2 := HYX.out;have h3 := HX.out;omega)
        clear HKC HKW HAG HDG HYG k3 f3 t0 hM
        obtain ⟨wg,hw6⟩ : ∃ w6,wd.setCell ⟨l,3,none⟩ (.int .i64 M) = w6 := ⟨_,rfl⟩
        rw [hw6] at hA6 hD6 hY6 hK6
        rw [hw6]
        clear hw6 hks
        have HAG := Lib.hid hA6
        have HDG := Lib.hid hD6
        have HKW := Lib.hid hK6
        have t0 : wg.cell? ⟨y,0,none⟩ = some (.int .i64 la) := Blk.cell hY6 rfl
        have t1 : wg.cell? ⟨y,1,none⟩ = some (.int .i64 le) := Blk.cell hY6 rfl
        clear hA6 hD6 hY6 hK6
        have hd9 := HDG.out
        have g0 := Blk.fr hd9 0
        have g1 := Blk.fr hd9 1
        have g2 := Blk.fr hd9 2
        have u0 : wg.cell? ⟨x + 1,0,none⟩ = some _ := Blk.cell hd9 rfl
        have u1 : wg.cell? ⟨x + 1,1,none⟩ = some _ := Blk.cell hd9 rfl
        have u2 : wg.cell? ⟨x + 1,2,none⟩ = some _ := Blk.cell hd9 rfl
        clear hd9
        go_wp2_with fail
        clear g0 g1 g2 u0 u1 u2 t0 t1
        obtain ⟨hkf,hbf⟩ := done_stored HDG.out (.int .i64 0) (.int .i64 la) (.int .i64 le)
        have hwx : w.heap.size = x := HX.out
        have hyx : x + 2 ≤ y := HYX.out
        have hAf := HAG.out.kept hkf (fun k hk e => HFD.out k hk e)
        have hKf := HKW.out.trans hkf (fun i hi e => absurd hi (by omega))
        have hPe : P = ((0,la,le),{ L1 with settled := M }) := by rw [HPT.out,← HM.out,← HSD.out]
        subst hPe
        exact bodyPost_ret (results_cell_row rfl _ _ (x + 1) _ _ _ _ rfl hbf Tryz.underlying44 rfl (by as_aux_lemma => kernel_rfl)) rfl ⟨rfl,F,S,hAf,⟨hKf,fun k hk => (HUF.out k hk).imp id (fun h => by omega),fun k hk => (HUS.out k hk).imp id (fun h => by omega),HMS.out⟩⟩
      case pos =>
       obtain ⟨o,ho⟩ : ∃ o,c.ops[k]? = some o := ⟨_,List.getElem?_eq_getElem (by have := HON.out;omega)⟩
       have hread : Rp.opl.slice.R wg (Free F w) [.slice Ao' c.ops.length cb] c.ops := by rw [HON.out];exact HHG.out
       have hocb : on ≤ cb := by
        obtain ⟨A5,c5,e5,h5,_⟩ := hread
        simp only [List.cons.injEq,Value.slice.injEq,and_true,true_and] at e5
        have := HON.out
        omega
       have HOCB := Lib.hid hocb
       obtain ⟨ad,A2,c2,rfl,_,hcell,hnum,_⟩ := Rp.at_opl hread ho
       obtain ⟨y0,y1,y2,y3,y4,y5,y6,y7,y8⟩ := opl_cells hcell
       obtain ⟨nh,hnh⟩ : ∃ nh,o.hashes.length = nh := ⟨_,rfl⟩
       rw [hnh] at y8
       have HOD : Hid (c.ops.drop k = o :: c.ops.drop (k + 1)) := Lib.hid (by
        obtain ⟨h1,h2⟩ := List.getElem?_eq_some_iff.1 ho
        rw [List.drop_eq_getElem_cons h1,h2])
       have HSTEP := Lib.hid (hadL_step L1 ho)
       have HOKP : Hid (okP o ∧ o.n = an + 1 + k) := Lib.hid (HPL.out.2.2.1 k o ho)
       have HKIND : Hid (hadL L1 c.ops = k → o.kind ≠ 3 → 1 ≤ an + k) := Lib.hid (fun hk h => by
        have := HPL.out.2.2.2 o (by rw [hk];exact ho) h
        rw [hk] at this
        exact this)
       have hki : (k : Int) < (on : Int) := by omega
       clear ho hread hcell hnum hnh hocb
       have HKR := HKC
       go_upto_region 11 with fail
       go_cut [8] (fun bv wx => ∃ t,bv = .pointer (some ⟨t,0,none⟩) ∧ Hid (Blk wx t 36 (o.cells (.slice A2 nh c2))) ∧ Hid (Kp No wg wx) ∧ Hid (wg.heap.size ≤ t))
       case first =>
        go_wp2_with fail
        go_meet
        exact ⟨_,rfl,Lib.hid (Blk.new wg _ _),Lib.hid ((Kp.refl _ _).alloc _),Lib.hid (Nat.le_refl _)⟩
       case rest =>
        rename_i Q1 K1 a1 K1b a1b
        obtain ⟨t,rfl,HT,HKC,HTW⟩ := hcut
        clear y0 y1 y2 y3 y4 y5 y6 y7 y8 z14
        have HTY : Hid (y < t) := Lib.hid (by have h1 := Blk.lt HYG.out;have h2 := HTW.out;omega)
        have HKR := Lib.hid (HKR.out.trans' HKC.out)
        have HAG := Lib.hid (HAG.out.keptNo HKC.out)
        have HCG := Lib.hid (HCG.out.kept HKC.out (fun h => h))
        have HDG := Lib.hid (HDG.out.kept HKC.out (fun h => h))
        have HYG := Lib.hid (HYG.out.kept HKC.out (fun h => h))
        have HHG := Lib.hid (Rp.opl.slice.keptNo HHG.out HKC.out)
        have HKW : Hid (Kp F w wc) := Lib.hid (HKW.out.trans HKC.out (fun _ _ h => h.elim))
        obtain ⟨wg,rfl⟩ : ∃ v,v = wc := ⟨_,rfl⟩
        obtain ⟨NB,hNB⟩ : ∃ v,hasL o.n o.epoch L1 = v := ⟨_,rfl⟩
        have HNB := Lib.hid hNB
        have hn1 : 1 ≤ o.n := HOKP.out.1.1.1
        have hn80 : o.n ≤ 80 := HOKP.out.1.1.2.1
        clear hNB
        go_upto_region 12 with fail
        go_cut [109] (fun bv wx => bv = .bool NB ∧ Hid (Kp No wg wx))
        case first =>
         clear_value *
         as_aux_lemma =>
         obtain ⟨Ao,co,gv,hbl,hat⟩ := HAG.out.at_
         have k0 : wg.cell? ⟨l,0,none⟩ = some (.slice Ao L1.ops.length co) := Blk.cell hbl rfl
         have y0 : wg.cell? ⟨t,0,none⟩ = some _ := Blk.cell HT.out rfl
         have y1 : wg.cell? ⟨t,1,none⟩ = some _ := Blk.cell HT.out rfl
         have y2 : wg.cell? ⟨t,2,none⟩ = some _ := Blk.cell HT.out rfl
         have y3 : wg.cell? ⟨t,3,none⟩ = some _ := Blk.cell HT.out rfl
         by_cases hgt : o.n ≤ (L1.ops.length : Int)
         case neg =>
          obtain rfl : NB = false := by
           rw [← HNB.out]
           unfold hasL
           rw [beq_eq_false_iff_ne.2 (by omega : o.n ≠ 0),decide_eq_false hgt];rfl
          clear hbl hat
          go_quiet (fail)
          go_wp2_with fail
          go_meet
          exact ⟨rfl,Lib.hid ((Kp.refl _ _).drewN _)⟩
         case pos =>
          obtain ⟨j,hj⟩ : ∃ j : Nat,o.n = (j : Int) + 1 := ⟨(o.n - 1).toNat,by omega⟩
          obtain ⟨o2,ho2⟩ : ∃ o,L1.ops[j]? = some o := ⟨_,List.getElem?_eq_getElem (by omega)⟩
          obtain ⟨g,A',c',rfl,hcell,_⟩ := hat j o2 ho2
          have w1 : wg.cell? ⟨g,j * 9 + 1,none⟩ = some _ := hcell 1 _ rfl
          have hji : (j : Int) < (L1.ops.length : Int) := by omega
          have hwj : IntKind.i64.wrap (o.n - 1) = (j : Int) := by rw [IntKind.wrap_i64];omega
          have hb9 : (o2.epoch == o.epoch) = NB := by
           rw [← HNB.out]
           unfold hasL epochAt
           rw [beq_eq_false_iff_ne.2 (by omega : o.n ≠ 0),decide_eq_true hgt,show (o.n - 1).toNat = j by omega,ho2]
           rfl
          clear ho2 hcell hj
          clear hbl hat
          go_quiet (fail)
          go_wp2_with fail
          go_meet
          exact ⟨rfl,Lib.hid ((Kp.refl _ _).drewN _)⟩
        case rest =>
         obtain ⟨rfl,HKC⟩ := hcut
         have HT := Lib.hid (HT.out.kept HKC.out (fun h => h))
         have HKR := Lib.hid (HKR.out.trans' HKC.out)
         have HAG := Lib.hid (HAG.out.keptNo HKC.out)
         have HCG := Lib.hid (HCG.out.kept HKC.out (fun h => h))
         have HDG := Lib.hid (HDG.out.kept HKC.out (fun h => h))
         have HYG := Lib.hid (HYG.out.kept HKC.out (fun h => h))
         have HHG := Lib.hid (Rp.opl.slice.keptNo HHG.out HKC.out)
         have HKW : Hid (Kp F w wc) := Lib.hid (HKW.out.trans HKC.out (fun _ _ h => h.elim))
         obtain ⟨wg,rfl⟩ : ∃ v,v = wc := ⟨_,rfl⟩
         cases NB
         case true =>
          have HK1 : Hid (hadL L1 c.ops = (k + 1) + hadL L1 (c.ops.drop (k + 1))) := Lib.hid (by have h1 := HJ.out;rw [HSTEP.out,if_pos HNB.out] at h1;omega)
          go_wp2_with fail
          go_roundw
          case rel => exact ⟨k + 1,by omega,by go_num,HK1,HKR⟩
          case measure => simp [intOf];omega
         case false =>
          have hkj : hadL L1 c.ops = k := by have h1 := HJ.out;rw [HSTEP.out,if_neg (by rw [HNB.out];simp)] at h1;omega
          have hp3 := HP2.out
          rw [hkj,HOD.out] at hp3
          simp only at hp3
          have HP3 := Lib.hid hp3
          have HKIND := Lib.hid (HKIND.out hkj)
          have hpl2 : an + k ≤ L1.ops.length := by have := HPL.out.2.1;rw [hkj] at this;exact this
          have han0 : 0 ≤ an := HPL.out.1
          have HPL2 := Lib.hid (⟨han0,hpl2⟩ : 0 ≤ an ∧ an + k ≤ L1.ops.length)
          obtain ⟨G2,hG2⟩ : ∃ G2,decide (o.kind ≠ 3 ∧ siteAt o.n L1 ≠ some o.site) = G2 := ⟨_,rfl⟩
          have HG2 := Lib.hid hG2
          clear hG2 hkj hp3 HP2 HJ HSTEP HNB hpl2 han0 HKR
          go_upto_region 13 with fail
          go_cut [127] (fun bv wx => bv = .bool G2 ∧ Hid (Kp No wg wx))
          case first =>
           clear_value *
           as_aux_lemma =>
           obtain ⟨Ao,co,gv,hbl,hat⟩ := HAG.out.at_
           have k0 : wg.cell? ⟨l,0,none⟩ = some (.slice Ao L1.ops.length co) := Blk.cell hbl rfl
           have y0 : wg.cell? ⟨t,0,none⟩ = some _ := Blk.cell HT.out rfl
           have y1 : wg.cell? ⟨t,1,none⟩ = some _ := Blk.cell HT.out rfl
           have y2 : wg.cell? ⟨t,2,none⟩ = some _ := Blk.cell HT.out rfl
           have y3 : wg.cell? ⟨t,3,none⟩ = some _ := Blk.cell HT.out rfl
           by_cases hk3 : o.kind = 3
           case pos =>
            obtain rfl : G2 = false := by rw [← HG2.out];exact decide_eq_false (fun h => h.1 hk3)
            have b3 : (o.kind != 3) = false := by simp [hk3]
            clear hk3
            clear hbl hat
            go_quiet (fail)
            go_wp2_with fail
            go_meet
            exact ⟨rfl,Lib.hid ((Kp.refl _ _).drewN _)⟩
           case neg =>
            have h1p := HKIND.out hk3
            have h2p := HOKP.out.2
            have h3p := HPL2.out
            obtain ⟨q,hq⟩ : ∃ q : Nat,o.n - 2 = (q : Int) := ⟨(o.n - 2).toNat,by omega⟩
            have hqlen : q < L1.ops.length := by omega
            obtain ⟨o2,ho2⟩ : ∃ o,L1.ops[q]? = some o := ⟨_,List.getElem?_eq_getElem hqlen⟩
            obtain ⟨g,A',c',rfl,hcell,_⟩ := hat q o2 ho2
            have w3 : wg.cell? ⟨g,q * 9 + 3,none⟩ = some _ := hcell 3 _ rfl
            have hqi : (q : Int) < (L1.ops.length : Int) := by omega
            have hwq : IntKind.i64.wrap (o.n - 2) = (q : Int) := by rw [IntKind.wrap_i64];omega
            have b3 : (o.kind != 3) = true := bne_iff_ne.2 hk3
            have b4 : (o2.site != o.site) = G2 := by
             rw [← HG2.out]
             unfold siteAt
             rw [hq,Int.toNat_natCast,ho2]
             by_cases e : o2.site = o.site
             · simp [e]
             · simp [e,hk3]
            clear ho2 hcell hq hk3 h1p h2p h3p hqlen
            clear hbl hat
            go_quiet (fail)
            go_wp2_with fail
            go_meet
            exact ⟨rfl,Lib.hid ((Kp.refl _ _).drewN _)⟩
          case rest =>
           obtain ⟨rfl,HKC⟩ := hcut
           have HT := Lib.hid (HT.out.kept HKC.out (fun h => h))
           have HAG := Lib.hid (HAG.out.keptNo HKC.out)
           have HCG := Lib.hid (HCG.out.kept HKC.out (fun h => h))
           have HDG := Lib.hid (HDG.out.kept HKC.out (fun h => h))
           have HYG := Lib.hid (HYG.out.kept HKC.out (fun h => h))
           have HHG := Lib.hid (Rp.opl.slice.keptNo HHG.out HKC.out)
           have HKW : Hid (Kp F w wc) := Lib.hid (HKW.out.trans HKC.out (fun _ _ h => h.elim))
           obtain ⟨wg,rfl⟩ : ∃ v,v = wc := ⟨_,rfl⟩
           cases G2
           case true =>
            have hPe : P = (failD 121,L1) := by have h := HP3.out;rw [if_pos (of_decide_eq_true HG2.out)] at h;exact h.symm
            subst hPe
            clear HP3 HG2
            have hd9 := HDG.out
            have g0 := Blk.fr hd9 0
            have g1 := Blk.fr hd9 1
            have g2 := Blk.fr hd9 2
            have u0 : wg.cell? ⟨x + 1,0,none⟩ = some _ := Blk.cell hd9 rfl
            have u1 : wg.cell? ⟨x + 1,1,none⟩ = some _ := Blk.cell hd9 rfl
            have u2 : wg.cell? ⟨x + 1,2,none⟩ = some _ := Blk.cell hd9 rfl
            clear hd9
            go_wp2_with fail
            clear g0 g1 g2 u0 u1 u2
            obtain ⟨hkf,hbf⟩ := done_stored HDG.out (.int .i64 121) (.int .i64 0) (.int .i64 0)
            have hfd := HFX.out.2
            have hwx : w.heap.size = x := HX.out
            have hAf := HAG.out.kept hkf (fun k hk e => hfd (e ▸ hk))
            have hKf := HKW.out.trans hkf (fun i hi e => absurd hi (by omega))
            exact bodyPost_ret (results_cell_row rfl _ _ (x + 1) _ _ _ _ rfl hbf Tryz.underlying44 rfl (by as_aux_lemma => kernel_rfl)) rfl ⟨by rfl,F,S,hAf,UpdS.none hKf⟩
           case false =>
            obtain ⟨p,hpn⟩ : ∃ p : Nat,o.n - 1 = (p : Int) := ⟨(o.n - 1).toNat,by omega⟩
            have hpk : (p : Int) = an + k := by have := HOKP.out.2;omega
            have hplen : p ≤ L1.ops.length := by have := HPL2.out.2;omega
            have hp4 := HP3.out
            rw [if_neg (of_decide_eq_false HG2.out),← HOD.out,show (o.n - 1).toNat = p by omega] at hp4
            have HP4 := Lib.hid hp4
            have HPLEN := Lib.hid hplen
            have hwp : IntKind.i64.wrap (o.n - 1) = (p : Int) := by rw [IntKind.wrap_i64];omega
            have HOPS : Hid (∀ o ∈ c.ops.drop k,okP o) := Lib.hid (fun o ho => by
             obtain ⟨i,hi⟩ := List.getElem?_of_mem ho
             rw [List.getElem?_drop] at hi
             exact (HPL.out.2.2.1 _ o hi).1)
            clear hp4 HP3 HG2 hpk hpn HKIND HPL HPL2
            have t0 : wg.cell? ⟨t,0,none⟩ = some _ := Blk.cell HT.out rfl
            go_wp2_with fail
            clear t0
            go_loopw [9] (fun jv wr => ∃ (q : Nat) (F2 : Nat → Prop),p ≤ q ∧ q ≤ L1.ops.length ∧ jv = .int .i64 (q : Int) ∧ Hid (RLAt wr l { L1 with lost := L1.lost ++ ((L1.ops.drop p).take (q - p)).map OpL.stripped } F2 S) ∧ Hid (UpdS F S wg wr F2 S)) (fun jv _ => L1.ops.length - (intOf jv).toNat)
            case atStart =>
             refine ⟨p,F,Nat.le_refl _,HPLEN.out,rfl,Lib.hid ?_,Lib.hid (UpdS.none (Kp.refl _ _))⟩
             rw [Nat.sub_self,List.take_zero,List.map_nil,List.append_nil]
             exact HAG.out
            case round =>
             obtain ⟨q,F2,hpq,hqn,rfl,HAR,HUR⟩ := hrel
             obtain ⟨LM,hLM⟩ : ∃ v,L1.lost ++ ((L1.ops.drop p).take (q - p)).map OpL.stripped = v := ⟨_,rfl⟩
             rw [hLM] at HAR
             have HLM := Lib.hid hLM
             have HBARE : Hid (∀ o ∈ LM,o.hashes = []) := Lib.hid (by
              rw [← hLM]
              intro o ho
              rcases List.mem_append.1 ho with h | h
              · exact HOK.out.bare o h
              · obtain ⟨o',_,rfl⟩ := List.mem_map.1 h
                rfl)
             have hlm9 : LM.length ≤ 900000 := by
              rw [← hLM,List.length_append,List.length_map,List.length_take]
              have h1 := HOK.out.lost
              have h2 := HBB.out
              omega
             have HLM9 := Lib.hid hlm9
             clear hLM hlm9
             obtain ⟨Ao,co,gv0,hbl,hat⟩ := HAR.out.at_
             have k0 : wr.cell? ⟨l,0,none⟩ = some (.slice Ao L1.ops.length co) := Blk.cell hbl rfl
             by_cases hlt : q < L1.ops.length
             case pos =>
              have hqi : (q : Int) < (L1.ops.length : Int) := by omega
              obtain ⟨o3,ho3⟩ : ∃ o,L1.ops[q]? = some o := ⟨_,List.getElem?_eq_getElem hlt⟩
              obtain ⟨g,A',c',rfl,hcell,_⟩ := hat q o3 ho3
              have HTK : Hid ((L1.ops.drop p).take (q + 1 - p) = (L1.ops.drop p).take (q - p) ++ [o3]) := Lib.hid (by
               rw [show q + 1 - p = (q - p) + 1 by omega]
               exact take_snoc (by rw [List.getElem?_drop,show p + (q - p) = q by omega];exact ho3))
              have hnum3 : o3.nums := by
               obtain ⟨ov,gv,hin,_⟩ := HAR.out
               obtain ⟨A,c,rfl⟩ := hin.ops.shape
               obtain ⟨_,_,_,_,_,_,_,_,hn,_⟩ := Own.at_opl hin.ops ho3
               exact hn
              have HNUM3 := Lib.hid hnum3
              have z0 : wr.cell? ⟨g,q * 9,none⟩ = some _ := hcell 0 _ rfl
              have z1 : wr.cell? ⟨g,q * 9 + 1,none⟩ = some _ := hcell 1 _ rfl
              have z2 : wr.cell? ⟨g,q * 9 + 2,none⟩ = some _ := hcell 2 _ rfl
              have z3 : wr.cell? ⟨g,q * 9 + 3,none⟩ = some _ := hcell 3 _ rfl
              have z4 : wr.cell? ⟨g,q * 9 + 4,none⟩ = some _ := hcell 4 _ rfl
              have z5 : wr.cell? ⟨g,q * 9 + 5,none⟩ = some _ := hcell 5 _ rfl
              have z6 : wr.cell? ⟨g,q * 9 + 6,none⟩ = some _ := hcell 6 _ rfl
              have z7 : wr.cell? ⟨g,q * 9 + 7,none⟩ = some _ := hcell 7 _ rfl
              have z8 : wr.cell? ⟨g,q * 9 + 8,none⟩ = some _ := hcell 8 _ rfl
              clear ho3 hcell hbl hat hnum3
              go_upto_region 18 with fail
              go_cut [10] (fun bv wx => ∃ t,bv = .pointer (some ⟨t,0,none⟩) ∧ Hid (Blk wx t 36 (o3.cells (.slice A' o3.hashes.length c'))) ∧ Hid (Kp No wr wx) ∧ Hid (wr.heap.size ≤ t))
              case first =>
               go_wp2_with fail
               go_meet
               exact ⟨_,rfl,Lib.hid (Blk.new wr _ _),Lib.hid ((Kp.refl _ _).alloc _),Lib.hid (Nat.le_refl _)⟩
              case rest =>
               obtain ⟨t2,rfl,HT2,HKT,HTW2⟩ := hcut
               clear k0 z0 z1 z2 z3 z4 z5 z6 z7 z8
               have f8 := Blk.fr HT2.out 8
               have y8 : wc.cell? ⟨t2,8,none⟩ = some _ := Blk.cell HT2.out rfl
               have hkt : Kp (· = t2) wc (wc.setCell ⟨t2,8,none⟩ (.slice none 0 0)) := (Kp.refl (· = t2) wc).setCell (p := ⟨t2,8,none⟩) (fun _ => rfl) _
               have hk3 : Kp No wr (wc.setCell ⟨t2,8,none⟩ (.slice none 0 0)) := HKT.out.trans hkt (fun i hi e => by have := HTW2.out;omega)
               have hb3 : Blk (wc.setCell ⟨t2,8,none⟩ (.slice none 0 0)) t2 36 (o3.stripped.cells (.slice none 0 0)) := Blk.set HT2.out 8 (.slice none 0 0)
               have HNS : Hid o3.stripped.nums := HNUM3
               go_upto_region 20 with fail
               obtain ⟨wb,hwb⟩ : ∃ v,wc.setCell ⟨t2,8,none⟩ (.slice none 0 0) = v := ⟨_,rfl⟩
               rw [hwb] at hk3 hb3 ⊢
               obtain ⟨o4,ho4⟩ : ∃ v,o3.stripped = v := ⟨_,rfl⟩
               rw [ho4] at hb3 HNS
               have HO4 : Hid (o4.hashes = [] ∧ o3.stripped = o4) := Lib.hid ⟨by rw [← ho4];rfl,ho4⟩
               have HB3 := Lib.hid hb3
               obtain ⟨ov,gv,hin,hft⟩ := HAR.out.keptNo hk3
               obtain ⟨Ag,cg,rfl⟩ := hin.gone.shape
               have hgl := HLM9.out
               obtain ⟨nl,hnl⟩ : ∃ v,LM.length = v := ⟨_,rfl⟩
               have k1 : wb.cell? ⟨l,1,none⟩ = some (.slice Ag LM.length cg) := Blk.cell hin.blk rfl
               have HIN := Lib.hid hin
               have HFT := Lib.hid hft
               have HK3 := Lib.hid hk3
               rw [hnl] at k1 hgl
               have HNL := Lib.hid hnl
               clear f8 y8 hkt hk3 hwb hin hft hnl ho4 HT2 HKT
               have y0 : wb.cell? ⟨t2,0,none⟩ = some _ := Blk.cell hb3 rfl
               have y1 : wb.cell? ⟨t2,1,none⟩ = some _ := Blk.cell hb3 rfl
               have y2 : wb.cell? ⟨t2,2,none⟩ = some _ := Blk.cell hb3 rfl
               have y3 : wb.cell? ⟨t2,3,none⟩ = some _ := Blk.cell hb3 rfl
               have y4 : wb.cell? ⟨t2,4,none⟩ = some _ := Blk.cell hb3 rfl
               have y5 : wb.cell? ⟨t2,5,none⟩ = some _ := Blk.cell hb3 rfl
               have y6 : wb.cell? ⟨t2,6,none⟩ = some _ := Blk.cell hb3 rfl
               have y7 : wb.cell? ⟨t2,7,none⟩ = some _ := Blk.cell hb3 rfl
               have y8 : wb.cell? ⟨t2,8,none⟩ = some _ := Blk.cell hb3 rfl
               clear hb3
               refine Reg.wp_region_plan [⟨0,false,[]⟩,⟨1,false,[]⟩,⟨2,false,[]⟩,⟨3,false,[]⟩,⟨4,false,[]⟩,⟨5,false,[]⟩,⟨6,true,[2,3,4]⟩,⟨7,true,[]⟩,⟨8,false,[]⟩,⟨9,false,[]⟩,⟨10,true,[]⟩] rfl (by as_aux_lemma => kernel_rfl) ?_
               repeat (first | (refine Reg.look rfl rfl rfl (by go_simp;rfl) rfl ?_;go_simp) | (refine Reg.skip rfl rfl rfl ?_;go_simp))
               refine Reg.act rfl ?_
               go_wp2_with fail
               obtain ⟨w3,hw3⟩ : ∃ w3,(wb.alloc (.cells (o4.cells (.slice none 0 0)).toArray 36)).drew = w3 := ⟨_,rfl⟩
               have hk4 : Kp No wb w3 := by rw [← hw3];exact ((Kp.refl _ _).alloc _).drew
               have hsrc : Rp.opl.slice.R w3 (· = wb.heap.size) [.slice (some ⟨wb.heap.size,0,none⟩) 1 1] [o4] := by
                rw [← hw3]
                exact Rp.opl.slice.keptNo (opl_lit wb o4 (.slice none 0 0) (· = wb.heap.size) rfl HNS.out (by rw [HO4.out.1];exact Rp.none_ _ _ _)) ((Kp.refl _ _).drew)
               have hin4 := HIN.out.keptNo hk4
               have hsz3 : wb.heap.size < w3.heap.size := by rw [← hw3];simp
               have HSRC := Lib.hid hsrc
               have HK4 := Lib.hid hk4
               have HIN4 := Lib.hid hin4
               have HGO : Hid (Own Rp.opl w3 (· = wb.heap.size) 0 36 (.slice Ag nl cg) LM) := Lib.hid (by rw [← HNL.out];exact hin4.gone.bare_any HBARE.out)
               have HGB : Hid (∀ k,(Value.slice Ag nl cg).ownBlock = some k → k < wb.heap.size) := Lib.hid (fun k hk => (HIN.out.gone.lt k (by rw [HNL.out];exact hk)).2)
               have k1 : w3.cell? ⟨l,1,none⟩ = some (.slice Ag nl cg) := by rw [← HNL.out];exact Blk.cell hin4.blk rfl
               unfold OpL.cells at hw3
               try rw [hw3]
               clear hw3 hk4 hsrc hin4 hsz3 y0 y1 y2 y3 y4 y5 y6 y7 y8
               (refine ⟨?anew,?_⟩;case anew => ((repeat (refine Reg.anew_cons rfl rfl (fun _ => by go_simp) ?_));exact Reg.anew_nil))
               refine Reg.act rfl ?_
               refine wpList_append_rp (E := Rp.opl) rfl _ (.tmp 154) (.tmp 156) 37 rfl 0 36 96 el_op (· = wb.heap.size) (.slice Ag nl cg) LM rfl ?d0 (some ⟨wb.heap.size,0,none⟩) 1 (· = wb.heap.size) [o4] rfl HSRC.out Rp.opl_one ?d1 ?d2 (Nat.zero_le _) (fun _ h => h) ?d3 ?_
               case d0 => exact HGO.out
               case d1 => have := HNL.out;simp [maxLen];omega
               case d2 => have := HNL.out;simp;omega
               case d3 => intro k hk e;have := HGB.out k hk;omega
               intro v5 w5 hown5 hg5 hb5
               obtain ⟨A5,c5,rfl⟩ := hown5.shape
               have hl5 : (LM ++ [o4]).length = nl + 1 := by rw [List.length_append,HNL.out];rfl
               have hown6 : Own Rp.opl w5 No 0 36 (.slice A5 (LM ++ [o4]).length c5) (LM ++ [o4]) := hown5.bare_any (fun o ho => by
                rcases List.mem_append.1 ho with h | h
                · exact HBARE.out o h
                · simp only [List.mem_cons,List.not_mem_nil,or_false] at h
                  subst h
                  exact HO4.out.1)
               rw [← HNL.out] at hg5 hb5
               obtain ⟨h6,hk6⟩ := HIN4.out.lost_ hown6 hg5 hb5
               have hk5 : Kp (fun k => (Value.slice Ag LM.length cg).ownBlock = some k) w3 w5 := (Kp.refl _ _).grown hg5 (fun g hg _ => hg)
               have hb5l := HIN4.out.blk.kept hk5 (fun e => HIN4.out.gl e)
               have k1e := Blk.cell hb5l (i := 1) rfl
               have f1e := Blk.fr hb5l 1
               have HGV5 : Hid (∀ k,(Value.slice A5 (LM ++ [o4]).length c5).ownBlock = some k → (Value.slice Ag LM.length cg).ownBlock = some k ∨ wb.heap.size ≤ k) := Lib.hid (fun k hk => by
                rcases hb5 with h | h
                · exact .inl (h ▸ hk)
                · rw [h] at hk
                  injection hk with hk
                  have := HK4.out.size
                  exact .inr (by omega))
               rw [hl5] at h6 hk6 HGV5
               have H6 := Lib.hid h6
               have HK6 := Lib.hid hk6
               have HL5 := Lib.hid hl5
               rw [hl5]
               clear hown5 hg5 hb5 hown6 hk5 hb5l h6 hk6 HSRC HGO HGB k1 hl5
               go_wp2_with fail
               (refine ⟨?anew,?_⟩;case anew => ((repeat (refine Reg.anew_cons rfl rfl (fun _ => by go_simp) ?_));exact Reg.anew_nil))
               repeat (first | (refine Reg.look rfl rfl rfl (by go_simp;rfl) rfl ?_;go_simp) | (refine Reg.skip rfl rfl rfl ?_;go_simp))
               refine Reg.act rfl ?_
               go_wp2_with fail
               (refine ⟨?anew,?_⟩;case anew => ((repeat (refine Reg.anew_cons rfl rfl (fun _ => by go_simp) ?_));exact Reg.anew_nil))
               repeat (first | (refine Reg.look rfl rfl rfl (by go_simp;rfl) rfl ?_;go_simp) | (refine Reg.skip rfl rfl rfl ?_;go_simp))
               (refine Reg.done ?_;simp only [Exit.then])
               obtain ⟨w6,hw6⟩ : ∃ w6,w5.setCell ⟨l,1,none⟩ (.slice A5 (nl + 1) c5) = w6 := ⟨_,rfl⟩
               rw [hw6] at H6 HK6
               rw [hw6]
               clear hw6 k1e f1e
               have HFIN : Hid (RLAt w6 l { L1 with lost := L1.lost ++ ((L1.ops.drop p).take (q + 1 - p)).map OpL.stripped } (RLCore l ov (.slice A5 (nl + 1) c5)) S) := Lib.hid (by
                rw [HTK.out,List.map_append,← List.append_assoc,HLM.out,List.map_cons,List.map_nil,HO4.out.2]
                exact ⟨_,_,H6.out,fun k => Iff.rfl⟩)
               have HUN : Hid (UpdS F S wg w6 (RLCore l ov (.slice A5 (nl + 1) c5)) S) := Lib.hid (HUR.out.trans ⟨(HK3.out.trans' HK4.out).any.trans' (HK6.out.mono (fun k _ e => (HFT.out k).2 (by
                rcases e with e | e
                · exact .inl e
                · exact .inr (.inr e)))),fun k hk => by
                have h3 := HK3.out.size
                rcases hk with h | h | h
                · exact .inl ((HFT.out k).2 (.inl h))
                · exact .inl ((HFT.out k).2 (.inr (.inl h)))
                · rcases HGV5.out k h with h2 | h2
                  · exact .inl ((HFT.out k).2 (.inr (.inr h2)))
                  · exact .inr (by omega),fun k hk => .inl (.inl hk),fun k hk => hk⟩)
               go_wp2_with fail
               go_roundw
               case rel => exact ⟨q + 1,_,by omega,by omega,by go_num,HFIN,HUN⟩
               case measure => simp [intOf];omega
             case neg =>
              obtain rfl : q = L1.ops.length := by omega
              clear hbl hat
              revert Q0 Q1
              as_aux_lemma =>
              intros
              have HLM2 : Hid (L1.lost ++ (L1.ops.drop p).map OpL.stripped = LM) := Lib.hid (by rw [← HLM.out,List.take_of_length_le (by rw [List.length_drop];omega)])
              clear HLM HAG hpq
              have hxF : ¬ F x := fun e => HFX.out.1 (.inl e)
              have hx1F : ¬ F (x + 1) := fun e => HFX.out.2 (.inl e)
              have hbig : ∀ k,x ≤ k → ¬ F k := fun k hk e => by have h1 := HFLT.out k (.inl e);have h2 := HX.out;omega
              have HBIG := Lib.hid hbig
              have HYL : Hid (y < wg.heap.size) := Lib.hid (Blk.lt HYG.out)
              clear hxF hx1F hbig
              obtain ⟨sd,hsd⟩ : ∃ sd,L1.settled = sd := ⟨_,rfl⟩
              have hset := HSET.out
              rw [hsd] at hset
              obtain ⟨hset1,hset2⟩ := hset
              have HSD := Lib.hid hsd
              obtain ⟨M,hM⟩ : ∃ M,min sd (p : Int) = M := ⟨_,rfl⟩
              have HM := Lib.hid hM
              clear hsd
              go_upto_region 21 with fail
              clear k0
              obtain ⟨wd,hwd⟩ : ∃ v,wr.drew = v := ⟨_,rfl⟩
              have HKD : Hid (Kp No wr wd) := Lib.hid (by rw [← hwd];exact (Kp.refl _ _).drew)
              have HAD := Lib.hid (HAR.out.keptNo HKD.out)
              have HUD : Hid (UpdS F S wg wd F2 S) := Lib.hid (HUR.out.trans (UpdS.none HKD.out.any))
              have HTD := Lib.hid (HT.out.kept HUD.out.kp (HBIG.out t (by have h1 := HYX.out;have h2 := HTY.out;omega)))
              obtain ⟨Ao,co,gv,hbl,hat⟩ := HAD.out.at_
              have k3 : wd.cell? ⟨l,3,none⟩ = some (.int .i64 sd) := HSD.out ▸ Blk.cell hbl rfl
              have f3 := Blk.fr hbl 3
              have t0 : wd.cell? ⟨t,0,none⟩ = some (.int .i64 o.n) := Blk.cell HTD.out rfl
              clear hbl hat HAR HUR HKD
              refine Reg.wp_region_plan [⟨0,false,[]⟩,⟨1,false,[]⟩,⟨2,false,[]⟩,⟨3,false,[]⟩,⟨4,false,[]⟩,⟨5,false,[]⟩,⟨6,false,[]⟩,⟨7,false,[]⟩,⟨8,false,[]⟩,⟨9,false,[]⟩,⟨10,false,[]⟩,⟨11,true,[]⟩] rfl (by as_aux_lemma => kernel_rfl) ?_
              rw [hwd]
              clear hwd
              repeat (first | (refine Reg.look rfl rfl rfl (by go_simp;rfl) rfl ?_;go_simp) | (refine Reg.skip rfl rfl rfl ?_;go_simp))
              refine Reg.act rfl ?_
              go_wp2_with fail
              (refine ⟨?anew,?_⟩;case anew => ((repeat (refine Reg.anew_cons rfl rfl (fun _ => by go_simp) ?_));exact Reg.anew_nil))
              repeat (first | (refine Reg.look rfl rfl rfl (by go_simp;rfl) rfl ?_;go_simp) | (refine Reg.skip rfl rfl rfl ?_;go_simp))
              (refine Reg.done ?_;simp only [Exit.then])
              have hA6 := HAD.out.settled M
              have hu6 : UpdS F S wg (wd.setCell ⟨l,3,none⟩ (.int .i64 M)) F2 S := HUD.out.trans (UpdS.none ((Kp.refl F2 wd).setCell (p := ⟨l,3,none⟩) (fun _ => HAD.out.self) _))
              have hT6 := HT.out.kept hu6.kp (HBIG.out t (by have h1 := HYX.out;have h2 := HTY.out;omega))
              have hC6 := HCG.out.kept hu6.kp (HBIG.out x (Nat.le_refl _))
              have hH6 := Rp.opl.slice.kept HHG.out hu6.kp (fun k hk _ => hk.2)
              clear HAD HUD HTD k3 f3 t0 hM
              obtain ⟨wb,hw6⟩ : ∃ w6,wd.setCell ⟨l,3,none⟩ (.int .i64 M) = w6 := ⟨_,rfl⟩
              rw [hw6] at hA6 hu6 hT6 hC6 hH6
              rw [hw6]
              clear hw6
              have HA6 := Lib.hid hA6
              have HU6 := Lib.hid hu6
              have HH6 := Lib.hid hH6
              obtain ⟨ov,gv,hin,hft⟩ := hA6
              obtain ⟨Ao,co,rfl⟩ := hin.ops.shape
              have hpco : p ≤ co := by
               obtain ⟨A5,c5,e5,h5,_⟩ := hin.ops.readFrom
               simp only [List.cons.injEq,Value.slice.injEq,and_true,true_and] at e5
               have h6 := HPLEN.out
               have h7 : L1.ops.length ≤ c5 := h5
               omega
              have k0 : wb.cell? ⟨l,0,none⟩ = some (.slice Ao L1.ops.length co) := Blk.cell hin.blk rfl
              have t0 : wb.cell? ⟨t,0,none⟩ = some (.int .i64 o.n) := Blk.cell hT6 rfl
              have z14 : wb.cell? ⟨x,14,none⟩ = some (.slice (some ad) on cb) := HON.out ▸ Blk.cell hC6 rfl
              have HIN := Lib.hid hin
              have HFT := Lib.hid hft
              have hcbk : ¬ cb = k := by have := HOCB.out;omega
              have hkl2 : k ≤ cb := by have := HOCB.out;omega
              have hkon : k ≤ on := by omega
              have hread : Rp.opl.slice.R wb (Free F w) [.slice (some (ad.add (k * 9))) (c.ops.drop k).length (cb - k)] (c.ops.drop k) := Rp.cut (by rw [HON.out];exact hH6) (by rw [HON.out];omega)
              have hdl : (c.ops.drop k).length = on - k := by rw [List.length_drop,HON.out]
              have hoo := fun w' (hk : Kp No wb w') => r_ownops (c.ops.drop k) _ _ w' _ (Rp.opl.slice.keptNo hread hk) (by omega) (fun o ho => by have := (HOPS.out o ho).hashes;omega)
              rw [hdl] at hoo
              have HOO := Lib.hid hoo
              have HDL := Lib.hid hdl
              have HPCO := Lib.hid hpco
              clear hin hft hread hdl hoo hT6 hC6 hH6 hu6
              go_upto_region 22 with fail
              refine Reg.wp_region_plan [⟨0,false,[]⟩,⟨1,false,[]⟩,⟨2,false,[]⟩,⟨3,false,[]⟩,⟨4,false,[]⟩,⟨5,false,[]⟩,⟨6,false,[]⟩,⟨7,false,[]⟩,⟨8,false,[]⟩,⟨9,false,[]⟩,⟨10,false,[]⟩,⟨11,false,[]⟩,⟨12,false,[]⟩,⟨13,false,[]⟩,⟨14,false,[]⟩,⟨15,false,[]⟩,⟨16,true,[2,3,4,5,6,7,8,9,10,11]⟩,⟨17,true,[]⟩,⟨18,false,[]⟩,⟨19,false,[]⟩,⟨20,true,[]⟩] rfl (by as_aux_lemma => kernel_rfl) ?_
              repeat (first | (refine Reg.look rfl rfl rfl (by go_simp;rfl) rfl ?_;go_simp) | (refine Reg.skip rfl rfl rfl ?_;go_simp))
              refine Reg.act rfl ?_
              go_wp2_with fail
              obtain ⟨w3,hw3⟩ : ∃ v,wb.drew = v := ⟨_,rfl⟩
              have hk3 : Kp No wb w3 := by rw [← hw3];exact (Kp.refl _ _).drew
              try rw [hw3]
              clear hw3
              refine (HOO.out w3 hk3).mono ?_
              rintro e w4 ⟨A4,c4,rfl,hown4,hk4⟩
              have hk34 := hk3.trans' hk4
              have hin4 := HIN.out.keptNo hk34
              have k0' : w4.cell? ⟨l,0,none⟩ = some (.slice Ao L1.ops.length co) := Blk.cell hin4.blk rfl
              have t0' : w4.cell? ⟨t,0,none⟩ = some (.int .i64 o.n) := (hk34.cell (p := ⟨t,0,none⟩) (lt_of_cell t0) (fun z => z)).trans t0
              have z14' : w4.cell? ⟨x,14,none⟩ = some (.slice (some ad) on cb) := (hk34.cell (p := ⟨x,14,none⟩) (lt_of_cell z14) (fun z => z)).trans z14
              obtain ⟨SX,hSX⟩ : ∃ v : Nat → Prop,v = (fun k => (S k ∨ (Value.slice Ao L1.ops.length co).ownBlock = some k) ∨ (wb.heap.size ≤ k ∧ k < w4.heap.size)) := ⟨_,rfl⟩
              rw [← HDL.out] at hown4
              have hrf4 := hown4.readFrom
              have hrb4 := Rp.opl.slice.bnd hrf4
              have hm4 : Rp.opl.slice.R w4 SX [.slice A4 (c.ops.drop k).length c4] (c.ops.drop k) := Rp.opl.slice.more hrb4 (fun k hk => by
               rw [hSX]
               refine .inr ⟨?_,hk.2⟩
               have h3 := hk3.size
               rcases hk.1 with h | h
               · have h1 : w3.heap.size ≤ k := h.1
                 omega
               · have h1 : w3.heap.size ≤ k := h
                 omega)
              have htm : (L1.ops.take p).length ≤ maxLen := by
               have h1 := HOK.out.len
               rw [List.length_take]
               unfold maxLen
               omega
              have hl4 : Rp.opl.slice.R w4 SX [.slice Ao (L1.ops.take p).length (L1.ops.take p).length] (L1.ops.take p) := Rp.recap (Rp.head (c := co) ((hin4.ops.mono (Nat.le_refl _) (fun k h => by rw [hSX];exact .inl (.inl h))).read (fun k h => by rw [hSX];exact .inl (.inr h))) HPLEN.out) (Nat.le_refl _) htm
              have HM4 := Lib.hid hm4
              have HL4 := Lib.hid hl4
              have HTL : Hid ((L1.ops.take p).length = p) := Lib.hid (by rw [List.length_take];have := HPLEN.out;omega)
              have HK34 := Lib.hid hk34
              have HP80 : Hid (p ≤ 80) := Lib.hid (by have h1 := HPLEN.out;have h2 := HOK.out.len;omega)
              have HSX := Lib.hid hSX
              clear hk3 hk4 hk34 hin4 hown4 hm4 hl4 k0 hSX htm hrf4 hrb4
              try rw [show (c.ops.drop k).length = on - k from HDL.out]
              go_wp2_with fail
              (refine ⟨?anew,?_⟩;case anew => ((repeat (refine Reg.anew_cons rfl rfl (fun _ => by go_simp) ?_));exact Reg.anew_nil))
              refine Reg.act rfl ?_
              refine wpList_append_full (E := Rp.opl) rfl _ (.tmp 182) (.tmp 187) 37 rfl 36 96 el_op SX Ao (L1.ops.take p) ?e0 HL4.out A4 c4 (c.ops.drop k) ?e1 HM4.out ?e2 Rp.opl_one ?e3 ?e4 ?_
              case e0 => rw [HTL.out];rfl
              case e1 => rw [HDL.out];rfl
              case e2 => rw [HDL.out];omega
              case e3 => have h1 := HTL.out;have h2 := HP80.out;have h3 := HDL.out;unfold maxLen;omega
              case e4 => have h1 := HTL.out;have h2 := HP80.out;have h3 := HDL.out;omega
              intro A5 c5 w5 hown5 hk5
              have hk05 := HK34.out.trans' hk5
              have hb5l := HIN.out.blk.kept hk05 (fun x => x)
              have k0e := Blk.cell hb5l (i := 0) rfl
              have f0e := Blk.fr hb5l 0
              have hs45 := hk5.size
              obtain ⟨h6,hk6⟩ := HIN.out.replaced hk05 (HK34.out.size) hown5 (fun k hk => by rw [HSX.out] at hk;exact hk.imp id (fun h => h.1)) (fun k hk => by
               rw [HSX.out] at hk
               have h5 := hk05.size
               rcases hk with (h | h) | h
               · have := HIN.out.hi k h;omega
               · have := (HIN.out.ops.lt k h).2;omega
               · omega) (fun k hk e => by
               have h1 := (hown5.lt k e).1
               rw [HSX.out] at hk
               have h5 := HK34.out.size
               rcases hk with (h | h) | h
               · have := HIN.out.hi k h;omega
               · have := (HIN.out.ops.lt k h).2;omega
               · omega)
              have HV5 : Hid (∀ i,(Value.slice A5 (L1.ops.take p ++ c.ops.drop k).length c5).ownBlock = some i → wb.heap.size ≤ i) := Lib.hid (fun i hi => by have := (hown5.lt i hi).1;have h5 := HK34.out.size;omega)
              have hn5 : (L1.ops.take p ++ c.ops.drop k).length = p + (on - k) := by rw [List.length_append,HTL.out,HDL.out]
              rw [hn5] at h6 hk6 HV5
              have H6 := Lib.hid h6
              have HK6 := Lib.hid hk6
              rw [hn5]
              clear hown5 hk5 hk05 hb5l hs45 h6 hk6 k0' t0' z14'
              go_wp2_with fail
              (refine ⟨?anew,?_⟩;case anew => ((repeat (refine Reg.anew_cons rfl rfl (fun _ => by go_simp) ?_));exact Reg.anew_nil))
              repeat (first | (refine Reg.look rfl rfl rfl (by go_simp;rfl) rfl ?_;go_simp) | (refine Reg.skip rfl rfl rfl ?_;go_simp))
              refine Reg.act rfl ?_
              go_wp2_with fail
              (refine ⟨?anew,?_⟩;case anew => ((repeat (refine Reg.anew_cons rfl rfl (fun _ => by go_simp) ?_));exact Reg.anew_nil))
              repeat (first | (refine Reg.look rfl rfl rfl (by go_simp;rfl) rfl ?_;go_simp) | (refine Reg.skip rfl rfl rfl ?_;go_simp))
              (refine Reg.done ?_;simp only [Exit.then])
              obtain ⟨w6,hw6⟩ : ∃ w6,w5.setCell ⟨l,0,none⟩ (.slice A5 (p + (on - k)) c5) = w6 := ⟨_,rfl⟩
              rw [hw6] at H6 HK6
              rw [hw6]
              clear hw6 k0e f0e
              obtain ⟨L5,hL5⟩ : ∃ L5 : LV,{ L1 with lost := LM,settled := M,ops := L1.ops.take p ++ c.ops.drop k } = L5 := ⟨_,rfl⟩
              obtain ⟨F5,hF5⟩ : ∃ F5,RLCore l (.slice A5 (p + (on - k)) c5) gv = F5 := ⟨_,rfl⟩
              have HA9 : Hid (RLAt w6 l L5 F5 SX) := Lib.hid (by rw [← hL5,← hF5];exact ⟨_,_,H6.out,fun k => Iff.rfl⟩)
              have HU9 : Hid (UpdS F S wg w6 F5 SX) := Lib.hid (HU6.out.trans ⟨HK6.out.mono (fun k _ e => (HFT.out k).2 (.inl e)),fun k hk => by
               rw [← hF5] at hk
               rcases hk with h | h | h
               · exact .inl ((HFT.out k).2 (.inl h))
               · exact .inr (HV5.out k h)
               · exact .inl ((HFT.out k).2 (.inr (.inr h))),fun k hk => by
               rw [HSX.out] at hk
               rcases hk with (h | h) | h
               · exact .inl (.inl h)
               · exact .inl (.inr ((HFT.out k).2 (.inr (.inl h))))
               · exact .inr h.1,fun k hk => by rw [HSX.out];exact .inl (.inl hk)⟩)
              have HPT : Hid (P = ((0,la,le),{ L5 with settled := max L5.settled la })) := Lib.hid (by
               rw [← HP4.out,← hL5]
               unfold partL
               have h1 := HOK.out.settled
               have h2 := HSD.out
               have h3 := HM.out
               have h4 := HPLEN.out
               by_cases hle : L1.ops.length ≤ p
               · have hpe : p = L1.ops.length := by omega
                 rw [if_pos hle]
                 have hLMe : LM = L1.lost := by rw [← HLM2.out,List.drop_eq_nil_of_le hle];simp
                 have hMe : M = L1.settled := by rw [← h3,h2];rw [Int.min_def,if_pos (by omega)]
                 rw [hLMe,hMe,List.take_of_length_le hle]
               · rw [if_neg hle]
                 simp only
                 first | rw [HLM2.out,h2,h3] | rw [HLM2.out,h2])
              have HSET2 : Hid (0 ≤ L5.settled ∧ L5.settled ≤ 80) := Lib.hid (by
               rw [← hL5]
               show 0 ≤ M ∧ M ≤ 80
               rw [← HM.out,Int.min_def]
               split <;> omega)
              clear HIN HFT HU6 HA6 HOO HM4 HL4 HK34 HK6 H6 HV5 HSX HP4 hL5 hF5 HM HSD z14 t0
              have HCG := Lib.hid (HCG.out.kept HU9.out.kp (HBIG.out x (Nat.le_refl _)))
              have HDG := Lib.hid (HDG.out.kept HU9.out.kp (HBIG.out (x + 1) (by omega)))
              have HYG := Lib.hid (HYG.out.kept HU9.out.kp (HBIG.out y (by have := HYX.out;omega)))
              have HHG := Lib.hid (Rp.opl.slice.kept HHG.out HU9.out.kp (fun k hk _ => hk.2))
              have HKW : Hid (Kp F w w6) := Lib.hid (HKW.out.trans' HU9.out.kp)
              have HUF : Hid (∀ k,F5 k → F k ∨ y < k) := Lib.hid (fun k hk => (HU9.out.foot k hk).imp id (fun h => by have := HYL.out;omega))
              have HUS : Hid (∀ k,SX k → (S k ∨ F k) ∨ y < k) := Lib.hid (fun k hk => (HU9.out.sfoot k hk).imp id (fun h => by have := HYL.out;omega))
              have HMS : Hid (∀ k,S k → SX k) := Lib.hid HU9.out.more
              have HAG := HA9
              obtain ⟨Ao',hAo'⟩ : ∃ v,some ad = v := ⟨_,rfl⟩
              rw [hAo'] at HCG HHG
              clear HA9 hset1 hset2
              obtain ⟨wg,rfl⟩ : ∃ v,v = w6 := ⟨_,rfl⟩
              obtain ⟨sd,hsd⟩ : ∃ sd,(L5).settled = sd := ⟨_,rfl⟩
              have HSD := Lib.hid hsd
              have hset := HSET2.out
              rw [hsd] at hset
              obtain ⟨hset1,hset2⟩ := hset
              clear hsd
              have z14 : wg.cell? ⟨x,14,none⟩ = some (.slice Ao' on cb) := HON.out ▸ Blk.cell HCG.out rfl
              go_upto_if 194 with fail
              go_cut [7] (fun _ wx => Hid (Blk wx y 42 [.int .i64 la,.int .i64 le]) ∧ Hid (Kp (· = y) wg wx))
              case first =>
               have hlast := HLA.out
               unfold lastAt at hlast
               rcases Nat.eq_zero_or_pos on with h0 | h0
               · subst h0
                 have hnil : c.ops = [] := List.eq_nil_of_length_eq_zero HON.out
                 rw [hnil] at hlast
                 simp only [List.getLast?_nil,Prod.mk.injEq] at hlast
                 obtain ⟨hl1,hl2⟩ := hlast
                 have HY8 : Hid (Blk wg y 42 [.int .i64 la,.int .i64 le]) := Lib.hid (by rw [← hl1,← hl2,HAN.out,HAE.out];exact HYG.out)
                 clear hnil hl1 hl2
                 go_wp2_with fail
                 all_goals go_meet
                 all_goals exact ⟨HY8,Lib.hid (Kp.refl _ _)⟩
               · obtain ⟨m,rfl⟩ : ∃ m,on = m + 1 := ⟨on - 1,by omega⟩
                 obtain ⟨o,ho⟩ : ∃ o,c.ops[m]? = some o := ⟨_,List.getElem?_eq_getElem (by have := HON.out;omega)⟩
                 have hgl : c.ops.getLast? = some o := by rw [List.getLast?_eq_getElem?,HON.out];exact ho
                 rw [hgl] at hlast
                 simp only [Prod.mk.injEq] at hlast
                 obtain ⟨hl1,hl2⟩ := hlast
                 have HL12 : Hid (o.n = la ∧ o.epoch = le) := Lib.hid ⟨hl1,hl2⟩
                 have hread : Rp.opl.slice.R wg (Free F w) [.slice Ao' c.ops.length cb] c.ops := by rw [HON.out];exact HHG.out
                 obtain ⟨ad,A2,c2,rfl,_,hcell,hnum,_⟩ := Rp.at_opl hread ho
                 obtain ⟨y0,y1,y2,y3,y4,y5,y6,y7,y8⟩ := opl_cells hcell
                 obtain ⟨nh,hnh⟩ : ∃ nh,o.hashes.length = nh := ⟨_,rfl⟩
                 rw [hnh] at y8
                 have hm9 : m ≤ 8 := by omega
                 have hwm : IntKind.i64.wrap (m : Int) = (m : Int) := by rw [IntKind.wrap_i64];omega
                 have hmlt : (m : Int) < (m : Int) + 1 := by omega
                 have hm0 : (0 : Int) < (m : Int) + 1 := by omega
                 clear ho hgl hread hcell hnum hnh h0 hl1 hl2
                 go_upto_region 24 with fail
                 go_cut [11] (fun bv wx => ∃ t,bv = .pointer (some ⟨t,0,none⟩) ∧ Hid (Blk wx t 36 (o.cells (.slice A2 nh c2))) ∧ Hid (Kp No wg wx))
                 case first =>
                  go_wp2_with fail
                  go_meet
                  exact ⟨_,rfl,Lib.hid (Blk.new wg _ _),Lib.hid ((Kp.refl _ _).alloc _)⟩
                 case rest =>
                  obtain ⟨t,rfl,HT,HKT⟩ := hcut
                  clear_value *
                  as_aux_lemma =>
                  clear y0 y1 y2 y3 y4 y5 y6 y7 y8 z14
                  have hyw := HYG.out.kept HKT.out (fun h => h)
                  have s0 : wc.cell? ⟨y,0,none⟩ = some _ := Blk.cell hyw rfl
                  have s1 : wc.cell? ⟨y,1,none⟩ = some _ := Blk.cell hyw rfl
                  have g0 := Blk.fr hyw 0
                  have g1 := Blk.fr hyw 1
                  have y0 : wc.cell? ⟨t,0,none⟩ = some _ := Blk.cell HT.out rfl
                  have y1 : wc.cell? ⟨t,1,none⟩ = some _ := Blk.cell HT.out rfl
                  have y2 : wc.cell? ⟨t,2,none⟩ = some _ := Blk.cell HT.out rfl
                  have y3 : wc.cell? ⟨t,3,none⟩ = some _ := Blk.cell HT.out rfl
                  have HY9 : Hid (Blk ((wc.setCell ⟨y,0,none⟩ (.int .i64 o.n)).setCell ⟨y,1,none⟩ (.int .i64 o.epoch)) y 42 [.int .i64 la,.int .i64 le]) := Lib.hid (by rw [← HL12.out.1,← HL12.out.2];exact Blk.set (Blk.set hyw 0 _) 1 _)
                  have HK9 : Hid (Kp (· = y) wg ((wc.setCell ⟨y,0,none⟩ (.int .i64 o.n)).setCell ⟨y,1,none⟩ (.int .i64 o.epoch))) := Lib.hid (((HKT.out.any : Kp (· = y) wg wc).setCell (p := ⟨y,0,none⟩) (fun _ => rfl) _).setCell (p := ⟨y,1,none⟩) (fun _ => rfl) _)
                  clear hyw
                  go_wp2_with fail
                  go_meet
                  exact ⟨HY9,HK9⟩
              case rest =>
               obtain ⟨HYM,HKM⟩ := hcut
               clear z14
               have hyx1 : y ≠ x ∧ y ≠ x + 1 := by have := HYX.out;omega
               have hfy : ∀ k,F5 k ∨ SX k → k ≠ y := fun k hk e => by
                have h1 := HYX.out
                have h2 := HX.out
                rcases hk with hk | hk
                · rcases HUF.out k hk with h | h
                  · have := HFLT.out k (.inl h);omega
                  · omega
                · rcases HUS.out k hk with (h | h) | h
                  · have := HFLT.out k (.inr h);omega
                  · have := HFLT.out k (.inl h);omega
                  · omega
               have hfd : ∀ k,F5 k ∨ SX k → k ≠ x + 1 := fun k hk e => by
                have h1 := HYX.out
                have h2 := HX.out
                rcases hk with hk | hk
                · rcases HUF.out k hk with h | h
                  · have := HFLT.out k (.inl h);omega
                  · omega
                · rcases HUS.out k hk with (h | h) | h
                  · have := HFLT.out k (.inr h);omega
                  · have := HFLT.out k (.inl h);omega
                  · omega
               have HAG := Lib.hid (HAG.out.kept HKM.out hfy)
               have HDG := Lib.hid (HDG.out.kept HKM.out (fun e => hyx1.2 e.symm))
               have HKW : Hid (Kp F w wc) := Lib.hid (HKW.out.trans HKM.out (fun i hi e => by have h2 := HYX.out;have h3 := HX.out;omega))
               have HYG := HYM
               have HFD := Lib.hid hfd
               have HFY := Lib.hid hfy
               clear HYM HKM hfy hfd hyx1
               obtain ⟨wg,rfl⟩ : ∃ v,v = wc := ⟨_,rfl⟩
               obtain ⟨M,hM⟩ : ∃ M,max sd la = M := ⟨_,rfl⟩
               have HM := Lib.hid hM
               go_upto_region 26 with fail
               obtain ⟨wd,hwd⟩ : ∃ v,wg.drew = v := ⟨_,rfl⟩
               have HKC : Hid (Kp No wg wd) := Lib.hid (by rw [← hwd];exact (Kp.refl _ _).drew)
               have HAG := Lib.hid (HAG.out.keptNo HKC.out)
               have HDG := Lib.hid (HDG.out.kept HKC.out (fun h => h))
               have HYG := Lib.hid (HYG.out.kept HKC.out (fun h => h))
               have HKW : Hid (Kp F w wd) := Lib.hid (HKW.out.trans HKC.out (fun _ _ h => h.elim))
               obtain ⟨Ao,co,gv,hbl,hat⟩ := HAG.out.at_
               have k3 : wd.cell? ⟨l,3,none⟩ = some (.int .i64 sd) := HSD.out ▸ Blk.cell hbl rfl
               have f3 := Blk.fr hbl 3
               have t0 : wd.cell? ⟨y,0,none⟩ = some (.int .i64 la) := Blk.cell HYG.out rfl
               clear hbl hat
               refine Reg.wp_region_plan [⟨0,false,[]⟩,⟨1,false,[]⟩,⟨2,false,[]⟩,⟨3,false,[]⟩,⟨4,false,[]⟩,⟨5,false,[]⟩,⟨6,false,[]⟩,⟨7,false,[]⟩,⟨8,false,[]⟩,⟨9,false,[]⟩,⟨10,true,[]⟩] rfl (by as_aux_lemma => kernel_rfl) ?_
               rw [hwd]
               clear hwd
               repeat (first | (refine Reg.look rfl rfl rfl (by go_simp;rfl) rfl ?_;go_simp) | (refine Reg.skip rfl rfl rfl ?_;go_simp))
               refine Reg.act rfl ?_
               go_wp2_with fail
               (refine ⟨?anew,?_⟩;case anew => ((repeat (refine Reg.anew_cons rfl rfl (fun _ => by go_simp) ?_));exact Reg.anew_nil))
               repeat (first | (refine Reg.look rfl rfl rfl (by go_simp;rfl) rfl ?_;go_simp) | (refine Reg.skip rfl rfl rfl ?_;go_simp))
               (refine Reg.done ?_;simp only [Exit.then])
               have hks : Kp (· = l) wd (wd.setCell ⟨l,3,none⟩ (.int .i64 M)) := (Kp.refl (· = l) wd).setCell (p := ⟨l,3,none⟩) (fun _ => rfl) _
               have hA6 := HAG.out.settled M
               have hD6 := HDG.out.kept hks (fun e => HFD.out l (.inl HAG.out.self) e.symm)
               have hY6 := HYG.out.kept hks (fun e => HFY.out l (.inl HAG.out.self) e.symm)
               have hK6 : Kp F w (wd.setCell ⟨l,3,none⟩ (.int .i64 M)) := HKW.out.trans hks (fun i hi e => by
                rcases HUF.out l HAG.out.self with h | h
                · exact e ▸ h
                · have h2 := HYX.out;have h3 := HX.out;omega)
               clear HKC HKW HAG HDG HYG k3 f3 t0 hM
               obtain ⟨wg,hw6⟩ : ∃ w6,wd.setCell ⟨l,3,none⟩ (.int .i64 M) = w6 := ⟨_,rfl⟩
               rw [hw6] at hA6 hD6 hY6 hK6
               rw [hw6]
               clear hw6 hks
               have HAG := Lib.hid hA6
               have HDG := Lib.hid hD6
               have HKW := Lib.hid hK6
               have t0 : wg.cell? ⟨y,0,none⟩ = some (.int .i64 la) := Blk.cell hY6 rfl
               have t1 : wg.cell? ⟨y,1,none⟩ = some (.int .i64 le) := Blk.cell hY6 rfl
               clear hA6 hD6 hY6 hK6
               have hd9 := HDG.out
               have g0 := Blk.fr hd9 0
               have g1 := Blk.fr hd9 1
               have g2 := Blk.fr hd9 2
               have u0 : wg.cell? ⟨x + 1,0,none⟩ = some _ := Blk.cell hd9 rfl
               have u1 : wg.cell? ⟨x + 1,1,none⟩ = some _ := Blk.cell hd9 rfl
               have u2 : wg.cell? ⟨x + 1,2,none⟩ = some _ := Blk.cell hd9 rfl
               clear hd9
               go_wp2_with fail
               clear g0 g1 g2 u0 u1 u2 t0 t1
               obtain ⟨hkf,hbf⟩ := done_stored HDG.out (.int .i64 0) (.int .i64 la) (.int .i64 le)
               have hwx : w.heap.size = x := HX.out
               have hyx : x + 2 ≤ y := HYX.out
               have hAf := HAG.out.kept hkf (fun k hk e => HFD.out k hk e)
               have hKf := HKW.out.trans hkf (fun i hi e => absurd hi (by omega))
               have hPe : P = ((0,la,le),{ L5 with settled := M }) := by rw [HPT.out,← HM.out,← HSD.out]
               subst hPe
               exact bodyPost_ret (results_cell_row rfl _ _ (x + 1) _ _ _ _ rfl hbf Tryz.underlying44 rfl (by as_aux_lemma => kernel_rfl)) rfl ⟨rfl,F5,SX,hAf,⟨hKf,fun k hk => (HUF.out k hk).imp id (fun h => by omega),fun k hk => (HUS.out k hk).imp id (fun h => by omega),HMS.out⟩⟩
end Go.Proofs.YtjlbacfedfkilaaGreat
