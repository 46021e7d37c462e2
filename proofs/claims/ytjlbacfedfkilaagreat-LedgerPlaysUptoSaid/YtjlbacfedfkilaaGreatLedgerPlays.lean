/-
  In every order of commands a ledger answers as the document says, and has what it says; what is handed in isn't kept, what is told is its own: LedgerPlays answers true for every input of bulk at most 1048576. (Said is false BY SIZE.)
-/
import Derived.Test.YtjlbacfedfkilaaGreatAwk12
import Derived.Test.YtjlbacfedfkilaaGreatGO
import Derived.Test.YtjlbacfedfkilaaGreatSameA
import Derived.Test.YtjlbacfedfkilaaGreatTwoR
import Derived.Test.YtjlbacfedfkilaaGreatFLedgerPlays
import Derived.Deep.DeepCutAuto
namespace Go.Proofs.YtjlbacfedfkilaaGreat
open Go.RowKit Go.ChangeShapes Go.WideShapes Go.ChangeAt
set_option maxRecDepth 100000 in
set_option maxHeartbeats 40000000 in
theorem ledgerPlaysUpto_walk : LedgerPlaysUptoWalk := by
 intro W v0 q v1 r0 v2 script h0 h1 h2 hμ
 obtain ⟨hv0,_⟩ := h0
 obtain ⟨hv1,_⟩ := h1
 obtain ⟨As,cas,hv2,_⟩ := id h2
 simp only [List.cons.injEq,and_true] at hv0 hv1 hv2
 subst hv0 hv1 hv2
 have hμ2 : Rp.cmd.slice.μ script ≤ 1048576 := by omega
 have hsm := cmds_small hμ2
 have hgs : ∀ w,Kp No W w → Calls Tryz.prog 10 #[.slice As script.length cas] w fun e w' => GreatS script e ∧ Kp No w w' := fun w hk => h_great12S script As cas w _ (Rp.cmd.slice.keptNo h2 hk) hsm
 have HSCR := Lib.hid h2
 have HGS := Lib.hid hgs
 clear h2 hμ hμ2 hsm hgs
 by_cases hnew : newP q r0
 case neg =>
  have HNB := Lib.hid (fun w => a_new_bad q r0 w hnew)
  have HNC := Lib.hid (fun w => r_lnew_bad q r0 w hnew)
  clear hnew
  go_enter Tryz.func3,Tryz.ntmps3
  go_wp2_with fail
  refine (HNB.out _).mono ?_
  rintro e w1 ⟨rfl,rfl⟩
  go_wp2_with fail
  refine (HNC.out _).mono ?_
  rintro e w2 ⟨rfl,rfl⟩
  go_wp2_with fail
  refine (h_awake12 _).mono ?_
  rintro e w3 ⟨rfl,hk3⟩
  have HK3 := Lib.hid hk3
  clear hk3
  go_wp2_with fail
  go_ret
  exact ⟨rfl,HK3.out⟩
 case pos =>
  have HNB := Lib.hid (fun w => a_new q r0 w hnew)
  have HNC := Lib.hid (fun w => r_lnew q r0 w hnew)
  have HOK0 := Lib.hid (newL_ok hnew)
  clear hnew
  go_enter Tryz.func3,Tryz.ntmps3
  go_wp2_with fail
  refine (HNB.out W).mono ?_
  rintro e w1 ⟨l,F,rfl,hl,hF,hk1⟩
  have HL1 := Lib.hid hl
  have HF1 := Lib.hid hF
  have HK1 := Lib.hid hk1
  clear hl hF hk1 HNB
  go_wp2_with fail
  refine (HNC.out w1).mono ?_
  rintro e w2 ⟨r,FR,rfl,hr,hFR,hk2⟩
  have HB2 : Hid (Both W w2 l r (newL q r0)) := Lib.hid ⟨⟨F,FR,No,HL1.out.keptNo hk2,hr,fun k hk => by
   have h1 := HK1.out.size
   rcases hk with hk | hk | hk
   · exact HF1.out k hk
   · have := hFR k hk;omega
   · exact hk.elim,fun k hk hR => by
   rcases hR with hR | hR
   · have h1 := HL1.out.ltF k hk;have := hFR k hR;omega
   · exact hR⟩,HK1.out.trans' hk2⟩
  clear hr hFR hk2 HNC HL1 HF1 HK1
  go_wp2_with fail
  refine (h_awake12 w2).mono ?_
  rintro e w3 ⟨rfl,hk3⟩
  have HB3 := Lib.hid (HB2.out.keptNo hk3)
  clear hk3 HB2
  go_wp2_with fail
  refine (HGS.out w3 HB3.out.kp).mono ?_
  rintro e w4 ⟨⟨b,rfl,hsm⟩,hk4⟩
  have HSM := Lib.hid hsm
  have HB4 := Lib.hid (HB3.out.keptNo hk4)
  clear hk4 HB3 hsm HGS
  cases b
  case true =>
   clear HSM
   go_wp2_with fail
   go_ret
   exact ⟨rfl,HB4.out.kp⟩
  obtain ⟨hsn,hs2⟩ := HSM.out (by first | rfl | trivial)
  have HS200 := Lib.hid hs2
  have hn200 : (script.length : Int) ≤ 200 := by omega
  clear HSM hs2
  go_wp2_with fail
  go_loopw [53] (fun iv wr => ∃ (i : Nat) (L : LV),i ≤ script.length ∧ iv = .int .i64 (i : Int) ∧ Hid (OkL (80 * i) L) ∧ Hid (LostOk L) ∧ Hid (Both W wr l r L)) (fun iv _ => script.length - (intOf iv).toNat)
  case atStart => exact ⟨0,newL q r0,Nat.zero_le _,rfl,HOK0,Lib.hid (LostOk.new q r0),HB4⟩
  case round =>
   clear HB4 HOK0
   rename_i q1 q2 q3 yQ yK yH
   obtain ⟨i,L,hi,rfl,HOKL,HLOK,HB⟩ := hrel
   by_cases hlt : i < script.length
   case neg =>
    obtain rfl : i = script.length := by omega
    go_wp2_with fail
    go_ret
    exact ⟨rfl,HB.out.kp⟩
   case pos =>
    revert yQ
    as_aux_lemma =>
     intros
     obtain ⟨wo,rfl⟩ : ∃ v,v = wr := ⟨_,rfl⟩
     have hli : (i : Int) < (script.length : Int) := by omega
     have hi0 : (0 : Int) ≤ (i : Int) := by omega
     obtain ⟨c,hoi⟩ : ∃ o,script[i]? = some o := ⟨_,List.getElem?_eq_getElem hlt⟩
     obtain ⟨ad,A',c',B',d',rfl,_,hcell,hon,hoh,hoo⟩ := Rp.at_cmd (Rp.cmd.slice.keptNo HSCR.out HB.out.kp) hoi
     obtain ⟨z0,z1,z2,z3,z4,z5,z6,z7,z8,z9,z10,z11,z12,z13,z14,z15⟩ := cmd_cells hcell
     have hso := (HS200.out c (List.mem_of_getElem? hoi)).mono (m' := 1000000) (k' := 1000000) (by omega) (by omega)
     have hhl : c.op.hashes.length ≤ 8192 := (HS200.out c (List.mem_of_getElem? hoi)).1
     have hol : c.ops.length ≤ 100 := (HS200.out c (List.mem_of_getElem? hoi)).2.1
     obtain ⟨F,FR,SR,hl,hr,hge,hap⟩ := HB.out.ex
     have hBk := HB.out.kp
     have how := fun w (hk : Kp No wo w) => r_ownF c A' B' c' d' w _ hon (Rp.str.slice.keptNo hoh hk) (Rp.opl.slice.keptNo hoo hk) hso.1 hso.2.1 hso.2.2
     have hbd := bounds_I64 hon.2.2.2.1.2.2.2.2.2.2.2
     have hok2 := (apply_ok HOKL.out c).mono (show 80 * i + 80 ≤ 80 * (i + 1) by omega)
     have hlk2 := HLOK.out.apply HOKL.out c
     obtain ⟨⟨⟨p0,p1,p2⟩,L'⟩,hP⟩ : ∃ P,applyL c L = P := ⟨_,rfl⟩
     rw [hP] at hok2 hlk2
     have hap1 : ∀ (w5 w : World) (A3 B3 : Option Addr) (c3 d3 n0 : Nat),Kp No wo w5 → Kp No w5 w → wo.heap.size ≤ n0 → Rp.str.slice.R w (fun k => n0 ≤ k) [.slice A3 c.op.hashes.length c3] c.op.hashes → Rp.opl.slice.R w (fun k => n0 ≤ k) [.slice B3 c.ops.length d3] c.ops →
      Calls Tryz.prog 12 #[.pointer (some ⟨l,0,none⟩),cmdV c (.slice A3 c.op.hashes.length c3) (.slice B3 c.ops.length d3)] w fun x w' => x = .returned (doneV (p0,p1,p2)) ∧ ∃ F',LAt w' l L' F' ∧ Upd F w w' F' := by
      intro w5 w A3 B3 c3 d3 n0 hk5 hk hn0 hr1 hr2
      have h := a_apply c A3 B3 c3 d3 _ (80 * i) l L F w (hl.keptNo (hk5.trans' hk)) HOKL.out (by omega) hr1 hr2 (fun k hk _ hF => by have h1 := hl.ltF k hF;have h2 : n0 ≤ k := hk;omega) hbd hso.1 hso.2.1 hso.2.2
      rw [hP] at h
      exact h
     have hap2 : ∀ (w : World),Kp F wo w → RLAt w r L FR SR → Calls Tryz.prog 13 #[.pointer (some ⟨r,0,none⟩),cmdV c (.slice A' c.op.hashes.length c') (.slice B' c.ops.length d')] w fun x w' => x = .returned (doneV (p0,p1,p2)) ∧ ∃ F' S',RLAt w' r L' F' S' ∧ UpdS FR SR w w' F' S' := by
      intro w hk hr6
      have h := r_lapply c A' B' c' d' (fun k => k < W.heap.size) (80 * i) r L FR SR w hr6 HOKL.out (by omega) (Rp.str.slice.kept hoh hk (fun k hk _ hF => by have h1 := hge k (.inl hF);have h2 : k < W.heap.size := hk;omega)) (Rp.opl.slice.kept hoo hk (fun k hk _ hF => by have h1 := hge k (.inl hF);have h2 : k < W.heap.size := hk;omega)) (fun k hk _ hF => by have h1 := hge k (.inr (.inl hF));have h2 : k < W.heap.size := hk;omega) hbd hso.1 hso.2.1 hso.2.2
      rw [hP] at h
      exact h
     have hrk : ∀ w,Kp F wo w → RLAt w r L FR SR := fun w hk => hr.kept hk (fun k hR hF => hap k hF hR)
     have hFlt : ∀ k,F k → k < wo.heap.size := hl.ltF
     have hFRlt : ∀ k,FR k → k < wo.heap.size := fun k h => hr.lt (.inl h)
     have hbs : ∀ (w5 w6 w7 : World) (F' FR' SR' : Nat → Prop),Kp No wo w5 → LAt w6 l L' F' → Upd F w5 w6 F' → RLAt w7 r L' FR' SR' → UpdS FR SR w6 w7 FR' SR' → (∃ F FR SR,LAt w7 l L' F ∧ RLAt w7 r L' FR SR ∧ (∀ k,F k ∨ FR k ∨ SR k → W.heap.size ≤ k ∧ (k < wo.heap.size ∨ w5.heap.size ≤ k)) ∧ ∀ k,F k → ¬ (FR k ∨ SR k)) ∧ Kp No W w7 := fun w5 w6 w7 F' FR' SR' hk a b c d => Both.step hl hr hge hap hBk hk a b c d
     have hlt6 : (fun k => F k) = F := rfl
     have HOW := Lib.hid how
     have HAP1 := Lib.hid hap1
     have HAP2 := Lib.hid hap2
     have HRK := Lib.hid hrk
     have HFL := Lib.hid hFlt
     have HFRL := Lib.hid hFRlt
     have HBS := Lib.hid hbs
     have HOK2 := Lib.hid hok2
     have HLK2 := Lib.hid hlk2
     have HW0 : Hid (W.heap.size ≤ wo.heap.size) := Lib.hid hBk.size
     have HHO : Hid (∀ o ∈ L'.ops,o.hashes.length ≤ 8) := Lib.hid (fun o ho => (hok2.okOf ho).hashes)
     have hl80 := hok2.len
     clear hcell hon hoh hoo hso hoi hl hr hge hap hBk how hbd hok2 hlk2 hP hap1 hap2 hrk hFlt hFRlt hbs hlt6 HB HOKL HLOK
     obtain ⟨ck,ep,st,⟨on,oe,ok,os,oc,oq,onm,osz,ohs⟩,an,ae,ops,tg⟩ := c
     unfold cmdV doneV at *
     simp only at *
     -- the round
     have hohl : (ohs.length : Int) ≤ 8192 := by omega
     have hopl : (ops.length : Int) ≤ 100 := by omega
     have h80 : (L'.ops.length : Int) ≤ 80 := by omega
     obtain ⟨no,hno⟩ : ∃ v,wo.heap.size = v := ⟨_,rfl⟩
     have HNO := Lib.hid hno
     rw [hno] at HW0
     clear hno
     go_upto_region 9 with fail
     go_cut [12] (fun v wx => ∃ x,v = .pointer (some ⟨x,0,none⟩) ∧ x = no ∧ Hid (Blk wx x 39 [.int .i64 ck,.int .i64 ep,.int .i64 st,.int .i64 on,.int .i64 oe,.int .i64 ok,.int .i64 os,.int .i64 oc,.int .i64 oq,.string onm,.int .i64 osz,.slice A' ohs.length c',.int .i64 an,.int .i64 ae,.slice B' ops.length d',.int .i64 tg]) ∧ Hid (Kp No wo wx) ∧ Hid (wx.heap.size = no + 1))
     case first =>
      clear_value *
      as_aux_lemma =>
       obtain ⟨x,hx⟩ : ∃ v,wo.heap.size = v := ⟨_,rfl⟩
       obtain ⟨wa,hwa⟩ : ∃ wa,wo.alloc (.cells #[.int .i64 ck,.int .i64 ep,.int .i64 st,.int .i64 on,.int .i64 oe,.int .i64 ok,.int .i64 os,.int .i64 oc,.int .i64 oq,.string onm,.int .i64 osz,.slice A' ohs.length c',.int .i64 an,.int .i64 ae,.slice B' ops.length d',.int .i64 tg] 39) = wa := ⟨_,rfl⟩
       have hka : Kp No wo wa := by rw [← hwa];exact (Kp.refl _ _).alloc _
       have hsa : wa.heap.size = wo.heap.size + 1 := by rw [← hwa];simp
       have HBX : Hid (Blk wa x 39 [.int .i64 ck,.int .i64 ep,.int .i64 st,.int .i64 on,.int .i64 oe,.int .i64 ok,.int .i64 os,.int .i64 oc,.int .i64 oq,.string onm,.int .i64 osz,.slice A' ohs.length c',.int .i64 an,.int .i64 ae,.slice B' ops.length d',.int .i64 tg]) := Lib.hid (by rw [← hwa,← hx];exact Blk.new wo _ _)
       have HKA := Lib.hid hka
       have HSA := Lib.hid (hsa.trans (congrArg (· + 1) HNO.out))
       have HXE := Lib.hid (hx.symm.trans HNO.out)
       clear hka hsa
       go_wp2_with fail
       try rw [hwa]
       try rw [hx]
       go_meet
       exact ⟨x,rfl,HXE.out,HBX,HKA,HSA⟩
     case rest =>
      clear z0 z1 z2 z3 z4 z5 z6 z7 z8 z9 z10 z11 z12 z13 z14 z15
      obtain ⟨x,rfl,HXE0,HBX,HKA,HSA⟩ := hcut
      have HXE := Lib.hid HXE0
      clear HXE0
      obtain ⟨wa,rfl⟩ : ∃ v,v = wc := ⟨_,rfl⟩
      go_upto_region 10 with fail
      go_cut [13] (fun v wx => ∃ (y : Nat) (A2 B2 : Option Addr) (c2 d2 : Nat),v = .pointer (some ⟨y,0,none⟩) ∧ Hid (Blk wx y 39 [.int .i64 ck,.int .i64 ep,.int .i64 st,.int .i64 on,.int .i64 oe,.int .i64 ok,.int .i64 os,.int .i64 oc,.int .i64 oq,.string onm,.int .i64 osz,.slice A2 ohs.length c2,.int .i64 an,.int .i64 ae,.slice B2 ops.length d2,.int .i64 tg]) ∧ Hid (Blk wx x 39 [.int .i64 ck,.int .i64 ep,.int .i64 st,.int .i64 on,.int .i64 oe,.int .i64 ok,.int .i64 os,.int .i64 oc,.int .i64 oq,.string onm,.int .i64 osz,.slice A' ohs.length c',.int .i64 an,.int .i64 ae,.slice B' ops.length d',.int .i64 tg]) ∧ Hid (Kp No wo wx) ∧ Hid (Rp.str.slice.R wx (fun k => no + 1 ≤ k) [.slice A2 ohs.length c2] ohs) ∧ Hid (Rp.opl.slice.R wx (fun k => no + 1 ≤ k) [.slice B2 ops.length d2] ops) ∧ Hid (Soft wx (fun k => no + 1 ≤ k ∧ k < y) (.slice A2 ohs.length c2) ohs.length) ∧ Hid (ops.length = 0 ∨ ∃ g m,B2 = some ⟨g,0,none⟩ ∧ no + 1 ≤ g ∧ g < y ∧ Turns wx g m ∧ ops.length * 9 ≤ m) ∧ Hid (no < y ∧ wx.heap.size = y + 1))
      case first =>
       clear_value *
       as_aux_lemma =>
        have hbx := HBX.out
        have z0 : wa.cell? ⟨x,0,none⟩ = some _ := Blk.cell hbx rfl
        have z1 : wa.cell? ⟨x,1,none⟩ = some _ := Blk.cell hbx rfl
        have z2 : wa.cell? ⟨x,2,none⟩ = some _ := Blk.cell hbx rfl
        have z3 : wa.cell? ⟨x,3,none⟩ = some _ := Blk.cell hbx rfl
        have z4 : wa.cell? ⟨x,4,none⟩ = some _ := Blk.cell hbx rfl
        have z5 : wa.cell? ⟨x,5,none⟩ = some _ := Blk.cell hbx rfl
        have z6 : wa.cell? ⟨x,6,none⟩ = some _ := Blk.cell hbx rfl
        have z7 : wa.cell? ⟨x,7,none⟩ = some _ := Blk.cell hbx rfl
        have z8 : wa.cell? ⟨x,8,none⟩ = some _ := Blk.cell hbx rfl
        have z9 : wa.cell? ⟨x,9,none⟩ = some _ := Blk.cell hbx rfl
        have z10 : wa.cell? ⟨x,10,none⟩ = some _ := Blk.cell hbx rfl
        have z11 : wa.cell? ⟨x,11,none⟩ = some _ := Blk.cell hbx rfl
        have z12 : wa.cell? ⟨x,12,none⟩ = some _ := Blk.cell hbx rfl
        have z13 : wa.cell? ⟨x,13,none⟩ = some _ := Blk.cell hbx rfl
        have z14 : wa.cell? ⟨x,14,none⟩ = some _ := Blk.cell hbx rfl
        have z15 : wa.cell? ⟨x,15,none⟩ = some _ := Blk.cell hbx rfl
        clear hbx
        go_wp2_with fail
        refine (HOW.out wa HKA.out).mono ?_
        rintro e w5 ⟨A2,c2,B2,d2,rfl,hr1,hr2,hsf,hof,hk5⟩
        clear z0 z1 z2 z3 z4 z5 z6 z7 z8 z9 z10 z11 z12 z13 z14 z15
        rw [HSA.out] at hr1 hr2 hsf hof
        obtain ⟨y,hy⟩ : ∃ v,w5.heap.size = v := ⟨_,rfl⟩
        obtain ⟨wb,hwb⟩ : ∃ v,w5.alloc (.cells #[.int .i64 ck,.int .i64 ep,.int .i64 st,.int .i64 on,.int .i64 oe,.int .i64 ok,.int .i64 os,.int .i64 oc,.int .i64 oq,.string onm,.int .i64 osz,.slice A2 ohs.length c2,.int .i64 an,.int .i64 ae,.slice B2 ops.length d2,.int .i64 tg] 39) = v := ⟨_,rfl⟩
        have hkb : Kp No w5 wb := by rw [← hwb];exact (Kp.refl _ _).alloc _
        have hsb : wb.heap.size = y + 1 := by rw [← hwb,← hy];simp
        have HBY : Hid (Blk wb y 39 [.int .i64 ck,.int .i64 ep,.int .i64 st,.int .i64 on,.int .i64 oe,.int .i64 ok,.int .i64 os,.int .i64 oc,.int .i64 oq,.string onm,.int .i64 osz,.slice A2 ohs.length c2,.int .i64 an,.int .i64 ae,.slice B2 ops.length d2,.int .i64 tg]) := Lib.hid (by rw [← hwb,← hy];exact Blk.new w5 _ _)
        have HBX2 := Lib.hid ((HBX.out.kept hk5 (fun z => z)).kept hkb (fun z => z))
        have HKD := Lib.hid (HKA.out.trans' (hk5.trans' hkb))
        have HR1 := Lib.hid (Rp.str.slice.keptNo hr1 hkb)
        have HR2 := Lib.hid (Rp.opl.slice.keptNo hr2 hkb)
        have HSF : Hid (Soft wb (fun k => no + 1 ≤ k ∧ k < y) (.slice A2 ohs.length c2) ohs.length) := Lib.hid ((hsf.bnd.kept hkb (fun _ _ _ z => z)).keep (fun k hk => ⟨hk.1,by have := hk.2;omega⟩) (fun _ _ => rfl))
        have HTU : Hid (ops.length = 0 ∨ ∃ g m,B2 = some ⟨g,0,none⟩ ∧ no + 1 ≤ g ∧ g < y ∧ Turns wb g m ∧ ops.length * 9 ≤ m) := Lib.hid (by
         rcases Nat.eq_zero_or_pos ops.length with h0 | h0
         · exact .inl h0
         · obtain ⟨g,m,e1,e2,e3,e4,e5⟩ := hof.turns h0
           exact .inr ⟨g,m,e1,e2,by omega,e4.kept hkb (fun z => z),e5⟩)
        have HSZ : Hid (no < y ∧ wb.heap.size = y + 1) := Lib.hid ⟨by have := hk5.size;have := HSA.out;omega,hsb⟩
        clear hr1 hr2 hsf hof hk5 hkb hsb
        go_wp2_with fail
        try rw [hwb]
        try rw [hy]
        go_meet
        exact ⟨y,A2,B2,c2,d2,rfl,HBY,HBX2,HKD,HR1,HR2,HSF,HTU,HSZ⟩
      case rest =>
       obtain ⟨y,A2,B2,c2,d2,rfl,HBY,HBX,HKD,HR1,HR2,HSF,HTU,HSZ⟩ := hcut
       clear HKA HSA HOW
       obtain ⟨wb,rfl⟩ : ∃ v,v = wc := ⟨_,rfl⟩
       go_upto_region 11 with fail
       go_cut [65] (fun b w7 => b = .bool false ∧ Hid (∃ F FR SR,LAt w7 l L' F ∧ RLAt w7 r L' FR SR ∧ (∀ k,F k ∨ FR k ∨ SR k → W.heap.size ≤ k ∧ (k < no ∨ y + 1 ≤ k)) ∧ ∀ k,F k → ¬ (FR k ∨ SR k)) ∧ Hid (Kp No W w7) ∧ Hid (Blk w7 y 39 [.int .i64 ck,.int .i64 ep,.int .i64 st,.int .i64 on,.int .i64 oe,.int .i64 ok,.int .i64 os,.int .i64 oc,.int .i64 oq,.string onm,.int .i64 osz,.slice A2 ohs.length c2,.int .i64 an,.int .i64 ae,.slice B2 ops.length d2,.int .i64 tg]) ∧ Hid (ops.length = 0 ∨ ∃ g m,B2 = some ⟨g,0,none⟩ ∧ no ≤ g ∧ g < y ∧ Turns w7 g m ∧ ops.length * 9 ≤ m) ∧ Hid (Soft w7 (fun k => no ≤ k ∧ k < y) (.slice A2 ohs.length c2) ohs.length) ∧ Hid (y + 1 ≤ w7.heap.size))
       case first =>
        clear_value *
        as_aux_lemma =>
         obtain ⟨wd,hwd⟩ : ∃ v,wb.drew = v := ⟨_,rfl⟩
         have hkd : Kp No wb wd := by rw [← hwd];exact (Kp.refl _ _).drew
         have hsd : wd.heap.size = y + 1 := by rw [← hwd];exact HSZ.out.2
         have HSD := Lib.hid hsd
         have HKB := Lib.hid hkd
         have HKDD := Lib.hid (HKD.out.trans' hkd)
         have HBX2 := Lib.hid (HBX.out.kept hkd (fun z => z))
         have HBY2 := Lib.hid (HBY.out.kept hkd (fun z => z))
         have hbx := HBX2.out
         have hby := HBY2.out
         have z0 : wd.cell? ⟨x,0,none⟩ = some _ := Blk.cell hbx rfl
         have z1 : wd.cell? ⟨x,1,none⟩ = some _ := Blk.cell hbx rfl
         have z2 : wd.cell? ⟨x,2,none⟩ = some _ := Blk.cell hbx rfl
         have z3 : wd.cell? ⟨x,3,none⟩ = some _ := Blk.cell hbx rfl
         have z4 : wd.cell? ⟨x,4,none⟩ = some _ := Blk.cell hbx rfl
         have z5 : wd.cell? ⟨x,5,none⟩ = some _ := Blk.cell hbx rfl
         have z6 : wd.cell? ⟨x,6,none⟩ = some _ := Blk.cell hbx rfl
         have z7 : wd.cell? ⟨x,7,none⟩ = some _ := Blk.cell hbx rfl
         have z8 : wd.cell? ⟨x,8,none⟩ = some _ := Blk.cell hbx rfl
         have z9 : wd.cell? ⟨x,9,none⟩ = some _ := Blk.cell hbx rfl
         have z10 : wd.cell? ⟨x,10,none⟩ = some _ := Blk.cell hbx rfl
         have z11 : wd.cell? ⟨x,11,none⟩ = some _ := Blk.cell hbx rfl
         have z12 : wd.cell? ⟨x,12,none⟩ = some _ := Blk.cell hbx rfl
         have z13 : wd.cell? ⟨x,13,none⟩ = some _ := Blk.cell hbx rfl
         have z14 : wd.cell? ⟨x,14,none⟩ = some _ := Blk.cell hbx rfl
         have z15 : wd.cell? ⟨x,15,none⟩ = some _ := Blk.cell hbx rfl
         have y0 : wd.cell? ⟨y,0,none⟩ = some _ := Blk.cell hby rfl
         have y1 : wd.cell? ⟨y,1,none⟩ = some _ := Blk.cell hby rfl
         have y2 : wd.cell? ⟨y,2,none⟩ = some _ := Blk.cell hby rfl
         have y3 : wd.cell? ⟨y,3,none⟩ = some _ := Blk.cell hby rfl
         have y4 : wd.cell? ⟨y,4,none⟩ = some _ := Blk.cell hby rfl
         have y5 : wd.cell? ⟨y,5,none⟩ = some _ := Blk.cell hby rfl
         have y6 : wd.cell? ⟨y,6,none⟩ = some _ := Blk.cell hby rfl
         have y7 : wd.cell? ⟨y,7,none⟩ = some _ := Blk.cell hby rfl
         have y8 : wd.cell? ⟨y,8,none⟩ = some _ := Blk.cell hby rfl
         have y9 : wd.cell? ⟨y,9,none⟩ = some _ := Blk.cell hby rfl
         have y10 : wd.cell? ⟨y,10,none⟩ = some _ := Blk.cell hby rfl
         have y11 : wd.cell? ⟨y,11,none⟩ = some _ := Blk.cell hby rfl
         have y12 : wd.cell? ⟨y,12,none⟩ = some _ := Blk.cell hby rfl
         have y13 : wd.cell? ⟨y,13,none⟩ = some _ := Blk.cell hby rfl
         have y14 : wd.cell? ⟨y,14,none⟩ = some _ := Blk.cell hby rfl
         have y15 : wd.cell? ⟨y,15,none⟩ = some _ := Blk.cell hby rfl
         clear hbx hby hkd hsd
         refine Reg.wp_region_plan [⟨0,false,[]⟩,⟨1,false,[]⟩,⟨3,false,[]⟩,⟨4,false,[]⟩,⟨2,true,[4]⟩,⟨5,true,[]⟩,⟨6,false,[]⟩] rfl (by kernel_rfl) ?_
         rw [hwd]
         clear hwd
         repeat (first | (refine Reg.look rfl rfl rfl (by go_simp;rfl) rfl ?_;go_simp) | (refine Reg.skip rfl rfl rfl ?_;go_simp))
         refine Reg.act rfl ?_
         clear z0 z1 z2 z3 z4 z5 z6 z7 z8 z9 z10 z11 z12 z13 z14 z15
         clear y0 y1 y2 y3 y4 y5 y6 y7 y8 y9 y10 y11 y12 y13 y14 y15
         go_wp2_with fail
         refine (HAP1.out wb wd A2 B2 c2 d2 (no + 1) HKD.out HKB.out (by have := HNO.out;omega) (Rp.str.slice.keptNo HR1.out HKB.out) (Rp.opl.slice.keptNo HR2.out HKB.out)).mono ?_
         rintro e w6 ⟨rfl,F',hl6,hu6⟩
         have hbx := HBX2.out.kept hu6.kp (fun hF => by have h1 := HFL.out x hF;have h2 := HXE.out;have h3 := HNO.out;omega)
         have hby := HBY2.out.kept hu6.kp (fun hF => by have h1 := HFL.out y hF;have h2 := HSZ.out;have h3 := HNO.out;omega)
         have HBY6 := Lib.hid hby
         have HL6 := Lib.hid hl6
         have HU6 := Lib.hid hu6
         have HA2 := Lib.hid (HAP2.out w6 (HKDD.out.any.trans' hu6.kp) (HRK.out w6 (HKDD.out.any.trans' hu6.kp)))
         have z0 : w6.cell? ⟨x,0,none⟩ = some _ := Blk.cell hbx rfl
         have z1 : w6.cell? ⟨x,1,none⟩ = some _ := Blk.cell hbx rfl
         have z2 : w6.cell? ⟨x,2,none⟩ = some _ := Blk.cell hbx rfl
         have z3 : w6.cell? ⟨x,3,none⟩ = some _ := Blk.cell hbx rfl
         have z4 : w6.cell? ⟨x,4,none⟩ = some _ := Blk.cell hbx rfl
         have z5 : w6.cell? ⟨x,5,none⟩ = some _ := Blk.cell hbx rfl
         have z6 : w6.cell? ⟨x,6,none⟩ = some _ := Blk.cell hbx rfl
         have z7 : w6.cell? ⟨x,7,none⟩ = some _ := Blk.cell hbx rfl
         have z8 : w6.cell? ⟨x,8,none⟩ = some _ := Blk.cell hbx rfl
         have z9 : w6.cell? ⟨x,9,none⟩ = some _ := Blk.cell hbx rfl
         have z10 : w6.cell? ⟨x,10,none⟩ = some _ := Blk.cell hbx rfl
         have z11 : w6.cell? ⟨x,11,none⟩ = some _ := Blk.cell hbx rfl
         have z12 : w6.cell? ⟨x,12,none⟩ = some _ := Blk.cell hbx rfl
         have z13 : w6.cell? ⟨x,13,none⟩ = some _ := Blk.cell hbx rfl
         have z14 : w6.cell? ⟨x,14,none⟩ = some _ := Blk.cell hbx rfl
         have z15 : w6.cell? ⟨x,15,none⟩ = some _ := Blk.cell hbx rfl
         clear hbx hby hl6 hu6 HAP1 HAP2 HBX2 HBY2
         go_wp2_with fail
         (refine ⟨?anew,?_⟩;case anew => ((repeat (refine Reg.anew_cons rfl rfl (fun _ => by go_simp) ?_));exact Reg.anew_nil))
         repeat (first | (refine Reg.look rfl rfl rfl (by go_simp;rfl) rfl ?_;go_simp) | (refine Reg.skip rfl rfl rfl ?_;go_simp))
         refine Reg.act rfl ?_
         clear z0 z1 z2 z3 z4 z5 z6 z7 z8 z9 z10 z11 z12 z13 z14 z15
         go_wp2_with fail
         refine HA2.out.mono ?_
         rintro e w7 ⟨rfl,FR',SR',hr7,hu7⟩
         obtain ⟨hb7,hk7⟩ := HBS.out wd w6 w7 F' FR' SR' HKDD.out HL6.out HU6.out hr7 hu7
         rw [HSD.out,HNO.out] at hb7
         have HB7 := Lib.hid hb7
         have HK7 := Lib.hid hk7
         have HBY7 := Lib.hid (HBY6.out.kept hu7.kp (fun hF => by have h1 := HFRL.out y hF;have h2 := HSZ.out;have h3 := HNO.out;omega))
         have HSF7 : Hid (Soft w7 (fun k => no ≤ k ∧ k < y) (.slice A2 ohs.length c2) ohs.length) := Lib.hid (by
          have h1 := ((HSF.out.kept HKB.out (fun _ _ _ z => z)).kept HU6.out.kp (fun k hk _ hF => by have h1 := HFL.out k hF;have h2 := hk.1;have h3 := HNO.out;omega)).kept hu7.kp (fun k hk _ hF => by have h1 := HFRL.out k hF;have h2 := hk.1;have h3 := HNO.out;omega)
          exact h1.keep (fun k hk => ⟨by have := hk.1;omega,hk.2⟩) (fun _ _ => rfl))
         have HTU7 : Hid (ops.length = 0 ∨ ∃ g m,B2 = some ⟨g,0,none⟩ ∧ no ≤ g ∧ g < y ∧ Turns w7 g m ∧ ops.length * 9 ≤ m) := Lib.hid (by
          rcases HTU.out with h0 | ⟨g,m,e1,e2,e3,e4,e5⟩
          · exact .inl h0
          · refine .inr ⟨g,m,e1,by omega,e3,?_,e5⟩
            exact ((e4.kept HKB.out (fun z => z)).kept HU6.out.kp (fun hF => by have h1 := HFL.out g hF;have h3 := HNO.out;omega)).kept hu7.kp (fun hF => by have h1 := HFRL.out g hF;have h3 := HNO.out;omega))
         have HTW : Hid (y + 1 ≤ w7.heap.size) := Lib.hid (by have h5 := HU6.out.kp.size;have h6 := hu7.kp.size;have h7 := HSD.out;omega)
         have hpp : (p0 != p0) = false := bne_self_eq_false p0
         clear hb7 hk7 hr7 hu7 HBY6 HL6 HU6 HA2 HBS HRK
         go_wp2_with fail
         (refine ⟨?anew,?_⟩;case anew => ((repeat (refine Reg.anew_cons rfl rfl (fun _ => by go_simp) ?_));exact Reg.anew_nil))
         repeat (first | (refine Reg.look rfl rfl rfl (by go_simp;rfl) rfl ?_;go_simp) | (refine Reg.skip rfl rfl rfl ?_;go_simp))
         (refine Reg.done ?_;simp only [Exit.then])
         go_wp2_with fail
         go_meet
         exact ⟨rfl,HB7,HK7,HBY7,HTU7,HSF7,HTW⟩
       case rest =>
        obtain ⟨rfl,HB7,HK7,HBY7,HTU7,HSF7,HTW0⟩ := hcut
        have HTW : Hid (no < y ∧ y < y + 1 ∧ y + 1 ≤ wc.heap.size) := Lib.hid ⟨HSZ.out.1,Nat.lt_succ_self _,HTW0.out⟩
        obtain ⟨w7,rfl⟩ : ∃ v,v = wc := ⟨_,rfl⟩
        obtain ⟨nd,hnd⟩ : ∃ v,y + 1 = v := ⟨_,rfl⟩
        rw [hnd] at HB7 HTW
        clear hnd HTW0 HSZ HKD HR1 HR2 HSF HTU HBX HBY HAP1 HAP2 HRK HFL HFRL HBS HNO HXE
        have y14 : w7.cell? ⟨y,14,none⟩ = some _ := Blk.cell HBY7.out rfl
        go_wp2_with fail
        clear y14
        go_loopw [69] (fun jv wx => ∃ j : Nat,j ≤ ops.length ∧ jv = .int .i64 (j : Int) ∧ Hid (Kp (fun k => no ≤ k ∧ k < nd) w7 wx) ∧ Hid (Blk wx y 39 [.int .i64 ck,.int .i64 ep,.int .i64 st,.int .i64 on,.int .i64 oe,.int .i64 ok,.int .i64 os,.int .i64 oc,.int .i64 oq,.string onm,.int .i64 osz,.slice A2 ohs.length c2,.int .i64 an,.int .i64 ae,.slice B2 ops.length d2,.int .i64 tg]) ∧ Hid (ops.length = 0 ∨ ∃ g m,B2 = some ⟨g,0,none⟩ ∧ no ≤ g ∧ g < y ∧ Turns wx g m ∧ ops.length * 9 ≤ m) ∧ Hid (Soft wx (fun k => no ≤ k ∧ k < y) (.slice A2 ohs.length c2) ohs.length)) (fun jv _ => ops.length - (intOf jv).toNat)
        case atStart => exact ⟨0,Nat.zero_le _,rfl,Lib.hid (Kp.refl _ _),HBY7,HTU7,HSF7⟩
        case round =>
         clear HBY7 HTU7 HSF7
         obtain ⟨j,hj,rfl,HK,HBY,HTU,HSF⟩ := hrel
         by_cases hjt : j < ops.length
         case pos =>
          have hji : (j : Int) < (ops.length : Int) := by omega
          have hj0 : (0 : Int) ≤ (j : Int) := by omega
          obtain ⟨g,m,rfl,hgo,hgy,htu,hm⟩ : ∃ g m,B2 = some ⟨g,0,none⟩ ∧ no ≤ g ∧ g < y ∧ Turns wr g m ∧ ops.length * 9 ≤ m := HTU.out.resolve_left (by omega)
          obtain ⟨u,hcu,hfu⟩ := htu.at_ (i := j * 9 + 6) (by omega)
          have y14 : wr.cell? ⟨y,14,none⟩ = some _ := Blk.cell HBY.out rfl
          have hk2 : Kp (· = g) wr (wr.setCell ⟨g,j * 9 + 6,none⟩ (.string { data := #[115,112,111,105,108,116] })) := (Kp.refl (· = g) wr).setCell (p := ⟨g,j * 9 + 6,none⟩) (fun _ => rfl) _
          have HK2 : Hid (Kp (fun k => no ≤ k ∧ k < nd) w7 (wr.setCell ⟨g,j * 9 + 6,none⟩ (.string { data := #[115,112,111,105,108,116] }))) := Lib.hid (HK.out.trans hk2 (fun k _ e => by have h1 := HTW.out;subst e;exact ⟨hgo,by omega⟩))
          have HBY2 := Lib.hid (HBY.out.kept hk2 (fun e => by omega))
          have HTU2 : Hid (ops.length = 0 ∨ ∃ g' m,(some ⟨g,0,none⟩ : Option Addr) = some ⟨g',0,none⟩ ∧ no ≤ g' ∧ g' < y ∧ Turns (wr.setCell ⟨g,j * 9 + 6,none⟩ (.string { data := #[115,112,111,105,108,116] })) g' m ∧ ops.length * 9 ≤ m) := Lib.hid (.inr ⟨g,m,rfl,hgo,hgy,htu.set _ _,hm⟩)
          have HSF2 := Lib.hid (HSF.out.turned htu (j * 9 + 6) (.string { data := #[115,112,111,105,108,116] }))
          clear htu hk2 hgo hgy hm HK HBY HTU HSF
          go_wp2_with fail
          go_roundw
          case rel => exact ⟨j + 1,by omega,by go_num,HK2,HBY2,HTU2,HSF2⟩
          case measure => simp [intOf];omega
         case neg =>
          obtain rfl : j = ops.length := by omega
          have y11 : wr.cell? ⟨y,11,none⟩ = some _ := Blk.cell HBY.out rfl
          clear HTU hj hjt
          obtain ⟨w8,rfl⟩ : ∃ v,v = wr := ⟨_,rfl⟩
          go_wp2_with fail
          clear y11
          go_loopw [83] (fun jv wx => ∃ j : Nat,j ≤ ohs.length ∧ jv = .int .i64 (j : Int) ∧ Hid (Kp (fun k => no ≤ k ∧ k < nd) w7 wx) ∧ Hid (Blk wx y 39 [.int .i64 ck,.int .i64 ep,.int .i64 st,.int .i64 on,.int .i64 oe,.int .i64 ok,.int .i64 os,.int .i64 oc,.int .i64 oq,.string onm,.int .i64 osz,.slice A2 ohs.length c2,.int .i64 an,.int .i64 ae,.slice B2 ops.length d2,.int .i64 tg]) ∧ Hid (Soft wx (fun k => no ≤ k ∧ k < y) (.slice A2 ohs.length c2) ohs.length)) (fun jv _ => ohs.length - (intOf jv).toNat)
          case atStart => exact ⟨0,Nat.zero_le _,rfl,HK,HBY,HSF⟩
          case round =>
           clear HK HBY HSF
           obtain ⟨j,hj,rfl,HK,HBY,HSF⟩ := hrel
           by_cases hjt : j < ohs.length
           case pos =>
            have hji : (j : Int) < (ohs.length : Int) := by omega
            have hj0 : (0 : Int) ≤ (j : Int) := by omega
            obtain ⟨g,c9,hve,⟨hgo,hgy⟩,hgl,hcells⟩ := HSF.out.at_ (by omega)
            obtain ⟨u,hcu,hfu⟩ := hcells j hjt
            have y11 : wr.cell? ⟨y,11,none⟩ = some _ := Blk.cell HBY.out rfl
            have hk2 : Kp (· = g) wr (wr.setCell ⟨g,j,none⟩ (.string { data := #[115,112,111,105,108,116] })) := (Kp.refl (· = g) wr).setCell (p := ⟨g,j,none⟩) (fun _ => rfl) _
            have HK2 : Hid (Kp (fun k => no ≤ k ∧ k < nd) w7 (wr.setCell ⟨g,j,none⟩ (.string { data := #[115,112,111,105,108,116] }))) := Lib.hid (HK.out.trans hk2 (fun k _ e => by have h1 := HTW.out;subst e;exact ⟨hgo,by omega⟩))
            have HBY2 := Lib.hid (HBY.out.kept hk2 (fun e => by omega))
            have HSF2 := Lib.hid (HSF.out.set HSF.out hve (i := j) (by omega) (.string { data := #[115,112,111,105,108,116] }))
            injection hve with hve1 hve2 hve3
            subst hve1 hve3
            clear hk2 hgo hgy hgl hcells HK HBY HSF
            go_wp2_with fail
            go_roundw
            case rel => exact ⟨j + 1,by omega,by go_num,HK2,HBY2,HSF2⟩
            case measure => simp [intOf];omega
           case neg =>
            obtain rfl : j = ohs.length := by omega
            have HBT : Hid (Both W wr l r L') := Lib.hid (Both.kept HB7.out HK7.out HW0.out HK.out)
            obtain ⟨w9,rfl⟩ : ∃ v,v = wr := ⟨_,rfl⟩
            obtain ⟨F9,FR9,SR9,hl9,_,_,_⟩ := HBT.out.ex
            have HOP := Lib.hid (a_opsF l L' F9 w9 hl9 (by omega) (fun o ho => by have := HHO.out o ho;omega))
            clear hl9 HK HBY HSF hj hjt HB7 HK7 HTW
            go_wp2_with fail
            refine HOP.out.mono ?_
            rintro e w10 ⟨A9,c9,rfl,hown,hk10⟩
            have HRW : Hid (L'.ops.length = 0 ∨ ∃ g,A9 = some ⟨g,0,none⟩ ∧ w9.heap.size ≤ g ∧ RowF w10 w9.heap.size g L'.ops) := Lib.hid (by
             rcases Nat.eq_zero_or_pos L'.ops.length with h0 | h0
             · exact .inl h0
             · exact .inr (hown.rowF h0))
            have HK10 := Lib.hid hk10
            clear hown hk10 HOP
            go_wp2_with fail
            go_loopw [96] (fun jv wx => ∃ j : Nat,j ≤ L'.ops.length ∧ jv = .int .i64 (j : Int) ∧ Hid (Kp No w9 wx) ∧ Hid (L'.ops.length = 0 ∨ ∃ g,A9 = some ⟨g,0,none⟩ ∧ w9.heap.size ≤ g ∧ RowF wx w9.heap.size g L'.ops)) (fun jv _ => L'.ops.length - (intOf jv).toNat)
            case atStart => exact ⟨0,Nat.zero_le _,rfl,HK10,HRW⟩
            case round =>
             clear HK10 HRW
             obtain ⟨j,hj,rfl,HK,HRW⟩ := hrel
             by_cases hjt : j < L'.ops.length
             case pos =>
              obtain ⟨wv,rfl⟩ : ∃ v,v = wr := ⟨_,rfl⟩
              have hji : (j : Int) < (L'.ops.length : Int) := by omega
              have hj0 : (0 : Int) ≤ (j : Int) := by omega
              obtain ⟨g,rfl,hgo,hrw⟩ : ∃ g,A9 = some ⟨g,0,none⟩ ∧ w9.heap.size ≤ g ∧ RowF wv w9.heap.size g L'.ops := HRW.out.resolve_left (by omega)
              obtain ⟨o,hoj⟩ : ∃ o,L'.ops[j]? = some o := ⟨_,List.getElem?_eq_getElem hjt⟩
              obtain ⟨Aj,cj,hcell,hsf⟩ := hrw.2 j o hoj
              have z0 : wv.cell? ⟨g,j * 9,none⟩ = some _ := hcell 0 _ rfl
              have z1 : wv.cell? ⟨g,j * 9 + 1,none⟩ = some _ := hcell 1 _ rfl
              have z2 : wv.cell? ⟨g,j * 9 + 2,none⟩ = some _ := hcell 2 _ rfl
              have z3 : wv.cell? ⟨g,j * 9 + 3,none⟩ = some _ := hcell 3 _ rfl
              have z4 : wv.cell? ⟨g,j * 9 + 4,none⟩ = some _ := hcell 4 _ rfl
              have z5 : wv.cell? ⟨g,j * 9 + 5,none⟩ = some _ := hcell 5 _ rfl
              have z6 : wv.cell? ⟨g,j * 9 + 6,none⟩ = some _ := hcell 6 _ rfl
              have z7 : wv.cell? ⟨g,j * 9 + 7,none⟩ = some _ := hcell 7 _ rfl
              have z8 : wv.cell? ⟨g,j * 9 + 8,none⟩ = some _ := hcell 8 _ rfl
              have hmh : (o.hashes.length : Int) ≤ 8 := by have := HHO.out o (List.mem_of_getElem? hoj);omega
              have HRW1 := Lib.hid hrw
              have HSF1 := Lib.hid hsf
              have HGO := Lib.hid hgo
              clear hcell hoj hrw hsf hgo HRW
              obtain ⟨pn,pe,pk,ps,pc,pq,pnm,psz,phs⟩ := o
              simp only at *
              obtain ⟨z,hz⟩ : ∃ v,wv.heap.size = v := ⟨_,rfl⟩
              obtain ⟨wz,hwz⟩ : ∃ v,wv.alloc (.cells #[.int .i64 pn,.int .i64 pe,.int .i64 pk,.int .i64 ps,.int .i64 pc,.int .i64 pq,.string pnm,.int .i64 psz,.slice Aj phs.length cj] 36) = v := ⟨_,rfl⟩
              have hkz : Kp No wv wz := by rw [← hwz];exact (Kp.refl _ _).alloc _
              have HBZ : Hid (Blk wz z 36 [.int .i64 pn,.int .i64 pe,.int .i64 pk,.int .i64 ps,.int .i64 pc,.int .i64 pq,.string pnm,.int .i64 psz,.slice Aj phs.length cj]) := Lib.hid (by rw [← hwz,← hz];exact Blk.new wv _ _)
              have HRW2 := Lib.hid (HRW1.out.keptNo hkz)
              have HSF2 := Lib.hid (HSF1.out.kept hkz (fun _ _ _ x => x))
              have HKZ := Lib.hid (HK.out.trans' hkz)
              clear hkz HRW1 HSF1 HK
              go_upto_region 26 with fail
              try rw [hwz]
              try rw [hz]
              clear hwz hz z0 z1 z2 z3 z4 z5 z6 z7 z8
              have a8 : wz.cell? ⟨z,8,none⟩ = some _ := Blk.cell HBZ.out rfl
              go_wp2_with fail
              clear a8
              go_loopw [104] (fun kv wy => ∃ q : Nat,q ≤ phs.length ∧ kv = .int .i64 (q : Int) ∧ Hid (Kp No w9 wy) ∧ Hid (RowF wy w9.heap.size g L'.ops) ∧ Hid (Blk wy z 36 [.int .i64 pn,.int .i64 pe,.int .i64 pk,.int .i64 ps,.int .i64 pc,.int .i64 pq,.string pnm,.int .i64 psz,.slice Aj phs.length cj]) ∧ Hid (Soft wy (fun k => w9.heap.size ≤ k) (.slice Aj phs.length cj) phs.length)) (fun kv _ => phs.length - (intOf kv).toNat)
              case atStart => exact ⟨0,Nat.zero_le _,rfl,HKZ,HRW2,HBZ,HSF2⟩
              case round =>
               clear HKZ HRW2 HBZ HSF2
               obtain ⟨q,hq,rfl,HK,HRW,HBZ,HSF⟩ := hrel
               by_cases hqt : q < phs.length
               case pos =>
                have hqi : (q : Int) < (phs.length : Int) := by omega
                have hq0 : (0 : Int) ≤ (q : Int) := by omega
                obtain ⟨g3,c8,hve,hg3,hgl,hcells⟩ := HSF.out.at_ (by omega)
                obtain ⟨u,hcu,hfu⟩ := hcells q hqt
                have a8 : wr.cell? ⟨z,8,none⟩ = some _ := Blk.cell HBZ.out rfl
                have hk2 : Kp (· = g3) wr (wr.setCell ⟨g3,q,none⟩ (.string { data := #[115,112,111,105,108,116] })) := (Kp.refl (· = g3) wr).setCell (p := ⟨g3,q,none⟩) (fun _ => rfl) _
                have HK2 : Hid (Kp No w9 (wr.setCell ⟨g3,q,none⟩ (.string { data := #[115,112,111,105,108,116] }))) := Lib.hid (HK.out.trans hk2 (fun k hk e => by have h1 : w9.heap.size ≤ g3 := hg3;omega))
                have HBZ2 := Lib.hid (HBZ.out.kept hk2 (HSF.out.ne_blk hve (by omega) HBZ.out (by decide)))
                have HSF2 := Lib.hid (HSF.out.set HSF.out hve (i := q) (by omega) (.string { data := #[115,112,111,105,108,116] }))
                have HRW2 := Lib.hid (HRW.out.set HSF.out hve (i := q) (by omega) (.string { data := #[115,112,111,105,108,116] }))
                injection hve with hve1 hve2 hve3
                subst hve1 hve3
                clear hk2 hg3 hgl hcells HK HRW HBZ HSF
                go_wp2_with fail
                go_roundw
                case rel => exact ⟨q + 1,by omega,by go_num,HK2,HRW2,HBZ2,HSF2⟩
                case measure => simp [intOf];omega
               case neg =>
                obtain rfl : q = phs.length := by omega
                have HRW3 : Hid (L'.ops.length = 0 ∨ ∃ g',(some ⟨g,0,none⟩ : Option Addr) = some ⟨g',0,none⟩ ∧ w9.heap.size ≤ g' ∧ RowF wr w9.heap.size g' L'.ops) := Lib.hid (.inr ⟨g,rfl,HGO.out,HRW.out⟩)
                clear hq hqt
                go_wp2_with fail
                go_roundw
                case rel => exact ⟨j + 1,by omega,by go_num,HK,HRW3⟩
                case measure => simp [intOf];omega
             case neg =>
              obtain rfl : j = L'.ops.length := by omega
              have HBU := Lib.hid (HBT.out.keptNo HK.out)
              obtain ⟨Fu,FRu,SRu,hlu,hru,_,_⟩ := HBU.out.ex
              have HSM := Lib.hid (h_same (80 * (i + 1)) l r L' Fu FRu SRu wr hlu hru HOK2.out (by omega) HLK2.out)
              clear hlu hru HK HRW hj hjt HBT
              go_wp2_with fail
              refine HSM.out.mono ?_
              rintro e w12 ⟨rfl,hk12⟩
              have HB12 := Lib.hid (HBU.out.keptNo hk12)
              clear hk12 HSM HBU
              go_wp2_with fail
              go_roundw
              case rel => exact ⟨i + 1,L',by omega,by go_num,HOK2,HLK2,HB12⟩
              case measure => simp [intOf];omega
theorem ledgerPlaysUpto_holds : Rows.LedgerPlaysUptoSaid := ledgerPlaysUpto_of ledgerPlaysUpto_walk
#print axioms ledgerPlaysUpto_holds
end Go.Proofs.YtjlbacfedfkilaaGreat
