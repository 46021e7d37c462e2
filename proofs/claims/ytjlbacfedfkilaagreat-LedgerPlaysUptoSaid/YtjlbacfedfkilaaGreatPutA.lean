/-
  (*Ledger).Puts.
-/
import Derived.Test.YtjlbacfedfkilaaGreatSortO
import Derived.Test.YtjlbacfedfkilaaGreatPutL
import Derived.Test.YtjlbacfedfkilaaGreatRange
import Derived.Test.YtjlbacfedfkilaaGreatLedQ
import Derived.Test.YtjlbacfedfkilaaGreatGI
import Derived.Deep.DeepCutAuto
namespace Go.Proofs.YtjlbacfedfkilaaGreat
open Go.RowKit Go.ChangeShapes Go.WideShapes Go.ChangeAt
open Classical in
def OutP (M : List (ByteArray × OpL)) (todo : List (ByteArray × Value)) (out : List OpL) : Prop := ∃ m : List (ByteArray × OpL),(m ++ M.filter (fun p => decide (p.1 ∈ todo.map (·.1)))).Perm M ∧ out = m.map (·.2)
open Classical in
theorem OutP.start (M : List (ByteArray × OpL)) {todo : List (ByteArray × Value)} (h : todo.map (·.1) = M.map (·.1)) : OutP M todo [] := by
 refine ⟨[],?_,rfl⟩
 rw [List.nil_append,List.filter_eq_self.2]
 intro p hp
 rw [decide_eq_true_iff,h]
 exact List.mem_map.2 ⟨p,hp,rfl⟩
open Classical in
theorem OutP.done {M : List (ByteArray × OpL)} {out : List OpL} (h : OutP M [] out) : out.Perm (M.map (·.2)) := by
 obtain ⟨m,hp,rfl⟩ := h
 rw [List.filter_eq_nil_iff.2 (by intro p _;simp),List.append_nil] at hp
 exact hp.map _
open Classical in
theorem OutP.step {M : List (ByteArray × OpL)} (hn : (M.map (·.1)).Nodup) {t1 t2 : List (ByteArray × Value)} {k : ByteArray} {v : Value} {o : OpL} {out : List OpL} (hnd : ((t1 ++ (k,v) :: t2).map (·.1)).Nodup) (ho : mget k M = some o) (h : OutP M (t1 ++ (k,v) :: t2) out) : OutP M (t1 ++ t2) (out ++ [o]) := by
 obtain ⟨m,hp,rfl⟩ := h
 refine ⟨m ++ [(k,o)],?_,by simp⟩
 refine List.Perm.trans ?_ hp
 rw [List.append_assoc]
 refine List.Perm.append_left m ?_
 have hk : k ∉ (t1 ++ t2).map (·.1) := by
  rw [List.map_append,List.map_cons] at hnd
  have h2 := (List.perm_middle.nodup_iff.1 hnd)
  rw [List.nodup_cons] at h2
  rw [List.map_append]
  exact h2.1
 have hmem : (k,o) ∈ M := mem_of_mget ho
 rw [List.singleton_append]
 refine (List.perm_ext_iff_of_nodup ?_ ?_).2 (fun p => ?_)
 · rw [List.nodup_cons]
   refine ⟨fun hc => ?_,(nodup_of_map _ hn).filter _⟩
   have := (List.mem_filter.1 hc).2
   rw [decide_eq_true_iff] at this
   exact hk this
 · exact (nodup_of_map _ hn).filter _
 · rw [List.mem_cons,List.mem_filter,List.mem_filter,decide_eq_true_iff,decide_eq_true_iff]
   constructor
   · rintro (rfl | ⟨h1,h2⟩)
     · exact ⟨hmem,by simp⟩
     · refine ⟨h1,?_⟩
       rw [List.map_append] at h2 ⊢
       rw [List.map_cons,List.mem_append,List.mem_cons]
       rcases List.mem_append.1 h2 with h2 | h2
       · exact .inl h2
       · exact .inr (.inr h2)
   · rintro ⟨h1,h2⟩
     rw [List.map_append,List.map_cons,List.mem_append,List.mem_cons] at h2
     rcases h2 with h2 | h2 | h2
     · exact .inr ⟨h1,by rw [List.map_append];exact List.mem_append_left _ h2⟩
     · left
       have e1 := mget_of_mem hn p h1
       rw [h2,ho] at e1
       injection e1 with e1
       exact Prod.ext h2 e1.symm
     · exact .inr ⟨h1,by rw [List.map_append];exact List.mem_append_right _ h2⟩
open Classical in
theorem OutP.len {M : List (ByteArray × OpL)} {todo : List (ByteArray × Value)} {out : List OpL} (h : OutP M todo out) : out.length ≤ M.length := by
 obtain ⟨m,hp,rfl⟩ := h
 have := hp.length_eq
 rw [List.length_append] at this
 rw [List.length_map]
 omega
theorem meant1_len (o : OpL) (M : List (ByteArray × OpL)) : (meant1 o M).length ≤ M.length + 1 := by
 unfold meant1
 split
 · have h1 := len_mput o.name o (mdel o.name M)
   have h2 := len_mdel o.name M
   omega
 · have h2 := len_mdel o.name M
   omega
theorem key_str : KeyOk Tryz.prog 9 (κ := ByteArray) Value.string := KeyOk.string Tryz.underlying9
def NewZ (S : Nat → Prop) (n : Nat) (w : World) (v : Value) : Nat → Prop := fun k => S k ∨ (n ≤ k ∧ k < w.heap.size ∧ v.ownBlock ≠ some k)
theorem NewZ.grow {S : Nat → Prop} {n : Nat} {w w' : World} {v : Value} (h : w.heap.size ≤ w'.heap.size) : ∀ k,NewZ S n w v k → NewZ S n w' v k := fun k hk => hk.imp id (fun h2 => ⟨h2.1,by have := h2.2.1;omega,h2.2.2⟩)
set_option maxRecDepth 100000 in
set_option maxHeartbeats 20000000 in
theorem a_puts (B l : Nat) (L : LV) (F : Nat → Prop) (w : World) (h : LAt w l L F) (hok : OkL B L) :
 Calls Tryz.prog 56 #[.pointer (some ⟨l,0,none⟩)] w fun e w' => ∃ A c,e = .returned (.slice A (putsL L).length c) ∧ Own Rp.opl w' (fun k => w.heap.size ≤ k) w.heap.size 36 (.slice A (putsL L).length c) (putsL L) ∧ Kp No w w' := by
 obtain ⟨b1,b2,ov,lv,S0,hin,_⟩ := h
 obtain ⟨A,c,hov⟩ := hin.oshape
 subst hov
 have hst := hok.settled
 obtain ⟨s,hs⟩ : ∃ s : Nat,L.settled = (s : Int) := ⟨L.settled.toNat,by omega⟩
 have q5 : w.cell? ⟨l,5,none⟩ = some (.slice A L.ops.length c) := Blk.cell hin.fat.blk rfl
 have q8 : w.cell? ⟨l,8,none⟩ = some (.int .i64 L.settled) := Blk.cell hin.fat.blk rfl
 rw [hs] at q8
 have hlw : l < w.heap.size := Blk.lt hin.fat.blk
 have hcap : L.ops.length ≤ c := by
  obtain ⟨_,_,he,h1,_⟩ := (hin.ops.readFrom)
  simp only [List.cons.injEq,Value.slice.injEq,and_true] at he
  omega
 have hA : A = none → L.ops.length = 0 := by
  rintro rfl
  rw [nil_of_none hin.ops.readFrom];rfl
 obtain ⟨S,hSW,hrd⟩ : ∃ S : Nat → Prop,(∀ k,S k → k < w.heap.size) ∧ Rp.opl.slice.R w S [.slice A L.ops.length c] L.ops := ⟨fun k => k < w.heap.size,fun k h => h,Rp.opl.slice.more (Rp.opl.slice.bnd hin.ops.readFrom) (fun k hk => hk.2)⟩
 have hfin : ∀ (M : List (ByteArray × OpL)) (out d : List OpL),MeantP L.ops s M → out.Perm (M.map (·.2)) → d.Perm (out ++ (L.ops.drop s).filter (fun o => decide (o.kind = 1))) → d.Pairwise (fun a b => ¬ b.n < a.n) → d = putsL L := fun M out d h1 h2 h3 h4 => puts_sorted hok (h3.trans (puts_perm hok hs h1 h2)) h4
 have hnn : ∀ o ∈ L.ops,0 ≤ o.n ∧ o.n ≤ 1000 := fun o ho => by have := (hok.okOf ho).1;exact ⟨by have := this.1;omega,by have := this.2.1;omega⟩
 have hHL : ∀ o ∈ putsL L,o.hashes.length ≤ 1000000 := fun o ho => by have := (putsL_ok hok o ho).hashes;omega
 have hlen := hok.len
 have hpl := putsL_len L
 obtain ⟨P,hP⟩ : ∃ P,putsL L = P := ⟨_,rfl⟩
 rw [hP] at hfin hHL hpl ⊢
 obtain ⟨O,hO⟩ : ∃ v,L.ops = v := ⟨_,rfl⟩
 rw [hO] at q5 hcap hA hrd hfin hnn hlen hpl hst
 have HKL : Hid (∀ w',Kp No w w' → w'.cell? ⟨l,5,none⟩ = some (.slice A O.length c) ∧ w'.cell? ⟨l,8,none⟩ = some (.int .i64 (s : Int))) := Lib.hid (fun w' hk => ⟨(hk.cell hlw (fun x => x)).trans q5,(hk.cell hlw (fun x => x)).trans q8⟩)
 have HSW := Lib.hid hSW
 have HRD := Lib.hid hrd
 have HFIN := Lib.hid hfin
 have HNN := Lib.hid hnn
 have HHL := Lib.hid hHL
 have HPL : Hid (P.length ≤ 80) := Lib.hid (by omega)
 have hsm : s ≤ O.length := by omega
 have hsmi : (s : Int) ≤ (O.length : Int) := by omega
 have hmi : (O.length : Int) ≤ 80 := by omega
 have hcm : (O.length : Int) ≤ (c : Int) := by omega
 have hsc : (s : Int) ≤ (c : Int) := by omega
 have hs0 : (0 : Int) ≤ (s : Int) := by omega
 have hmm := @run_makeMap Tryz.prog
 have HCAP := Lib.hid hcap
 have HA := Lib.hid hA
 have HSM := Lib.hid hsm
 clear hin hok hs hO q5 q8 hlen hcap hA hst hrd hfin hnn hHL hpl hP hSW
 obtain ⟨mb,hmb⟩ : ∃ v,w.heap.size = v := ⟨_,rfl⟩
 obtain ⟨w1,hw1⟩ : ∃ v,w.alloc (.map #[] 0) = v := ⟨_,rfl⟩
 have HM1 : Hid (MapRp Rp.opl w1 S mb Value.string []) := Lib.hid (by rw [← hw1,← hmb];exact MapRp.made w S)
 have HK1 : Hid (Kp No w w1) := Lib.hid (by rw [← hw1];exact (Kp.refl _ _).alloc _)
 have HMB : Hid (w.heap.size ≤ mb) := Lib.hid (Nat.le_of_eq hmb)
 have HSN : Hid (¬ S mb) := Lib.hid (fun h => by have := HSW.out mb h;have := HMB.out;omega)
 go_enter Tryz.func56,Tryz.ntmps56
 go_upto_region 4 with fail
 clear hmm
 try rw [hw1]
 try rw [hmb]
 clear hw1 hmb
 go_cut [22,23,24] (fun v n i wx => ∃ A22 c22,v = .slice A22 s c22 ∧ n = .int .i64 (s : Int) ∧ i = .int .i64 0 ∧ Hid (Rp.opl.slice.R w1 S [.slice A22 (O.take s).length c22] (O.take s)) ∧ Hid (Kp No w1 wx))
 case first =>
  obtain ⟨q5,q8⟩ := HKL.out w1 HK1.out
  have HHD : Hid (Rp.opl.slice.R w1 S [.slice A (O.take s).length c] (O.take s)) := Lib.hid (Rp.head (Rp.opl.slice.keptNo HRD.out HK1.out) HSM.out)
  rcases A with _ | ad
  · have hz := HA.out rfl
    have hs00 : s = 0 := by omega
    subst hs00
    rw [hz] at q5
    go_quiet (fail)
    go_wp2_with fail
    go_meet
    exact ⟨none,c,rfl,rfl,rfl,HHD,Lib.hid ((Kp.refl _ _).drewN _)⟩
  · go_quiet (fail)
    go_wp2_with fail
    go_meet
    exact ⟨some ad,c,rfl,rfl,rfl,HHD,Lib.hid ((Kp.refl _ _).drewN _)⟩
 case rest =>
  obtain ⟨A22,c22,rfl,rfl,rfl,HHD,HKC⟩ := hcut
  have HM2 := Lib.hid (HM1.out.keptNo HKC.out)
  have HK2 := Lib.hid (HK1.out.trans' HKC.out)
  have HHD2 := Lib.hid (Rp.opl.slice.keptNo HHD.out HKC.out)
  obtain ⟨w2,rfl⟩ : ∃ v,v = wc := ⟨_,rfl⟩
  clear HM1 HHD HKC
  go_wp2_with fail
  go_loopw [24] (fun iv wr => ∃ (i : Nat) (M : List (ByteArray × OpL)),i ≤ s ∧ iv = .int .i64 (i : Int) ∧ Hid (MapRp Rp.opl wr S mb Value.string M) ∧ Hid (MeantP O i M ∧ M.length ≤ i) ∧ Hid (Kp No w wr) ∧ Hid (Kp (fun k => k = mb) w2 wr)) (fun iv _ => s - (intOf iv).toNat)
  case atStart => exact ⟨0,[],Nat.zero_le _,rfl,HM2,Lib.hid ⟨MeantP.nil O,Nat.le_refl _⟩,HK2,Lib.hid (Kp.refl _ _)⟩
  case round =>
   clear HM2
   obtain ⟨i,M,hi,rfl,HM,HMP,HK,HK2R⟩ := hrel
   by_cases hlt : i < s
   case pos =>
    have hii : (i : Int) < (s : Int) := by omega
    have hi0 : (0 : Int) ≤ (i : Int) := by omega
    obtain ⟨o,ho⟩ : ∃ o,O[i]? = some o := ⟨_,List.getElem?_eq_getElem (by omega)⟩
    obtain ⟨ad,A',c',rfl,_,hcell,hnum,hrb⟩ := Rp.at_opl (Rp.opl.slice.kept HHD2.out HK2R.out (fun k hk _ e => HSN.out (e ▸ hk))) (i := i) (o := o) (by rw [List.getElem?_take_of_lt hlt];exact ho)
    obtain ⟨z0,z1,z2,z3,z4,z5,z6,z7,z8⟩ := opl_cells hcell
    have HNUM := Lib.hid hnum
    have HRB := Lib.hid hrb
    have HMN := Lib.hid (HMP.out.1.step ho)
    have HML : Hid ((meant1 o M).length ≤ i + 1) := Lib.hid (by have := meant1_len o M;have := HMP.out.2;omega)
    clear hcell hnum hrb ho
    obtain ⟨on,oe,ok,os,oc,oq,onm,osz,ohs⟩ := o
    simp only at *
    obtain ⟨x,hx⟩ : ∃ x,wr.heap.size = x := ⟨_,rfl⟩
    obtain ⟨wa,hwa⟩ : ∃ wa,wr.alloc (.cells #[.int .i64 on,.int .i64 oe,.int .i64 ok,.int .i64 os,.int .i64 oc,.int .i64 oq,.string onm,.int .i64 osz,.slice A' ohs.length c'] 36) = wa := ⟨_,rfl⟩
    have hka : Kp No wr wa := by rw [← hwa];exact (Kp.refl _ _).alloc _
    have hba : Blk wa x 36 [.int .i64 on,.int .i64 oe,.int .i64 ok,.int .i64 os,.int .i64 oc,.int .i64 oq,.string onm,.int .i64 osz,.slice A' ohs.length c'] := by rw [← hwa,← hx];exact Blk.new wr _ _
    have HKA := Lib.hid hka
    have HBA := Lib.hid hba
    have HMA := Lib.hid (HM.out.keptNo hka)
    have HXM : Hid (x ≠ mb) := Lib.hid (by have := HM.out.lt;omega)
    have HRA := Lib.hid (Rp.str.slice.keptNo HRB.out hka)
    have HKWA := Lib.hid (HK.out.trans' hka)
    go_upto_region 7 with fail
    try rw [hwa]
    try rw [hx]
    clear hwa hx hka z0 z1 z2 z3 z4 z5 z6 z7 z8
    have y0 : wa.cell? ⟨x,0,none⟩ = some _ := Blk.cell hba rfl
    have y1 : wa.cell? ⟨x,1,none⟩ = some _ := Blk.cell hba rfl
    have y2 : wa.cell? ⟨x,2,none⟩ = some _ := Blk.cell hba rfl
    have y3 : wa.cell? ⟨x,3,none⟩ = some _ := Blk.cell hba rfl
    have y4 : wa.cell? ⟨x,4,none⟩ = some _ := Blk.cell hba rfl
    have y5 : wa.cell? ⟨x,5,none⟩ = some _ := Blk.cell hba rfl
    have y6 : wa.cell? ⟨x,6,none⟩ = some _ := Blk.cell hba rfl
    have y7 : wa.cell? ⟨x,7,none⟩ = some _ := Blk.cell hba rfl
    have y8 : wa.cell? ⟨x,8,none⟩ = some _ := Blk.cell hba rfl
    obtain ⟨w6,hrun,hm6,hk6⟩ := HMA.out.delete (P := Tryz.prog) key_str Tryz.underlying159 HSN.out onm 9 0
    have HM6 := Lib.hid hm6
    have HK6 := Lib.hid hk6
    have hb6 := hba.kept hk6 HXM.out
    have HR6 := Lib.hid (Rp.str.slice.kept HRA.out hk6 (fun k hk _ e => HSN.out (e ▸ hk)))
    have HKW6 : Hid (Kp No w w6) := Lib.hid (HKWA.out.trans hk6 (fun k hk e => by have := HMB.out;omega))
    have HK26 : Hid (Kp (fun k => k = mb) w2 w6) := Lib.hid ((HK2R.out.transNo HKA.out).trans' hk6)
    have v0 : w6.cell? ⟨x,0,none⟩ = some _ := Blk.cell hb6 rfl
    have v1 : w6.cell? ⟨x,1,none⟩ = some _ := Blk.cell hb6 rfl
    have v2 : w6.cell? ⟨x,2,none⟩ = some _ := Blk.cell hb6 rfl
    have v3 : w6.cell? ⟨x,3,none⟩ = some _ := Blk.cell hb6 rfl
    have v4 : w6.cell? ⟨x,4,none⟩ = some _ := Blk.cell hb6 rfl
    have v5 : w6.cell? ⟨x,5,none⟩ = some _ := Blk.cell hb6 rfl
    have v6 : w6.cell? ⟨x,6,none⟩ = some _ := Blk.cell hb6 rfl
    have v7 : w6.cell? ⟨x,7,none⟩ = some _ := Blk.cell hb6 rfl
    have v8 : w6.cell? ⟨x,8,none⟩ = some _ := Blk.cell hb6 rfl
    clear hm6 hk6 hba hb6
    by_cases h1 : ok = 1
    case neg =>
     have kb : (ok == 1) = false := beq_eq_false_iff_ne.2 h1
     have HMF : Hid (meant1 ⟨on,oe,ok,os,oc,oq,onm,osz,ohs⟩ M = mdel onm M) := Lib.hid (by unfold meant1;rw [if_neg h1])
     rw [← HMF.out] at HM6
     clear h1
     go_wp2_with fail
     try rw [hrun]
     try go_wp2_with fail
     clear hrun
     go_roundw
     case rel => exact ⟨i + 1,_,by omega,by go_num,HM6,Lib.hid ⟨HMN.out,HML.out⟩,HKW6,HK26⟩
     case measure => simp [intOf];omega
    case pos =>
     have kb : (ok == 1) = true := beq_iff_eq.2 h1
     have HMF : Hid (meant1 ⟨on,oe,ok,os,oc,oq,onm,osz,ohs⟩ M = mput onm ⟨on,oe,ok,os,oc,oq,onm,osz,ohs⟩ (mdel onm M)) := Lib.hid (by unfold meant1;rw [if_pos h1])
     clear h1
     obtain ⟨w7,hrun7,hm7,hk7⟩ := HM6.out.update (P := Tryz.prog) key_str Tryz.underlying159 HSN.out onm (cs := OpL.cells ⟨on,oe,ok,os,oc,oq,onm,osz,ohs⟩ (.slice A' ohs.length c')) (a := ⟨on,oe,ok,os,oc,oq,onm,osz,ohs⟩) ⟨_,rfl,HNUM.out,HR6.out⟩
     rw [← HMF.out] at hm7
     have HM7 := Lib.hid hm7
     have HKW7 : Hid (Kp No w w7) := Lib.hid (HKW6.out.trans hk7 (fun k hk e => by have := HMB.out;omega))
     have HK27 : Hid (Kp (fun k => k = mb) w2 w7) := Lib.hid (HK26.out.trans' hk7)
     unfold OpL.cells at hrun7
     simp only at hrun7
     clear hm7 hk7
     go_wp2_with fail
     try rw [hrun]
     try go_wp2_with fail
     try rw [hrun7]
     try go_wp2_with fail
     clear hrun hrun7
     go_roundw
     case rel => exact ⟨i + 1,_,by omega,by go_num,HM7,Lib.hid ⟨HMN.out,HML.out⟩,HKW7,HK27⟩
     case measure => simp [intOf];omega
   case neg =>
    obtain rfl : i = s := by omega
    obtain ⟨wE,rfl⟩ : ∃ v,v = wr := ⟨_,rfl⟩
    obtain ⟨lv,hmo,hkeys,hval⟩ := HM.out
    obtain ⟨w3,hrun,hrg,hk3,hs3⟩ := hmo.range (P := Tryz.prog) Tryz.underlying159
    have HND : Hid ((lv.map (·.1)).Nodup) := Lib.hid (by rw [hkeys];exact HMP.out.1.1)
    have HVAL := Lib.hid hval
    have HKEY := Lib.hid hkeys
    have HRG := Lib.hid hrg
    obtain ⟨r,hr⟩ : ∃ v,wE.heap.size = v := ⟨_,rfl⟩
    rw [hr] at hrun HRG
    have HRE : Hid (w.heap.size ≤ r ∧ mb < r) := Lib.hid ⟨by have := HK.out.size;omega,by have := hmo.lt;omega⟩
    have HK3 := Lib.hid hk3
    clear hmo hkeys hval hrg hk3 hs3 hr hi hlt
    go_upto_region 13 with fail
    try rw [hrun]
    try go_wp2_with fail
    clear hrun
    go_loopw [6] (fun ov wx => ∃ (todo : List (ByteArray × Value)) (out : List OpL),Hid (Ranges wx mb r Value.string lv todo) ∧ Hid ((∀ p ∈ todo,p ∈ lv) ∧ (todo.map (·.1)).Nodup) ∧ Hid (OutP M todo out) ∧ Hid (Own Rp.opl wx (NewZ S (r + 1) wx ov) (r + 1) 36 ov out) ∧ Hid (Kp No w wx) ∧ Hid (Kp (fun k => w.heap.size ≤ k) wE wx)) (fun _ wx => wx.rangeLeft mb r)
    case atStart => exact ⟨lv,[],HRG,Lib.hid ⟨fun _ h => h,HND.out⟩,Lib.hid (OutP.start M HKEY.out),Lib.hid (Own.nil _ _ _ _ _),Lib.hid (HK.out.trans' HK3.out),Lib.hid (HK3.out.any)⟩
    case round =>
     obtain ⟨todo,E,HRG,HTD,HOP,HOW,HKX,HKE⟩ := hrel
     obtain ⟨Av,cv,rfl⟩ := HOW.out.shape
     have hEl : (E.length : Int) ≤ 80 := by have h1 := HOP.out.len;have h2 := HMP.out.2;omega
     have HLT := Lib.hid HRG.out.left
     rcases HRG.out.next (P := Tryz.prog) 0 with ⟨h0,hrun⟩ | ⟨k,v,t1,t2,w4,htd,hrun,hrg4,hk4,hs4,hen⟩
     · subst h0
       obtain ⟨wF,rfl⟩ : ∃ v,v = wr := ⟨_,rfl⟩
       have HPM := Lib.hid HOP.out.done
       obtain ⟨E0,rfl⟩ : ∃ v,v = E := ⟨_,rfl⟩
       have HE0 : Hid (E0.length ≤ 80) := Lib.hid (by omega)
       go_upto_region 16 with fail
       clear hrun
       obtain ⟨nd,hnd⟩ : ∃ nd,O.length - i = nd := ⟨_,rfl⟩
       have HNDE := Lib.hid hnd
       have hndi : (O.length : Int) - (i : Int) = (nd : Int) := by have := HSM.out;omega
       have HRF : Hid (r < wF.heap.size) := Lib.hid HRG.out.lt
       have HRDF := Lib.hid (Rp.opl.slice.keptNo HRD.out HKX.out)
       clear hnd HRG HTD HOP HLT HKE
       go_cut [57,58,59] (fun v n j wx => ∃ A57 c57,v = .slice A57 nd c57 ∧ n = .int .i64 (nd : Int) ∧ j = .int .i64 0 ∧ Hid (Rp.opl.slice.R wF S [.slice A57 (O.drop i).length c57] (O.drop i)) ∧ Hid (Kp No wF wx))
       case first =>
        obtain ⟨q5,q8⟩ := HKL.out wF HKX.out
        rcases A with _ | ad
        · have hz := HA.out rfl
          have hi0 : i = 0 := by have := HSM.out;omega
          have hnd0 : nd = 0 := by have := HNDE.out;omega
          have HR0 : Hid (Rp.opl.slice.R wF S [.slice none (O.drop i).length c] (O.drop i)) := Lib.hid (by rw [hi0,List.drop_zero];exact HRDF.out)
          subst hi0 hnd0
          rw [hz] at q5
          go_quiet (fail)
          go_wp2_with fail
          go_meet
          exact ⟨none,c,rfl,rfl,rfl,HR0,Lib.hid ((Kp.refl _ _).drewN _)⟩
        · by_cases hci : c = i
          · have hOl : O.length = i := by have := HCAP.out;have := HSM.out;omega
            have hnd0 : nd = 0 := by have := HNDE.out;omega
            have HR0 : Hid (Rp.opl.slice.R wF S [.slice (some ad) (O.drop i).length 0] (O.drop i)) := Lib.hid (by
             rw [List.drop_eq_nil_of_le (by omega)]
             exact ⟨_,_,rfl,Nat.le_refl _,by simp,fun h => absurd h (by simp)⟩)
            rw [hOl] at q5
            subst hci hnd0
            have hcc : c - c = 0 := Nat.sub_self c
            go_quiet (fail)
            go_wp2_with fail
            go_meet
            exact ⟨some ad,0,rfl,rfl,rfl,HR0,Lib.hid ((Kp.refl _ _).drewN _)⟩
          · have HR0 : Hid (Rp.opl.slice.R wF S [.slice (some (ad.add (i * 9))) (O.drop i).length (c - i)] (O.drop i)) := Lib.hid (Rp.cut HRDF.out HSM.out)
            have HNDN : Hid (O.length - i = nd) := HNDE
            have hnn2 : O.length - i = nd := HNDE.out
            go_quiet (fail)
            go_wp2_with fail
            go_meet
            exact ⟨some (ad.add (i * 9)),c - i,by rw [← hnn2],by first | rfl | (rw [← hnn2]),rfl,HR0,Lib.hid ((Kp.refl _ _).drewN _)⟩
       case rest =>
        obtain ⟨A57,c57,rfl,rfl,rfl,HDR,HKC⟩ := hcut
        have HOW2 := Lib.hid ((HOW.out.keptNo HKC.out).mono (Nat.le_refl _) (NewZ.grow HKC.out.size))
        have HDR2 := Lib.hid (Rp.opl.slice.keptNo HDR.out HKC.out)
        have HK5 := Lib.hid (HKX.out.trans' HKC.out)
        have HRF2 : Hid (r < wc.heap.size) := Lib.hid (Nat.lt_of_lt_of_le HRF.out HKC.out.size)
        obtain ⟨wG,rfl⟩ : ∃ v,v = wc := ⟨_,rfl⟩
        clear HOW HDR HKC HKX
        have hndl : (O.drop i).length = nd := by rw [List.length_drop];exact HNDE.out
        have HDL := Lib.hid hndl
        clear hndl
        go_wp2_with fail
        go_loopw [6,59] (fun ov jv wx => ∃ (j : Nat) (E : List OpL),j ≤ nd ∧ jv = .int .i64 (j : Int) ∧ Hid (E = E0 ++ ((O.drop i).take j).filter (fun o => decide (o.kind = 1))) ∧ Hid (Own Rp.opl wx (NewZ S (r + 1) wx ov) (r + 1) 36 ov E) ∧ Hid (Kp No w wx) ∧ Hid (Kp (fun k => w.heap.size ≤ k) wG wx) ∧ Hid (r < wx.heap.size)) (fun _ jv _ => nd - (intOf jv).toNat)
        case atStart => exact ⟨0,E0,Nat.zero_le _,rfl,Lib.hid (by simp),HOW2,HK5,Lib.hid (Kp.refl _ _),HRF2⟩
        case round =>
         clear HOW2 HK5 HRF2
         obtain ⟨j,E,hj,rfl,HEE,HOW,HK,HKG,HRW⟩ := hrel
         obtain ⟨Av,cv,rfl⟩ := HOW.out.shape
         by_cases hjt : j < nd
         case pos =>
          have hji : (j : Int) < (nd : Int) := by omega
          have hj0 : (0 : Int) ≤ (j : Int) := by omega
          obtain ⟨o,ho⟩ : ∃ o,(O.drop i)[j]? = some o := ⟨_,List.getElem?_eq_getElem (by have := HDL.out;omega)⟩
          obtain ⟨ad,A',c',rfl,_,hcell,hnum,hrb⟩ := Rp.at_opl (Rp.opl.slice.kept HDR2.out HKG.out (fun k hk _ h => by have := HSW.out k hk;omega)) ho
          obtain ⟨z0,z1,z2,z3,z4,z5,z6,z7,z8⟩ := opl_cells hcell
          have HNUM := Lib.hid hnum
          have HRB0 := Lib.hid hrb
          have HTK : Hid ((O.drop i).take (j + 1) = (O.drop i).take j ++ [o]) := Lib.hid (take_snoc ho)
          have hEl : (E.length : Int) ≤ 160 := by
           rw [HEE.out,List.length_append]
           have h1 := List.length_filter_le (fun o => decide (o.kind = 1)) ((O.drop i).take j)
           rw [List.length_take] at h1
           have h2 := HE0.out
           have h3 := HNDE.out
           omega
          clear hcell hnum hrb ho
          obtain ⟨on,oe,ok,os,oc,oq,onm,osz,ohs⟩ := o
          simp only at *
          obtain ⟨x,hx⟩ : ∃ x,wr.heap.size = x := ⟨_,rfl⟩
          obtain ⟨wa,hwa⟩ : ∃ wa,wr.alloc (.cells #[.int .i64 on,.int .i64 oe,.int .i64 ok,.int .i64 os,.int .i64 oc,.int .i64 oq,.string onm,.int .i64 osz,.slice A' ohs.length c'] 36) = wa := ⟨_,rfl⟩
          have hka : Kp No wr wa := by rw [← hwa];exact (Kp.refl _ _).alloc _
          have hba : Blk wa x 36 [.int .i64 on,.int .i64 oe,.int .i64 ok,.int .i64 os,.int .i64 oc,.int .i64 oq,.string onm,.int .i64 osz,.slice A' ohs.length c'] := by rw [← hwa,← hx];exact Blk.new wr _ _
          have HKA := Lib.hid hka
          have HBA := Lib.hid hba
          have HRB := Lib.hid (Rp.str.slice.keptNo HRB0.out hka)
          have HOWA := Lib.hid ((HOW.out.keptNo hka).mono (Nat.le_refl _) (NewZ.grow hka.size))
          have HKWA := Lib.hid (HK.out.trans' hka)
          have HRWA : Hid (r < wa.heap.size) := Lib.hid (Nat.lt_of_lt_of_le HRW.out hka.size)
          have HKGA := Lib.hid (HKG.out.transNo hka)
          go_upto_region 19 with fail
          try rw [hwa]
          try rw [hx]
          clear hwa hx hka z0 z1 z2 z3 z4 z5 z6 z7 z8
          have y0 : wa.cell? ⟨x,0,none⟩ = some _ := Blk.cell hba rfl
          have y1 : wa.cell? ⟨x,1,none⟩ = some _ := Blk.cell hba rfl
          have y2 : wa.cell? ⟨x,2,none⟩ = some _ := Blk.cell hba rfl
          have y3 : wa.cell? ⟨x,3,none⟩ = some _ := Blk.cell hba rfl
          have y4 : wa.cell? ⟨x,4,none⟩ = some _ := Blk.cell hba rfl
          have y5 : wa.cell? ⟨x,5,none⟩ = some _ := Blk.cell hba rfl
          have y6 : wa.cell? ⟨x,6,none⟩ = some _ := Blk.cell hba rfl
          have y7 : wa.cell? ⟨x,7,none⟩ = some _ := Blk.cell hba rfl
          have y8 : wa.cell? ⟨x,8,none⟩ = some _ := Blk.cell hba rfl
          clear hba
          by_cases h1 : ok = 1
          case neg =>
           have kb : (ok == 1) = false := beq_eq_false_iff_ne.2 h1
           have HE2 : Hid (E = E0 ++ ((O.drop i).take (j + 1)).filter (fun o => decide (o.kind = 1))) := Lib.hid (by
            rw [HTK.out,List.filter_append,List.filter_cons_of_neg (by simp [h1]),List.filter_nil,List.append_nil];exact HEE.out)
           clear h1
           go_wp2_with fail
           go_roundw
           case rel => exact ⟨j + 1,E,by omega,by go_num,HE2,HOWA,HKWA,HKGA,HRWA⟩
           case measure => simp [intOf];omega
          case pos =>
           have kb : (ok == 1) = true := beq_iff_eq.2 h1
           have HE2 : Hid (E ++ [(⟨on,oe,ok,os,oc,oq,onm,osz,ohs⟩ : OpL)] = E0 ++ ((O.drop i).take (j + 1)).filter (fun o => decide (o.kind = 1))) := Lib.hid (by
            rw [HTK.out,List.filter_append,List.filter_cons_of_pos (by simp [h1]),List.filter_nil,← List.append_assoc,← HEE.out])
           clear h1
           have HRW := HRWA
           have HSRC := Lib.hid (opl_lit wa ⟨on,oe,ok,os,oc,oq,onm,osz,ohs⟩ (.slice A' ohs.length c') (fun k => S k ∨ (r + 1 ≤ k ∧ k < wa.heap.size + 1 ∧ (Value.slice Av E.length cv).ownBlock ≠ some k)) (.inr ⟨HRW.out,by omega,fun h => by have := (HOWA.out.lt _ h).2;omega⟩) HNUM.out (Rp.str.slice.more HRB.out (fun k hk => .inl hk)))
           have HOZ : Hid (Own Rp.opl (wa.alloc (.cells (OpL.cells ⟨on,oe,ok,os,oc,oq,onm,osz,ohs⟩ (.slice A' ohs.length c')).toArray 36)) (fun k => S k ∨ (r + 1 ≤ k ∧ k < wa.heap.size + 1 ∧ (Value.slice Av E.length cv).ownBlock ≠ some k)) (r + 1) 36 (.slice Av E.length cv) E) := Lib.hid ((HOWA.out.keptNo ((Kp.refl _ _).alloc _)).mono (Nat.le_refl _) (fun k hk => hk.imp id (fun h => ⟨h.1,by have := h.2.1;omega,h.2.2⟩)))
           have HKZ : Hid (Kp No w (wa.alloc (.cells (OpL.cells ⟨on,oe,ok,os,oc,oq,onm,osz,ohs⟩ (.slice A' ohs.length c')).toArray 36))) := Lib.hid (HKWA.out.alloc _)
           have HSA : Hid ((wa.alloc (.cells (OpL.cells ⟨on,oe,ok,os,oc,oq,onm,osz,ohs⟩ (.slice A' ohs.length c')).toArray 36)).heap.size = wa.heap.size + 1) := Lib.hid (by simp)
           unfold OpL.cells at HSRC HOZ HKZ HSA
           simp only at HSRC HOZ HKZ HSA
           go_wp2_with (at_builtin;refine wpList_append_rp (E := Rp.opl) rfl _ (.tmp 66) (.tmp 68) 37 rfl (r + 1) 36 96 el_op (fun k => S k ∨ (r + 1 ≤ k ∧ k < wa.heap.size + 1 ∧ (Value.slice Av E.length cv).ownBlock ≠ some k)) (.slice Av E.length cv) E rfl HOZ.out (some ⟨wa.heap.size,0,none⟩) 1 (fun k => S k ∨ (r + 1 ≤ k ∧ k < wa.heap.size + 1 ∧ (Value.slice Av E.length cv).ownBlock ≠ some k)) [⟨on,oe,ok,os,oc,oq,onm,osz,ohs⟩] rfl HSRC.out Rp.opl_one (by simp [maxLen];omega) (by simp;omega) (by have h1 := HSA.out;have h2 := HRW.out;first | omega | (simp;omega)) (fun _ h => h) (fun k hk h => by
            rcases h with h | h
            · have h1 := HSW.out k h;have h2 := (HOWA.out.lt k hk).1;have h3 := HRE.out.1;omega
            · exact h.2.2 hk) ?_)
           clear y0 y1 y2 y3 y4 y5 y6 y7 y8
           intro v9 w9 hown9 hg9 hbl9
           obtain ⟨A9,c9,rfl⟩ := hown9.shape
           have hk9 : Kp No w w9 := HKZ.out.grown hg9 (fun k hk hlt => by have := (HOWA.out.lt k hk).1;have := HRE.out.1;omega)
           have hkx9 : Kp (fun k => (Value.slice Av E.length cv).ownBlock = some k) wa w9 := (((Kp.refl _ wa).alloc _)).grown hg9 (fun k hk _ => hk)
           have hs9 : wa.heap.size + 1 ≤ w9.heap.size := Nat.le_trans (Nat.le_of_eq HSA.out.symm) ((Kp.refl (fun _ => True) _).grown hg9 (fun _ _ _ => trivial)).size
           have hbl9 : (Value.slice A9 (E ++ [(⟨on,oe,ok,os,oc,oq,onm,osz,ohs⟩ : OpL)]).length c9).ownBlock = (Value.slice Av E.length cv).ownBlock ∨ (Value.slice A9 (E ++ [(⟨on,oe,ok,os,oc,oq,onm,osz,ohs⟩ : OpL)]).length c9).ownBlock = some (wa.heap.size + 1) := by first | exact hbl9 | exact hbl9.imp id (fun h => h.trans (congrArg some HSA.out))
           have HO9 : Hid (Own Rp.opl w9 (NewZ S (r + 1) w9 (.slice A9 (E ++ [(⟨on,oe,ok,os,oc,oq,onm,osz,ohs⟩ : OpL)]).length c9)) (r + 1) 36 (.slice A9 (E ++ [(⟨on,oe,ok,os,oc,oq,onm,osz,ohs⟩ : OpL)]).length c9) (E ++ [(⟨on,oe,ok,os,oc,oq,onm,osz,ohs⟩ : OpL)])) := Lib.hid (hown9.mono (Nat.le_refl _) (fun k hk => hk.imp id (fun hk => ⟨hk.1,by have := hk.2.1;omega,fun h => by
            rcases hbl9 with h2 | h2
            · exact hk.2.2 (h2 ▸ h)
            · rw [h2] at h;injection h with h;have := hk.2.1;omega⟩)))
           have HK9 := Lib.hid hk9
           have HX9 := Lib.hid hkx9
           have HLO := Lib.hid HOWA.out.lt
           clear hown9 hg9 hbl9 hk9 hs9 hkx9 HOZ HSRC HKZ
           have HKG9 : Hid (Kp (fun k => w.heap.size ≤ k) wG w9) := Lib.hid (HKGA.out.trans HX9.out (fun q hq h => by have := (HLO.out q h).1;have := HRE.out.1;show w.heap.size ≤ q;omega))
           have HRW9 : Hid (r < w9.heap.size) := Lib.hid (Nat.lt_of_lt_of_le HRWA.out HX9.out.size)
           go_wp2_with fail
           go_roundw
           case rel => exact ⟨j + 1,_,by omega,by go_num,HE2,HO9,HK9,HKG9,HRW9⟩
           case measure => simp [intOf];omega
         case neg =>
          obtain rfl : j = nd := by omega
          have HEF : Hid (E = E0 ++ (O.drop i).filter (fun o => decide (o.kind = 1))) := Lib.hid (by
           have h := HEE.out
           rwa [List.take_of_length_le (by have := HDL.out;omega)] at h)
          have hEl : E.length ≤ 160 := by
           rw [HEF.out,List.length_append]
           have h1 := List.length_filter_le (fun o => decide (o.kind = 1)) (O.drop i)
           have h2 := HE0.out
           have h3 := HDL.out
           have h4 := HNDE.out
           omega
          have hEn : ∀ o ∈ E,0 ≤ o.n ∧ o.n ≤ 1000 := fun o ho => by
           rw [HEF.out,List.mem_append] at ho
           rcases ho with ho | ho
           · obtain ⟨p,hp,rfl⟩ := List.mem_map.1 (HPM.out.mem_iff.1 ho)
             obtain ⟨q,h1,h2,_⟩ := (HMP.out.1.2 p.1 p.2).1 (mget_of_mem HMP.out.1.1 p hp)
             exact HNN.out _ (List.mem_of_getElem? h2)
           · exact HNN.out o (List.mem_of_mem_drop (List.mem_filter.1 ho).1)
          have HSO := Lib.hid (c_sortO E Av cv wr _ (r + 1) HOW.out hEn (by omega) (fun k hk h => by
           rcases h with h | h
           · have h1 := HSW.out k h;have h2 := (HOW.out.lt k hk).1;have h3 := HRE.out.1;omega
           · exact h.2.2 hk))
          have HOL := Lib.hid HOW.out.lt
          clear hEn hEl hj hjt
          go_wp2_with fail
          refine HSO.out.mono ?_
          rintro e w5 ⟨rfl,out',hperm,hsrt,hown5,hk5⟩
          have hPo : out' = P := HFIN.out M E0 out' HMP.out.1 HPM.out (by rw [← HEF.out];exact hperm) (hsrt.imp (fun h => by omega))
          have hPl : E.length = P.length := by rw [← hPo];exact hperm.length_eq.symm
          subst hPo
          rw [hPl] at hown5
          rw [hPl]
          have HCO := Lib.hid (c_own out' Av cv w5 _ hown5.readFrom (by have := HPL.out;omega) HHL.out)
          have HK5 : Hid (Kp No w w5) := Lib.hid (HK.out.trans hk5 (fun q hq h => by have := (HOL.out q h).1;have := HRE.out.1;omega))
          clear hperm hsrt hown5 hk5 HSO
          go_wp2_with fail
          refine HCO.out.mono ?_
          rintro e w6 ⟨A6,c6,rfl,_,_,hown6,hk6⟩
          have HO6 := Lib.hid hown6
          have HK6 := Lib.hid (HK5.out.trans' hk6)
          have HS5 := Lib.hid HK5.out.size
          clear hown6 hk6 HCO
          go_wp2_with fail
          go_ret
          exact ⟨A6,c6,rfl,HO6.out.mono HS5.out (fun k hk => Nat.le_trans HS5.out hk),HK6.out⟩
     · have hv := mget_of_mem HND.out (k,v) (HTD.out.1 _ (by rw [htd];simp))
       simp only at hv
       obtain ⟨o,ho⟩ : ∃ o,mget k M = some o := by
        cases hq : mget k M with
        | some o => exact ⟨o,rfl⟩
        | none =>
          rw [mget_none_iff,← HKEY.out,← mget_none_iff,hv] at hq
          cases hq
       obtain ⟨cs,hcs,hv',hcs2,hnum,hrb⟩ := HVAL.out k o ho
       rw [hv] at hcs
       injection hcs with hcs
       subst hcs hcs2
       obtain ⟨A',c',hve,_⟩ := id hrb
       simp only [List.cons.injEq,and_true] at hve
       subst hve
       have HOPN : Hid (OutP M (t1 ++ t2) (E ++ [o])) := Lib.hid (OutP.step HMP.out.1.1 (by rw [← htd];exact HTD.out.2) ho (htd ▸ HOP.out))
       have HTDN : Hid ((∀ p ∈ t1 ++ t2,p ∈ lv) ∧ ((t1 ++ t2).map (·.1)).Nodup) := Lib.hid ⟨fun p hp => HTD.out.1 p (by rw [htd];rcases List.mem_append.1 hp with h | h <;> simp [h]),by
        have h := HTD.out.2
        rw [htd,List.map_append,List.map_cons] at h
        rw [List.map_append]
        exact (List.nodup_cons.1 (List.perm_middle.nodup_iff.1 h)).2⟩
       have HLTN : Hid (todo.length = (t1 ++ t2).length + 1) := Lib.hid (by rw [htd];simp;omega)
       have HNUM := Lib.hid hnum
       have hk4w : Kp No w w4 := HKX.out.trans hk4 (fun i hi e => by have := HRE.out.1;omega)
       have hke4 : Kp (fun k => w.heap.size ≤ k) wE w4 := HKE.out.trans hk4 (fun i hi e => by have := HRE.out.1;show w.heap.size ≤ i;omega)
       have HRB4 := Lib.hid (Rp.str.slice.kept hrb hke4 (fun k hk _ h => by have := HSW.out k hk;omega))
       have HOW4 := Lib.hid ((HOW.out.kept hk4 (fun k hk _ e => by
        rcases hk with hk | hk
        · have := HSW.out k hk;have := HRE.out.1;omega
        · have := hk.1;omega) (fun k hk e => by have := (HOW.out.lt k hk).1;omega)).mono (Nat.le_refl _) (NewZ.grow hk4.size))
       have HRG4 := Lib.hid hrg4
       have HKW4 := Lib.hid hk4w
       have HKE4 := Lib.hid hke4
       clear htd hv hrg4 hk4 hs4 ho hnum hrb hk4w hke4
       obtain ⟨on,oe,ok,os,oc,oq,onm,osz,ohs⟩ := o
       simp only at *
       unfold OpL.cells at hrun hen
       simp only at hrun hen
       obtain ⟨x,hx⟩ : ∃ x,w4.heap.size = x := ⟨_,rfl⟩
       obtain ⟨wa,hwa⟩ : ∃ wa,w4.alloc (.cells #[.int .i64 on,.int .i64 oe,.int .i64 ok,.int .i64 os,.int .i64 oc,.int .i64 oq,.string onm,.int .i64 osz,.slice A' ohs.length c'] 36) = wa := ⟨_,rfl⟩
       have hka : Kp No w4 wa := by rw [← hwa];exact (Kp.refl _ _).alloc _
       have hba : Blk wa x 36 [.int .i64 on,.int .i64 oe,.int .i64 ok,.int .i64 os,.int .i64 oc,.int .i64 oq,.string onm,.int .i64 osz,.slice A' ohs.length c'] := by rw [← hwa,← hx];exact Blk.new w4 _ _
       have HKA := Lib.hid hka
       have HBA := Lib.hid hba
       have y0 : wa.cell? ⟨x,0,none⟩ = some _ := Blk.cell hba rfl
       have y1 : wa.cell? ⟨x,1,none⟩ = some _ := Blk.cell hba rfl
       have y2 : wa.cell? ⟨x,2,none⟩ = some _ := Blk.cell hba rfl
       have y3 : wa.cell? ⟨x,3,none⟩ = some _ := Blk.cell hba rfl
       have y4 : wa.cell? ⟨x,4,none⟩ = some _ := Blk.cell hba rfl
       have y5 : wa.cell? ⟨x,5,none⟩ = some _ := Blk.cell hba rfl
       have y6 : wa.cell? ⟨x,6,none⟩ = some _ := Blk.cell hba rfl
       have y7 : wa.cell? ⟨x,7,none⟩ = some _ := Blk.cell hba rfl
       have y8 : wa.cell? ⟨x,8,none⟩ = some _ := Blk.cell hba rfl
       have HRB := Lib.hid (Rp.str.slice.keptNo HRB4.out hka)
       have HOWA := Lib.hid ((HOW4.out.keptNo hka).mono (Nat.le_refl _) (NewZ.grow hka.size))
       have HKWA := Lib.hid (HKW4.out.trans' hka)
       have HRGA := Lib.hid (HRG4.out.kept (S := No) hka (fun x => x) (fun x => x))
       go_upto_region 15 with fail
       try rw [hwa]
       try rw [hx]
       clear hwa hx hka hba hrun hen
       have HRW : Hid (r < wa.heap.size) := Lib.hid HRGA.out.lt
       have HSRC := Lib.hid (opl_lit wa ⟨on,oe,ok,os,oc,oq,onm,osz,ohs⟩ (.slice A' ohs.length c') (fun k => S k ∨ (r + 1 ≤ k ∧ k < wa.heap.size + 1 ∧ (Value.slice Av E.length cv).ownBlock ≠ some k)) (.inr ⟨HRW.out,by omega,fun h => by have := (HOWA.out.lt _ h).2;omega⟩) HNUM.out (Rp.str.slice.more HRB.out (fun k hk => .inl hk)))
       have HOZ : Hid (Own Rp.opl (wa.alloc (.cells (OpL.cells ⟨on,oe,ok,os,oc,oq,onm,osz,ohs⟩ (.slice A' ohs.length c')).toArray 36)) (fun k => S k ∨ (r + 1 ≤ k ∧ k < wa.heap.size + 1 ∧ (Value.slice Av E.length cv).ownBlock ≠ some k)) (r + 1) 36 (.slice Av E.length cv) E) := Lib.hid ((HOWA.out.keptNo ((Kp.refl _ _).alloc _)).mono (Nat.le_refl _) (fun k hk => hk.imp id (fun h => ⟨h.1,by have := h.2.1;omega,h.2.2⟩)))
       have HKZ : Hid (Kp No w (wa.alloc (.cells (OpL.cells ⟨on,oe,ok,os,oc,oq,onm,osz,ohs⟩ (.slice A' ohs.length c')).toArray 36))) := Lib.hid (HKWA.out.alloc _)
       have HSA : Hid ((wa.alloc (.cells (OpL.cells ⟨on,oe,ok,os,oc,oq,onm,osz,ohs⟩ (.slice A' ohs.length c')).toArray 36)).heap.size = wa.heap.size + 1) := Lib.hid (by simp)
       unfold OpL.cells at HSRC HOZ HKZ HSA
       simp only at HSRC HOZ HKZ HSA
       go_wp2_with (at_builtin;refine wpList_append_rp (E := Rp.opl) rfl _ (.tmp 45) (.tmp 47) 37 rfl (r + 1) 36 96 el_op (fun k => S k ∨ (r + 1 ≤ k ∧ k < wa.heap.size + 1 ∧ (Value.slice Av E.length cv).ownBlock ≠ some k)) (.slice Av E.length cv) E rfl HOZ.out (some ⟨wa.heap.size,0,none⟩) 1 (fun k => S k ∨ (r + 1 ≤ k ∧ k < wa.heap.size + 1 ∧ (Value.slice Av E.length cv).ownBlock ≠ some k)) [⟨on,oe,ok,os,oc,oq,onm,osz,ohs⟩] rfl HSRC.out Rp.opl_one (by simp [maxLen];omega) (by simp;omega) (by have h1 := HSA.out;have h2 := HRW.out;first | omega | (simp;omega)) (fun _ h => h) (fun k hk h => by
        rcases h with h | h
        · have h1 := HSW.out k h;have h2 := (HOWA.out.lt k hk).1;have h3 := HRE.out.1;omega
        · exact h.2.2 hk) ?_)
       clear y0 y1 y2 y3 y4 y5 y6 y7 y8
       intro v9 w9 hown9 hg9 hbl9
       obtain ⟨A9,c9,rfl⟩ := hown9.shape
       have hk9 : Kp No w w9 := HKZ.out.grown hg9 (fun k hk hlt => by have := (HOWA.out.lt k hk).1;have := HRE.out.1;omega)
       have hkx9 : Kp (fun k => (Value.slice Av E.length cv).ownBlock = some k) wa w9 := (((Kp.refl _ wa).alloc _)).grown hg9 (fun k hk _ => hk)
       have hs9 : wa.heap.size + 1 ≤ w9.heap.size := Nat.le_trans (Nat.le_of_eq HSA.out.symm) ((Kp.refl (fun _ => True) _).grown hg9 (fun _ _ _ => trivial)).size
       have hbl9 : (Value.slice A9 (E ++ [(⟨on,oe,ok,os,oc,oq,onm,osz,ohs⟩ : OpL)]).length c9).ownBlock = (Value.slice Av E.length cv).ownBlock ∨ (Value.slice A9 (E ++ [(⟨on,oe,ok,os,oc,oq,onm,osz,ohs⟩ : OpL)]).length c9).ownBlock = some (wa.heap.size + 1) := by first | exact hbl9 | exact hbl9.imp id (fun h => h.trans (congrArg some HSA.out))
       have HO9 : Hid (Own Rp.opl w9 (NewZ S (r + 1) w9 (.slice A9 (E ++ [(⟨on,oe,ok,os,oc,oq,onm,osz,ohs⟩ : OpL)]).length c9)) (r + 1) 36 (.slice A9 (E ++ [(⟨on,oe,ok,os,oc,oq,onm,osz,ohs⟩ : OpL)]).length c9) (E ++ [(⟨on,oe,ok,os,oc,oq,onm,osz,ohs⟩ : OpL)])) := Lib.hid (hown9.mono (Nat.le_refl _) (fun k hk => hk.imp id (fun hk => ⟨hk.1,by have := hk.2.1;omega,fun h => by
        rcases hbl9 with h2 | h2
        · exact hk.2.2 (h2 ▸ h)
        · rw [h2] at h;injection h with h;have := hk.2.1;omega⟩)))
       have HK9 := Lib.hid hk9
       have HX9 := Lib.hid hkx9
       have HLO := Lib.hid HOWA.out.lt
       clear hown9 hg9 hbl9 hk9 hs9 hkx9 HOZ HSRC HKZ
       have HRG9 : Hid (Ranges w9 mb r Value.string lv (t1 ++ t2)) := Lib.hid (HRGA.out.kept HX9.out (fun e => by have := (HLO.out _ e).1;have := HRE.out;omega) (fun e => by have := (HLO.out _ e).1;omega))
       have HKE9 : Hid (Kp (fun k => w.heap.size ≤ k) wE w9) := Lib.hid ((HKE4.out.transNo HKA.out).trans HX9.out (fun i hi h => by have := (HLO.out i h).1;have := HRE.out.1;show w.heap.size ≤ i;omega))
       go_wp2_with fail
       go_roundw
       case rel => exact ⟨t1 ++ t2,E ++ [⟨on,oe,ok,os,oc,oq,onm,osz,ohs⟩],HRG9,HTDN,HOPN,HO9,HK9,HKE9⟩
       case measure => rw [HLT.out,HRG9.out.left];have := HLTN.out;omega
end Go.Proofs.YtjlbacfedfkilaaGreat
