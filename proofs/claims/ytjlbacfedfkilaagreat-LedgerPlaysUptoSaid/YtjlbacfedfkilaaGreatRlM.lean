/-
  The document's ledger: means, Puts.
-/
import Derived.Test.YtjlbacfedfkilaaGreatRlG
import Derived.Test.YtjlbacfedfkilaaGreatPutL
namespace Go.Proofs.YtjlbacfedfkilaaGreat
open Go.RowKit Go.ChangeShapes Go.WideShapes Go.ChangeAt
set_option maxRecDepth 100000 in
set_option maxHeartbeats 2000000 in
theorem r_lmeans (B n : Nat) (nm : ByteArray) (l : Nat) (L : LV) (F S : Nat → Prop) (w : World) (h : RLAt w l L F S) (hok : OkL B L) (hn : n ≤ L.ops.length) :
 Calls Tryz.prog 110 #[.pointer (some ⟨l,0,none⟩),.int .i64 (n : Int),.string nm] w fun e w' => ∃ v : Int,e = .returned (.int .i64 v) ∧ MeansP L.ops n nm v ∧ w' = w := by
 obtain ⟨ov,gv,hin,_⟩ := h
 obtain ⟨A,c,rfl⟩ := hin.ops.shape
 have HBL := Lib.hid hin.blk
 have HO := Lib.hid hin.ops
 have hli : (L.ops.length : Int) ≤ 80 := by have := hok.len;omega
 obtain ⟨O,hO⟩ : ∃ v,L.ops = v := ⟨_,rfl⟩
 rw [hO] at HBL HO hli hn ⊢
 have hni : (n : Int) ≤ 80 := by omega
 clear hin hok hO
 go_enter Tryz.func110,Tryz.ntmps110
 go_wp2_with fail
 go_loopw [7] (fun iv wr => ∃ k : Nat,k ≤ n ∧ iv = .int .i64 ((k : Int) - 1) ∧ wr = w ∧ Hid (∀ (j : Nat) x,k ≤ j → j < n → O[j]? = some x → x.kind = 3 ∨ x.name ≠ nm)) (fun iv _ => (intOf iv + 1).toNat)
 case atStart => exact ⟨n,Nat.le_refl _,rfl,rfl,Lib.hid (fun j x h1 h2 => absurd h1 (by omega))⟩
 case round =>
  obtain ⟨k,hk,rfl,rfl,HA⟩ := hrel
  obtain ⟨w,rfl⟩ : ∃ v,v = wr := ⟨_,rfl⟩
  rcases Nat.eq_zero_or_pos k with hk0 | hk0
  case inl =>
   subst hk0
   have e0 : ((0 : Nat) : Int) - 1 = -1 := rfl
   rw [e0]
   clear e0 hk
   go_wp2_with fail
   go_ret
   exact ⟨0,rfl,MeansP.none (fun j x h1 h2 => HA.out j x (Nat.zero_le _) h1 h2),rfl⟩
  case inr =>
   obtain ⟨j,rfl⟩ : ∃ j,k = j + 1 := ⟨k - 1,by omega⟩
   have hij : ((j + 1 : Nat) : Int) - 1 = (j : Int) := by omega
   rw [hij]
   have hji : (j : Int) < (O.length : Int) := by omega
   have hj0 : (0 : Int) ≤ (j : Int) := by omega
   obtain ⟨o,ho⟩ : ∃ o,O[j]? = some o := ⟨_,List.getElem?_eq_getElem (by omega)⟩
   obtain ⟨g,A',c',rfl,_,_,hcell,_,_,_⟩ := Own.at_opl HO.out ho
   have k0 : w.cell? ⟨l,0,none⟩ = some _ := Blk.cell HBL.out rfl
   have z2 : w.cell? ⟨g,j * 9 + 2,none⟩ = some _ := hcell 2 _ rfl
   have z6 : w.cell? ⟨g,j * 9 + 6,none⟩ = some _ := hcell 6 _ rfl
   have HOI := Lib.hid ho
   have HJN : Hid (j < n) := Lib.hid (by omega)
   clear hcell hij ho
   have HA2 : Hid (o.kind = 3 ∨ o.name ≠ nm → ∀ (i : Nat) x,j ≤ i → i < n → O[i]? = some x → x.kind = 3 ∨ x.name ≠ nm) := Lib.hid (fun h i x h1 h2 h3 => by
    rcases Nat.lt_or_ge j i with h4 | h4
    · exact HA.out i x h4 h2 h3
    · obtain rfl : i = j := by omega
      rw [HOI.out] at h3
      injection h3 with h3
      exact h3 ▸ h)
   by_cases h3 : o.kind = 3
   case pos =>
    have HA3 := Lib.hid (HA2.out (.inl h3))
    have kn : (o.kind != 3) = false := by rw [h3];rfl
    clear h3
    go_wp2_with fail
    go_roundw
    case rel => exact ⟨j,by omega,by go_num,(by first | rfl | trivial),HA3⟩
    case measure => simp [intOf]
   have kn : (o.kind != 3) = true := bne_iff_ne.2 h3
   by_cases hnm : o.name = nm
   case neg =>
    have HA3 := Lib.hid (HA2.out (.inr hnm))
    have nb : (o.name.toList == nm.toList) = false := by rw [bytes_list_beq];exact decide_eq_false hnm
    clear h3 hnm
    go_wp2_with fail
    go_roundw
    case rel => exact ⟨j,by omega,by go_num,(by first | rfl | trivial),HA3⟩
    case measure => simp [intOf]
   have nb : (o.name.toList == nm.toList) = true := by rw [bytes_list_beq];exact decide_eq_true hnm
   have HM : Hid (MeansP O n nm (if o.kind = 1 then (j : Int) + 1 else 0)) := Lib.hid (MeansP.here HJN.out HOI.out h3 hnm (fun i x h1 h2 h3 => HA.out i x h1 h2 h3))
   clear h3 hnm
   by_cases h1 : o.kind = 1
   case pos =>
    rw [if_pos h1] at HM
    have kb : (o.kind == 1) = true := beq_iff_eq.2 h1
    clear h1
    go_wp2_with fail
    go_ret
    exact ⟨_,rfl,HM.out,rfl⟩
   case neg =>
    rw [if_neg h1] at HM
    have kb : (o.kind == 1) = false := beq_eq_false_iff_ne.2 h1
    clear h1
    go_wp2_with fail
    go_ret
    exact ⟨_,rfl,HM.out,rfl⟩
def NewS (S : Nat → Prop) (w0 w : World) (v : Value) : Nat → Prop := fun k => S k ∨ NewX w0 w v k
def MeantB (O : List OpL) (s : Int) (i : Nat) (o : OpL) (n : Nat) : Prop := o.kind = 1 ∧ ∃ m : Nat,s ≤ (m : Int) ∧ m < n ∧ ∀ v,MeansP O m o.name v → v = (i : Int) + 1
theorem MeantB.next {O : List OpL} {s : Int} {i : Nat} {o : OpL} {n : Nat} (ho : O[i]? = some o) (hs : s ≤ (n : Int)) {v : Int} (hv : MeansP O n o.name v) : MeantB O s i o (n + 1) ↔ MeantB O s i o n ∨ (o.kind = 1 ∧ v = (i : Int) + 1) := by
 constructor
 · rintro ⟨h1,m,h2,h3,h4⟩
   rcases Nat.lt_or_ge m n with h5 | h5
   · exact .inl ⟨h1,m,h2,h5,h4⟩
   · obtain rfl : m = n := by omega
     exact .inr ⟨h1,h4 v hv⟩
 · rintro (⟨h1,m,h2,h3,h4⟩ | ⟨h1,h2⟩)
   · exact ⟨h1,m,h2,by omega,h4⟩
   · exact ⟨h1,n,hs,by omega,fun v' hv' => (hv' i o ho h1 rfl).2 ((hv i o ho h1 rfl).1 h2)⟩
theorem MeantB.none {O : List OpL} {s : Int} {i : Nat} {o : OpL} {n : Nat} (hs : (n : Int) ≤ s) : ¬ MeantB O s i o n := fun ⟨_,m,h2,h3,_⟩ => by omega
theorem MeantB.skip {O : List OpL} {s : Int} {i : Nat} {o : OpL} {n : Nat} (h : MeantB O s i o n) : MeantB O s i o (n + 1) := by
 obtain ⟨h1,m,h2,h3,h4⟩ := h
 exact ⟨h1,m,h2,by omega,h4⟩
theorem MeantB.all {B : Nat} {L : LV} (hok : OkL B L) {i : Nat} {o : OpL} (hi : L.ops[i]? = some o) : MeantB L.ops L.settled i o (L.ops.length + 1) ↔ needP L o := by
 constructor
 · rintro ⟨h1,m,h2,h3,h4⟩
   exact (need_means hok hi h1).2 ⟨m,h2,by omega,h4⟩
 · intro h
   obtain ⟨m,h2,h3,h4⟩ := (need_means hok hi h.1).1 h
   exact ⟨h.1,m,h2,by omega,h4⟩
set_option maxRecDepth 100000 in
set_option maxHeartbeats 8000000 in
theorem r_lputs (B : Nat) (l : Nat) (L : LV) (F S : Nat → Prop) (w : World) (h : RLAt w l L F S) (hok : OkL B L) :
 Calls Tryz.prog 57 #[.pointer (some ⟨l,0,none⟩)] w fun e w' => ∃ A c,e = .returned (.slice A (putsL L).length c) ∧ Own Rp.opl w' (NewX w w' (.slice A (putsL L).length c)) w.heap.size 36 (.slice A (putsL L).length c) (putsL L) ∧ Kp No w w' := by
 have HME := Lib.hid (fun w' (hk : Kp No w w') (n : Nat) (hn : n ≤ L.ops.length) (nm : ByteArray) => r_lmeans B n nm l L F S w' (h.keptNo hk) hok hn)
 obtain ⟨ov,gv,hin,_⟩ := h
 obtain ⟨A,c,rfl⟩ := hin.ops.shape
 have HB0 : Hid (∀ w',Kp No w w' → w'.cell? ⟨l,0,none⟩ = some (.slice A L.ops.length c)) := Lib.hid (fun w' hk => Blk.cell (hin.keptNo hk).blk rfl)
 have HB3 : Hid (∀ w',Kp No w w' → w'.cell? ⟨l,3,none⟩ = some (.int .i64 L.settled)) := Lib.hid (fun w' hk => Blk.cell (hin.keptNo hk).blk rfl)
 have HO := Lib.hid hin.ops
 have HSW : Hid (∀ k,S k → k < w.heap.size) := Lib.hid hin.hi
 have HALL : Hid (∀ (i : Nat) (o : OpL),L.ops[i]? = some o → (MeantB L.ops L.settled i o (L.ops.length + 1) ↔ needP L o)) := Lib.hid (fun _ _ hi => MeantB.all hok hi)
 have HHL : Hid (∀ o ∈ L.ops,o.hashes.length ≤ 1000000) := Lib.hid (fun o ho => by have := (hok.okOf ho).hashes;omega)
 have hli : (L.ops.length : Int) ≤ 80 := by have := hok.len;omega
 have hst := hok.settled
 obtain ⟨s,hs⟩ : ∃ s : Nat,L.settled = (s : Int) := ⟨L.settled.toNat,by omega⟩
 have hsl : s ≤ L.ops.length := by omega
 have hpl := putsL_len L
 have HPD : Hid (putsL L = L.ops.filter (fun o => decide (needP L o))) := Lib.hid rfl
 obtain ⟨P,hP⟩ : ∃ P,putsL L = P := ⟨_,rfl⟩
 rw [hs] at HB3 HALL
 rw [hP] at HPD hpl ⊢
 have HPL : Hid (P.length ≤ 80) := Lib.hid (by omega)
 have HPM : Hid (∀ o ∈ P,o ∈ L.ops) := Lib.hid (fun o ho => by rw [HPD.out] at ho;exact (List.mem_filter.1 ho).1)
 clear hin hok hst hs hP hpl
 go_enter Tryz.func57,Tryz.ntmps57
 go_wp2_with fail
 go_loopw [3,4] (fun ov iv wr => ∃ i : Nat,i ≤ L.ops.length ∧ iv = .int .i64 (i : Int) ∧ Hid (Own Rp.opl wr (NewS S w wr ov) w.heap.size 36 ov ((L.ops.take i).filter (fun o => decide (needP L o)))) ∧ Hid (Kp No w wr)) (fun _ iv _ => L.ops.length - (intOf iv).toNat)
 case atStart => exact ⟨0,Nat.zero_le _,rfl,Lib.hid (Own.nil _ _ _ _ _),Lib.hid (Kp.refl _ _)⟩
 case round =>
  obtain ⟨i,hi,rfl,HOW,HK⟩ := hrel
  obtain ⟨Av,cv,rfl⟩ := HOW.out.shape
  by_cases hlt : i < L.ops.length
  case neg =>
   obtain rfl : i = L.ops.length := by omega
   rw [List.take_length,← HPD.out] at HOW
   have k0 := HB0.out wr HK.out
   rw [List.take_length,← HPD.out]
   have HOO := Lib.hid (r_ownops P Av cv wr _ HOW.out.readFrom (by have := HPL.out;omega) (fun o ho => HHL.out o (HPM.out o ho)))
   clear hi hlt
   go_wp2_with fail
   refine HOO.out.mono ?_
   rintro e w5 ⟨A5,c5,rfl,hown5,hk5⟩
   have HO5 := Lib.hid hown5
   have HK5 := Lib.hid hk5
   clear hown5 hk5 k0
   go_wp2_with fail
   go_ret
   exact ⟨A5,c5,rfl,HO5.out.mono HK.out.size (fun k hk => ⟨Nat.le_trans HK.out.size hk.1,hk.2⟩),HK.out.trans' HK5.out⟩
  case pos =>
   obtain ⟨wo,rfl⟩ : ∃ v,v = wr := ⟨_,rfl⟩
   have hil : (i : Int) < (L.ops.length : Int) := by omega
   have hi0 : (0 : Int) ≤ (i : Int) := by omega
   obtain ⟨o,ho⟩ : ∃ o,L.ops[i]? = some o := ⟨_,List.getElem?_eq_getElem hlt⟩
   obtain ⟨g,A',c',rfl,_,_,hcell,_,hnum,hrd⟩ := Own.at_opl HO.out ho
   have HCE : Hid (∀ w',Kp No w w' → ∀ (j : Nat) u,(o.cells (.slice A' o.hashes.length c'))[j]? = some u → w'.cell? ⟨g,i * 9 + j,none⟩ = some u) := Lib.hid (fun w' hk j u hu => (hk.cell (lt_of_cell (hcell j u hu)) (fun z => z)).trans (hcell j u hu))
   have HNUM := Lib.hid hnum
   have HRD := Lib.hid hrd
   have HST1 : Hid (L.ops.take (i + 1) = L.ops.take i ++ [o]) := Lib.hid (take_snoc ho)
   have HOI := Lib.hid ho
   have k0 := HB0.out wo HK.out
   have k3 := HB3.out wo HK.out
   clear hcell hnum hrd ho
   go_wp2_with fail
   clear k0 k3
   go_loopw [5,6] (fun bv nv wx => ∃ (b : Bool) (n : Nat),n ≤ L.ops.length + 1 ∧ s ≤ n ∧ bv = .bool b ∧ nv = .int .i64 (n : Int) ∧ Hid (b = true ↔ MeantB L.ops s i o n) ∧ Hid (Kp No wo wx)) (fun _ nv _ => L.ops.length + 1 - (intOf nv).toNat)
   case atStart => exact ⟨false,s,by omega,Nat.le_refl _,rfl,rfl,Lib.hid ⟨fun h => (by cases h),fun h => absurd h (MeantB.none (Int.le_refl _))⟩,Lib.hid (Kp.refl _ _)⟩
   case round =>
    obtain ⟨b,n,hn,hsn,rfl,rfl,HBM,HKX⟩ := hrel
    have HKW := Lib.hid (HK.out.trans' HKX.out)
    by_cases hnt : n ≤ L.ops.length
    case pos =>
     have hni : (n : Int) ≤ (L.ops.length : Int) := by omega
     have k0 : wr.cell? ⟨l,0,none⟩ = some _ := HB0.out wr HKW.out
     have k3 : wr.cell? ⟨l,3,none⟩ = some _ := HB3.out wr HKW.out
     have z2 : wr.cell? ⟨g,i * 9 + 2,none⟩ = some _ := HCE.out wr HKW.out 2 _ rfl
     have z6 : wr.cell? ⟨g,i * 9 + 6,none⟩ = some _ := HCE.out wr HKW.out 6 _ rfl
     cases b
     case true =>
      have HBM2 : Hid (true = true ↔ MeantB L.ops s i o (n + 1)) := Lib.hid ⟨fun _ => (HBM.out.1 rfl).skip,fun _ => rfl⟩
      go_wp2_with fail
      go_roundw
      case rel => exact ⟨true,n + 1,by omega,by omega,rfl,by go_num,HBM2,HKX⟩
      case measure => simp [intOf];omega
     case false =>
      by_cases h1 : o.kind = 1
      case neg =>
       have kb : (o.kind == 1) = false := beq_eq_false_iff_ne.2 h1
       have HBM2 : Hid (false = true ↔ MeantB L.ops s i o (n + 1)) := Lib.hid ⟨fun h => (by cases h),fun h => absurd h.1 h1⟩
       clear h1
       go_wp2_with fail
       go_roundw
       case rel => exact ⟨false,n + 1,by omega,by omega,rfl,by go_num,HBM2,HKX⟩
       case measure => simp [intOf];omega
      case pos =>
       have kb : (o.kind == 1) = true := beq_iff_eq.2 h1
       have HK1 := Lib.hid h1
       have HMC := Lib.hid (HME.out _ HKW.out n hnt o.name)
       clear h1
       go_wp2_with fail
       refine HMC.out.mono ?_
       rintro e w4 ⟨v,rfl,hmv,rfl⟩
       obtain ⟨T,hT⟩ : ∃ T,(v == (i : Int) + 1) = T := ⟨_,rfl⟩
       have HBM2 : Hid (T = true ↔ MeantB L.ops s i o (n + 1)) := Lib.hid (by
        rw [MeantB.next HOI.out (by omega) hmv,← hT,beq_iff_eq]
        constructor
        · intro h;exact .inr ⟨HK1.out,h⟩
        · rintro (h | h)
          · exact absurd (HBM.out.2 h) (by simp)
          · exact h.2)
       clear hmv HMC
       go_wp2_with fail
       go_roundw
       case rel => exact ⟨T,n + 1,by omega,by omega,rfl,by go_num,HBM2,HKX⟩
       case measure => simp [intOf];omega
    case neg =>
     obtain rfl : n = L.ops.length + 1 := by omega
     have hnc : ((L.ops.length + 1 : Nat) : Int) = (L.ops.length : Int) + 1 := by omega
     rw [hnc]
     have HN : Hid (b = true ↔ needP L o) := Lib.hid (HBM.out.trans (HALL.out i o HOI.out))
     have k0 : wr.cell? ⟨l,0,none⟩ = some _ := HB0.out wr HKW.out
     have k3 : wr.cell? ⟨l,3,none⟩ = some _ := HB3.out wr HKW.out
     have z2 : wr.cell? ⟨g,i * 9 + 2,none⟩ = some _ := HCE.out wr HKW.out 2 _ rfl
     have z6 : wr.cell? ⟨g,i * 9 + 6,none⟩ = some _ := HCE.out wr HKW.out 6 _ rfl
     have HOX := Lib.hid (HOW.out.keptNo HKX.out)
     cases b
     case false =>
      have HFE : Hid ((L.ops.take (i + 1)).filter (fun o => decide (needP L o)) = (L.ops.take i).filter (fun o => decide (needP L o))) := Lib.hid (by
       rw [HST1.out,List.filter_append,List.filter_cons_of_neg (by rw [decide_eq_true_iff,← HN.out];simp),List.filter_nil,List.append_nil])
      have HO2 : Hid (Own Rp.opl wr (NewS S w wr (.slice Av ((L.ops.take i).filter (fun o => decide (needP L o))).length cv)) w.heap.size 36 (.slice Av ((L.ops.take i).filter (fun o => decide (needP L o))).length cv) ((L.ops.take (i + 1)).filter (fun o => decide (needP L o)))) := Lib.hid (by
       rw [HFE.out]
       exact HOX.out.mono (Nat.le_refl _) (fun k hk => hk.imp id (fun h => ⟨h.1,by have := HKX.out.size;have := h.2.1;omega,h.2.2⟩)))
      go_wp2_with fail
      go_roundw
      case rel => exact ⟨i + 1,by omega,by go_num,HO2,HKW⟩
      case measure => simp [intOf];omega
     case true =>
      have HFE : Hid ((L.ops.take (i + 1)).filter (fun o => decide (needP L o)) = (L.ops.take i).filter (fun o => decide (needP L o)) ++ [o]) := Lib.hid (by
       rw [HST1.out,List.filter_append,List.filter_cons_of_pos (by rw [decide_eq_true_iff,← HN.out]),List.filter_nil])
      obtain ⟨E,hE⟩ : ∃ E,(L.ops.take i).filter (fun o => decide (needP L o)) = E := ⟨_,rfl⟩
      have hEl : (E.length : Int) ≤ 80 := by
       have h1 := List.length_filter_le (fun o => decide (needP L o)) (L.ops.take i)
       rw [hE,List.length_take] at h1
       omega
      rw [hE] at HOX HFE
      rw [hE]
      clear hE
      have z0 : wr.cell? ⟨g,i * 9,none⟩ = some _ := HCE.out wr HKW.out 0 _ rfl
      have z1 : wr.cell? ⟨g,i * 9 + 1,none⟩ = some _ := HCE.out wr HKW.out 1 _ rfl
      have z3 : wr.cell? ⟨g,i * 9 + 3,none⟩ = some _ := HCE.out wr HKW.out 3 _ rfl
      have z4 : wr.cell? ⟨g,i * 9 + 4,none⟩ = some _ := HCE.out wr HKW.out 4 _ rfl
      have z5 : wr.cell? ⟨g,i * 9 + 5,none⟩ = some _ := HCE.out wr HKW.out 5 _ rfl
      have z7 : wr.cell? ⟨g,i * 9 + 7,none⟩ = some _ := HCE.out wr HKW.out 7 _ rfl
      have z8 : wr.cell? ⟨g,i * 9 + 8,none⟩ = some _ := HCE.out wr HKW.out 8 _ rfl
      have HSRC := Lib.hid (opl_lit wr o (.slice A' o.hashes.length c') (fun k => S k ∨ (w.heap.size ≤ k ∧ k < wr.heap.size + 1 ∧ (Value.slice Av E.length cv).ownBlock ≠ some k)) (.inr ⟨HKW.out.size,by omega,fun h => by have := (HOX.out.lt _ h).2;omega⟩) HNUM.out (Rp.str.slice.more (Rp.str.slice.keptNo HRD.out HKW.out) (fun k hk => .inl hk)))
      have HOZ : Hid (Own Rp.opl (wr.alloc (.cells (o.cells (.slice A' o.hashes.length c')).toArray 36)) (fun k => S k ∨ (w.heap.size ≤ k ∧ k < wr.heap.size + 1 ∧ (Value.slice Av E.length cv).ownBlock ≠ some k)) w.heap.size 36 (.slice Av E.length cv) E) := Lib.hid ((HOX.out.keptNo ((Kp.refl _ _).alloc _)).mono (Nat.le_refl _) (fun k hk => hk.imp id (fun h => ⟨h.1,by have := HKX.out.size;have := h.2.1;omega,h.2.2⟩)))
      have HKA : Hid (Kp No w (wr.alloc (.cells (o.cells (.slice A' o.hashes.length c')).toArray 36))) := Lib.hid (HKW.out.alloc _)
      have HSA : Hid ((wr.alloc (.cells (o.cells (.slice A' o.hashes.length c')).toArray 36)).heap.size = wr.heap.size + 1) := Lib.hid (by simp)
      go_wp2_with (at_builtin;refine wpList_append_rp (E := Rp.opl) rfl _ (.tmp 58) (.tmp 66) 37 rfl w.heap.size 36 96 el_op (fun k => S k ∨ (w.heap.size ≤ k ∧ k < wr.heap.size + 1 ∧ (Value.slice Av E.length cv).ownBlock ≠ some k)) (.slice Av E.length cv) E rfl HOZ.out (some ⟨wr.heap.size,0,none⟩) 1 (fun k => S k ∨ (w.heap.size ≤ k ∧ k < wr.heap.size + 1 ∧ (Value.slice Av E.length cv).ownBlock ≠ some k)) [o] rfl HSRC.out Rp.opl_one (by simp [maxLen];omega) (by simp;omega) HKA.out.size (fun _ h => h) (fun k hk h => by
       rcases h with h | h
       · have h1 := HSW.out k h;have h2 := (HOX.out.lt k hk).1;omega
       · exact h.2.2 hk) ?_)
      intro v9 w9 hown9 hg9 hbl9
      obtain ⟨A9,c9,rfl⟩ := hown9.shape
      have hk9 : Kp No w w9 := HKA.out.grown hg9 (fun k hk hlt => by have := (HOX.out.lt k hk).1;omega)
      have hs9 : wr.heap.size + 1 ≤ w9.heap.size := Nat.le_trans (Nat.le_of_eq HSA.out.symm) ((Kp.refl (fun _ => True) _).grown hg9 (fun _ _ _ => trivial)).size
      have hbl9 : (Value.slice A9 (E ++ [o]).length c9).ownBlock = (Value.slice Av E.length cv).ownBlock ∨ (Value.slice A9 (E ++ [o]).length c9).ownBlock = some (wr.heap.size + 1) := by first | exact hbl9 | exact hbl9.imp id (fun h => h.trans (congrArg some HSA.out))
      have HO9 : Hid (Own Rp.opl w9 (NewS S w w9 (.slice A9 (E ++ [o]).length c9)) w.heap.size 36 (.slice A9 (E ++ [o]).length c9) (E ++ [o])) := Lib.hid (hown9.mono (Nat.le_refl _) (fun k hk => hk.imp id (fun hk => ⟨hk.1,by have := hk.2.1;omega,fun h => by
       rcases hbl9 with h2 | h2
       · exact hk.2.2 (h2 ▸ h)
       · rw [h2] at h;injection h with h;have := hk.2.1;omega⟩)))
      have HK9 := Lib.hid hk9
      rw [← HFE.out] at HO9
      rw [← HFE.out]
      clear hown9 hg9 hbl9 hk9 hs9 HOZ HSRC HKA z0 z1 z2 z3 z4 z5 z6 z7 z8 k0 k3
      go_wp2_with fail
      go_roundw
      case rel => exact ⟨i + 1,by omega,by go_num,HO9,HK9⟩
      case measure => simp [intOf];omega
end Go.Proofs.YtjlbacfedfkilaaGreat
