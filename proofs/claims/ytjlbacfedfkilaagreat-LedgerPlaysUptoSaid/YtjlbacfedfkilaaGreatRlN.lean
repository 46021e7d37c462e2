/-
  The document's ledger: Needs.
-/
import Derived.Test.YtjlbacfedfkilaaGreatRlM
import Derived.Test.YtjlbacfedfkilaaGreatRlE
namespace Go.Proofs.YtjlbacfedfkilaaGreat
open Go.RowKit Go.ChangeShapes Go.WideShapes Go.ChangeAt
theorem NeedsTo.nil : NeedsTo [] [] := ⟨List.Pairwise.nil,fun x => by simp⟩
def NeedsAt (l : List OpL) (hs : List ByteArray) (out : List ByteArray) : Prop := out.Pairwise nlt ∧ ∀ x,x ∈ out ↔ (∃ o ∈ l,x ∈ o.hashes) ∨ x ∈ hs
theorem NeedsAt.start {l : List OpL} {out : List ByteArray} (h : NeedsTo l out) : NeedsAt l [] out := ⟨h.1,fun x => by rw [h.2 x];simp⟩
theorem NeedsAt.put {l : List OpL} {hs out : List ByteArray} {k : Nat} {h : ByteArray} (hn : NeedsAt l hs out) (hk : AtK k h out) : NeedsAt l (hs ++ [h]) (insK k h out) := ⟨insK_rising hn.1 hk,fun x => by
 rw [insK_mem,hn.2 x,List.mem_append,List.mem_singleton]
 constructor
 · rintro (h | h | h)
   · exact .inr (.inr h)
   · exact .inl h
   · exact .inr (.inl h)
 · rintro (h | h | h)
   · exact .inr (.inl h)
   · exact .inr (.inr h)
   · exact .inl h⟩
theorem NeedsAt.done {l : List OpL} {o : OpL} {out : List ByteArray} (h : NeedsAt l o.hashes out) : NeedsTo (l ++ [o]) out := ⟨h.1,fun x => by
 rw [h.2 x]
 constructor
 · rintro (⟨q,hq,hx⟩ | h)
   · exact ⟨q,List.mem_append_left _ hq,hx⟩
   · exact ⟨o,List.mem_append_right _ List.mem_cons_self,h⟩
 · rintro ⟨q,hq,hx⟩
   rcases List.mem_append.1 hq with hq | hq
   · exact .inl ⟨q,hq,hx⟩
   · rw [List.mem_singleton.1 hq] at hx
     exact .inr hx⟩
set_option maxRecDepth 100000 in
set_option maxHeartbeats 8000000 in
theorem r_lneeds (B : Nat) (l : Nat) (L : LV) (F S : Nat → Prop) (w : World) (h : RLAt w l L F S) (hok : OkL B L) :
 Calls Tryz.prog 52 #[.pointer (some ⟨l,0,none⟩)] w fun e w' => ∃ ov' N,e = .returned ov' ∧ NeedsTo (putsL L) N ∧ OutV w.heap.size w' ov' N ∧ N.length ≤ 1000 ∧ Kp No w w' := by
 have HPU := Lib.hid (r_lputs B l L F S w h hok)
 have hpl := putsL_len L
 have hlen := hok.len
 have HH : Hid (∀ o ∈ putsL L,o.hashes.length ≤ 8) := Lib.hid (fun o ho => (putsL_ok hok o ho).hashes)
 obtain ⟨P,hP⟩ : ∃ P,putsL L = P := ⟨_,rfl⟩
 rw [hP] at HPU HH hpl ⊢
 have hpi : (P.length : Int) ≤ 80 := by omega
 clear hok h hP hlen hpl
 go_enter Tryz.func52,Tryz.ntmps52
 go_wp2_with fail
 refine HPU.out.mono ?_
 rintro e w2 ⟨A,c,rfl,hown,hk2⟩
 have HO := Lib.hid hown
 have HK2 := Lib.hid hk2
 clear hown hk2 HPU
 go_wp2_with fail
 go_loopw [3,5] (fun ov iv wr => ∃ (i : Nat) (out : List ByteArray),i ≤ P.length ∧ iv = .int .i64 (i : Int) ∧ Hid (NeedsTo (P.take i) out) ∧ Hid (out.length ≤ 8 * i) ∧ Hid (OutV w.heap.size wr ov out) ∧ Hid (Kp No w2 wr)) (fun _ iv _ => P.length - (intOf iv).toNat)
 case atStart => exact ⟨0,[],Nat.zero_le _,rfl,Lib.hid NeedsTo.nil,Lib.hid (Nat.le_refl _),Lib.hid (.inl ⟨rfl,rfl⟩),Lib.hid (Kp.refl _ _)⟩
 case round =>
  obtain ⟨i,out,hi,rfl,HNT,HOL,HOV,HKR⟩ := hrel
  by_cases hlt : i < P.length
  case neg =>
   obtain rfl : i = P.length := by omega
   rw [List.take_length] at HNT
   go_wp2_with fail
   go_ret
   exact ⟨_,out,rfl,HNT.out,HOV.out,by have := HOL.out;omega,HK2.out.trans' HKR.out⟩
  case pos =>
   obtain ⟨wo,rfl⟩ : ∃ v,v = wr := ⟨_,rfl⟩
   have hil : (i : Int) < (P.length : Int) := by omega
   have hi0 : (0 : Int) ≤ (i : Int) := by omega
   obtain ⟨o,ho⟩ : ∃ o,P[i]? = some o := ⟨_,List.getElem?_eq_getElem hlt⟩
   obtain ⟨g,A',c',rfl,_,_,hcell,_,_,hrd⟩ := Own.at_opl HO.out ho
   have HC8 : Hid (∀ w',Kp No w2 w' → w'.cell? ⟨g,i * 9 + 8,none⟩ = some (.slice A' o.hashes.length c')) := Lib.hid (fun w' hk => (hk.cell (lt_of_cell (hcell 8 _ rfl)) (fun z => z)).trans (hcell 8 _ rfl))
   have HRD := Lib.hid hrd
   have HST1 : Hid (P.take (i + 1) = P.take i ++ [o]) := Lib.hid (take_snoc ho)
   have hhl := HH.out o (List.mem_of_getElem? ho)
   have hhi : (o.hashes.length : Int) ≤ 8 := by omega
   have HNA := Lib.hid (NeedsAt.start HNT.out)
   obtain ⟨hs,hhs⟩ : ∃ v,o.hashes = v := ⟨_,rfl⟩
   have HHS := Lib.hid hhs
   rw [hhs] at HC8 HRD hhl hhi
   clear hcell hrd ho HNT hhs
   go_wp2_with fail
   go_loopw [3,6] (fun ov kv wx => ∃ (k : Nat) (out2 : List ByteArray),k ≤ hs.length ∧ kv = .int .i64 (k : Int) ∧ Hid (NeedsAt (P.take i) (hs.take k) out2) ∧ Hid (out2.length ≤ 8 * i + k) ∧ Hid (OutV w.heap.size wx ov out2) ∧ Hid (Kp No wo wx)) (fun _ kv _ => hs.length - (intOf kv).toNat)
   case atStart => exact ⟨0,out,Nat.zero_le _,rfl,HNA,HOL,HOV,Lib.hid (Kp.refl _ _)⟩
   case round =>
    clear HNA HOV HOL
    obtain ⟨k,out2,hk,rfl,HNA,HOL,HOV,HKX⟩ := hrel
    have HKW := Lib.hid (HKR.out.trans' HKX.out)
    have z8 := HC8.out wr HKW.out
    by_cases hkt : k < hs.length
    case neg =>
     obtain rfl : k = hs.length := by omega
     have HNT2 : Hid (NeedsTo (P.take (i + 1)) out2) := Lib.hid (by
      rw [HST1.out]
      refine NeedsAt.done ?_
      rw [HHS.out]
      have := HNA.out
      rwa [List.take_length] at this)
     have HOL2 : Hid (out2.length ≤ 8 * (i + 1)) := Lib.hid (by have := HOL.out;omega)
     go_wp2_with fail
     go_roundw
     case rel => exact ⟨i + 1,out2,by omega,by go_num,HNT2,HOL2,HOV,HKW⟩
     case measure => simp [intOf];omega
    case pos =>
     have hkl : (k : Int) < (hs.length : Int) := by omega
     have hk0 : (0 : Int) ≤ (k : Int) := by omega
     obtain ⟨x,hx⟩ : ∃ x,hs[k]? = some x := ⟨_,List.getElem?_eq_getElem hkt⟩
     obtain ⟨ado,rfl,_,hcx,hxs⟩ := Rp.at_str (Rp.str.slice.keptNo HRD.out HKW.out) hx
     have HTS : Hid (hs.take (k + 1) = hs.take k ++ [x]) := Lib.hid (take_snoc hx)
     have HPC := Lib.hid (r_lput w.heap.size _ out2 x wr HOV.out (by have := HK2.out.size;have := HKW.out.size;omega) (by have := HOL.out;omega) hxs)
     obtain ⟨Ao,co,rfl,_⟩ := HOV.out.read
     clear hxs hx
     go_wp2_with fail
     refine HPC.out.mono ?_
     rintro e w5 ⟨j,ov5,hak,rfl,hov5,hk5⟩
     have HNA2 : Hid (NeedsAt (P.take i) (hs.take (k + 1)) (insK j x out2)) := Lib.hid (by rw [HTS.out];exact HNA.out.put hak)
     have HLE : Hid ((insK j x out2).length ≤ 8 * i + (k + 1)) := Lib.hid (by have := HOL.out;have := insK_len (nm := x) hak.1;omega)
     have HOV5 := Lib.hid hov5
     have HK5 := Lib.hid (HKX.out.trans' hk5)
     clear hak hov5 hk5 HPC z8 hcx
     go_wp2_with fail
     go_roundw
     case rel => exact ⟨k + 1,_,by omega,by go_num,HNA2,HLE,HOV5,HK5⟩
     case measure => simp [intOf];omega
end Go.Proofs.YtjlbacfedfkilaaGreat
