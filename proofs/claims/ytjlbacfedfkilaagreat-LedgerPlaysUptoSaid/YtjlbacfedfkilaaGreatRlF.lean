/-
  The document's ledger: Names, Used.
-/
import Derived.Test.YtjlbacfedfkilaaGreatRlE
namespace Go.Proofs.YtjlbacfedfkilaaGreat
open Go.RowKit Go.ChangeShapes Go.WideShapes Go.ChangeAt
theorem insK_mem {k : Nat} {nm x : ByteArray} {out : List ByteArray} : x ∈ insK k nm out ↔ x = nm ∨ x ∈ out := by
 unfold insK
 split
 · rename_i h
   constructor
   · exact fun h => .inr h
   · rintro (rfl | h2)
     · exact List.mem_of_getElem? h
     · exact h2
 · rw [List.mem_append,List.mem_cons]
   constructor
   · rintro (h | h | h)
     · exact .inr (List.mem_of_mem_take h)
     · exact .inl h
     · exact .inr (List.mem_of_mem_drop h)
   · rintro (h | h)
     · exact .inr (.inl h)
     · rw [← List.take_append_drop k out] at h
       rcases List.mem_append.1 h with h | h
       · exact .inl h
       · exact .inr (.inr h)
theorem insK_len {k : Nat} {nm : ByteArray} {out : List ByteArray} (hk : k ≤ out.length) : (insK k nm out).length ≤ out.length + 1 := by
 unfold insK
 split
 · omega
 · simp only [List.length_append,List.length_cons,List.length_take,List.length_drop];omega
theorem insK_rising {k : Nat} {nm : ByteArray} {out : List ByteArray} (hs : out.Pairwise nlt) (h : AtK k nm out) : (insK k nm out).Pairwise nlt := by
 unfold insK
 split
 · exact hs
 · rename_i hne
   obtain ⟨h1,h2,h3⟩ := h
   have hs2 := hs
   rw [← List.take_append_drop k out,List.pairwise_append] at hs2
   obtain ⟨p1,p2,p3⟩ := hs2
   have hlow : ∀ x ∈ out.take k,nlt x nm := fun x hx => by
    obtain ⟨j,hj⟩ := List.getElem?_of_mem hx
    have hjk : j < k := by have := (List.getElem?_eq_some_iff.1 hj).1;rw [List.length_take] at this;omega
    rw [List.getElem?_take,if_pos hjk] at hj
    exact h2 j x hjk hj
   have hhigh : ∀ x ∈ out.drop k,nlt nm x := fun x hx => by
    rcases h3 with h3 | ⟨d,hd,hnd⟩
    · rw [List.drop_eq_nil_of_le (by omega)] at hx
      cases hx
    · obtain ⟨e1,e2⟩ := List.getElem?_eq_some_iff.1 hd
      have hdn : d ≠ nm := fun e => hne (by rw [hd,e])
      have hnd2 : nlt nm d := nlt_tri hnd hdn
      rw [List.drop_eq_getElem_cons e1,e2] at hx p2
      rcases List.mem_cons.1 hx with rfl | hx
      · exact hnd2
      · exact nlt_trans hnd2 ((List.pairwise_cons.1 p2).1 x hx)
   rw [List.pairwise_append]
   refine ⟨p1,List.pairwise_cons.2 ⟨hhigh,p2⟩,fun a ha b hb => ?_⟩
   rcases List.mem_cons.1 hb with rfl | hb
   · exact hlow a ha
   · exact nlt_trans (hlow a ha) (hhigh b hb)
def NamesTo (V : Sheets) (L : List OpL) (out : List ByteArray) : Prop := out.Pairwise nlt ∧ ∀ x,x ∈ out ↔ ∃ o ∈ L,o.kind ≠ 3 ∧ (mget o.name V).isSome = true ∧ o.name = x
theorem NamesTo.nil (V : Sheets) : NamesTo V [] [] := ⟨List.Pairwise.nil,fun x => by simp⟩
theorem NamesTo.skip {V : Sheets} {L : List OpL} {out : List ByteArray} {o : OpL} (h : NamesTo V L out) (hs : ¬ (o.kind ≠ 3 ∧ (mget o.name V).isSome = true)) : NamesTo V (L ++ [o]) out := ⟨h.1,fun x => by
 rw [h.2 x]
 constructor
 · rintro ⟨q,hq,hr⟩
   exact ⟨q,List.mem_append_left _ hq,hr⟩
 · rintro ⟨q,hq,h1,h2,h3⟩
   rcases List.mem_append.1 hq with hq | hq
   · exact ⟨q,hq,h1,h2,h3⟩
   · rw [List.mem_singleton.1 hq] at h1 h2
     exact absurd ⟨h1,h2⟩ hs⟩
theorem NamesTo.put {V : Sheets} {L : List OpL} {out : List ByteArray} {o : OpL} {k : Nat} (h : NamesTo V L out) (h1 : o.kind ≠ 3) (h2 : (mget o.name V).isSome = true) (hk : AtK k o.name out) : NamesTo V (L ++ [o]) (insK k o.name out) := ⟨insK_rising h.1 hk,fun x => by
 rw [insK_mem,h.2 x]
 constructor
 · rintro (rfl | ⟨q,hq,hr⟩)
   · exact ⟨o,List.mem_append_right _ List.mem_cons_self,h1,h2,rfl⟩
   · exact ⟨q,List.mem_append_left _ hq,hr⟩
 · rintro ⟨q,hq,h3,h4,h5⟩
   rcases List.mem_append.1 hq with hq | hq
   · exact .inr ⟨q,hq,h3,h4,h5⟩
   · rw [List.mem_singleton.1 hq] at h5
     exact .inl h5.symm⟩
theorem live_op (k : ByteArray) : ∀ (n : Nat) (l : List OpL),l.length = n → (∀ o ∈ l,okP o) → ∀ q,mget k (FV.fresh.take l).live = some q → ∃ o ∈ l,o.kind ≠ 3 ∧ o.name = k
 | 0,l,hn,_,q,h => by
   obtain rfl := List.eq_nil_of_length_eq_zero hn
   cases h
 | n + 1,l,hn,ho,q,h => by
   rcases List.eq_nil_or_concat l with rfl | ⟨l',o,rfl⟩
   · cases hn
   · rw [List.concat_eq_append] at hn ho h ⊢
     have hok := ho o (List.mem_append_right _ List.mem_cons_self)
     have ho' : ∀ x ∈ l',okP x := fun x hx => ho x (List.mem_append_left _ hx)
     have hkd : o.kind = 1 ∨ o.kind = 2 ∨ o.kind = 3 := by
      rcases hok.2 with h | h | h
      · exact .inl h.1
      · exact .inr (.inl h.1)
      · exact .inr (.inr h.1)
     rw [live_one l' o k hkd ((FV.fresh_ok.take l' (fun x hx _ => by have := (ho' x hx).size;unfold Small;omega)).nodup)] at h
     by_cases h3 : o.kind = 3 ∨ o.name ≠ k
     · rw [if_pos h3] at h
       obtain ⟨p,hp,h1⟩ := live_op k n l' (by rw [List.length_append] at hn;simpa using hn) ho' q h
       exact ⟨p,List.mem_append_left _ hp,h1⟩
     · exact ⟨o,List.mem_append_right _ List.mem_cons_self,fun e => h3 (.inl e),Classical.byContradiction (fun e => h3 (.inr e))⟩
theorem NamesTo.all {B : Nat} {L : LV} {out : List ByteArray} (h : NamesTo L.fold.live L.ops out) (hok : OkL B L) : out = namesL L := by
 have hn := hok.foldOk.nodup
 refine (sortedN_eq ((List.perm_ext_iff_of_nodup hn (h.1.imp (fun h => nlt_ne h))).2 (fun x => ?_)) h.1).symm
 rw [h.2 x]
 constructor
 · intro hx
   cases hq : mget x L.fold.live with
   | none => exact absurd hx ((mget_none_iff _ _).1 hq)
   | some q =>
     obtain ⟨o,ho,h1,h2⟩ := live_op x _ L.ops rfl (fun o ho => hok.okOf ho) q hq
     exact ⟨o,ho,h1,by rw [h2,hq];rfl,h2⟩
 · rintro ⟨o,ho,h1,h2,rfl⟩
   exact Classical.byContradiction (fun hx => by
    have := (mget_none_iff o.name L.fold.live).2 hx
    rw [this] at h2
    cases h2)
set_option maxRecDepth 100000 in
set_option maxHeartbeats 8000000 in
theorem r_lnames (B : Nat) (l : Nat) (L : LV) (F S : Nat → Prop) (w : World) (h : RLAt w l L F S) (hok : OkL B L) :
 Calls Tryz.prog 50 #[.pointer (some ⟨l,0,none⟩)] w fun e w' => ∃ ov',e = .returned ov' ∧ OutV w.heap.size w' ov' (namesL L) ∧ Kp No w w' := by
 have HSH := Lib.hid (fun w' (hk : Kp No w w') (nm : ByteArray) => r_lsheet B nm l L F S w' (h.keptNo hk) hok)
 obtain ⟨ov,gv,hin,_⟩ := h
 obtain ⟨A,c,rfl⟩ := hin.ops.shape
 have HBL : Hid (∀ w',Kp No w w' → w'.cell? ⟨l,0,none⟩ = some (.slice A L.ops.length c)) := Lib.hid (fun w' hk => Blk.cell (hin.keptNo hk).blk rfl)
 have HO := Lib.hid hin.ops
 have HOK := Lib.hid hok
 have hli : (L.ops.length : Int) ≤ 80 := by have := hok.len;omega
 have HG : Hid (∃ g,w.heap.size = g) := Lib.hid ⟨_,rfl⟩
 clear hin hok
 go_enter Tryz.func50,Tryz.ntmps50
 go_wp2_with fail
 go_loopw [3,4] (fun ov iv wr => ∃ (i : Nat) (out : List ByteArray),i ≤ L.ops.length ∧ iv = .int .i64 (i : Int) ∧ Hid (NamesTo L.fold.live (L.ops.take i) out) ∧ Hid (out.length ≤ i) ∧ Hid (OutV w.heap.size wr ov out) ∧ Hid (Kp No w wr)) (fun _ iv _ => L.ops.length - (intOf iv).toNat)
 case atStart => exact ⟨0,[],Nat.zero_le _,rfl,Lib.hid (NamesTo.nil _),Lib.hid (Nat.le_refl _),Lib.hid (.inl ⟨rfl,rfl⟩),Lib.hid (Kp.refl _ _)⟩
 case round =>
  obtain ⟨i,out,hi,rfl,HNT,HOL,HOV,HKR⟩ := hrel
  have k0 := HBL.out wr HKR.out
  by_cases hlt : i < L.ops.length
  case neg =>
   obtain rfl : i = L.ops.length := by omega
   have hon : out = namesL L := by
    have h := HNT.out
    rw [List.take_length] at h
    exact h.all HOK.out
   have HON := Lib.hid hon
   clear hi hlt hon
   go_wp2_with fail
   go_ret
   exact ⟨_,rfl,by rw [← HON.out];exact HOV.out,HKR.out⟩
  case pos =>
   have hil : (i : Int) < (L.ops.length : Int) := by omega
   have hi0 : (0 : Int) ≤ (i : Int) := by omega
   obtain ⟨o,ho⟩ : ∃ o,L.ops[i]? = some o := ⟨_,List.getElem?_eq_getElem hlt⟩
   obtain ⟨g,A',c',rfl,_,_,hcell,_,hnum,_⟩ := Own.at_opl HO.out ho
   have HCE : Hid (∀ w',Kp No w w' → ∀ (j : Nat) u,(o.cells (.slice A' o.hashes.length c'))[j]? = some u → w'.cell? ⟨g,i * 9 + j,none⟩ = some u) := Lib.hid (fun w' hk j u hu => (hk.cell (lt_of_cell (hcell j u hu)) (fun z => z)).trans (hcell j u hu))
   have HNS : Hid (o.name.size ≤ maxLen) := Lib.hid hnum.2.2.2.2.2.2.1
   have HST1 : Hid (L.ops.take (i + 1) = L.ops.take i ++ [o]) := Lib.hid (take_snoc ho)
   obtain ⟨X,hX⟩ : ∃ X,(mget o.name L.fold.live).isSome = X := ⟨_,rfl⟩
   have HX := Lib.hid hX
   have HSO := Lib.hid (fun w' hk => HSH.out w' hk o.name)
   rw [hX] at HSO
   clear hcell hnum hX ho
   go_upto_region 5 with fail
   clear k0
   go_cut [6] (fun bv wx => bv = .bool X ∧ Hid (Kp No wr wx))
   case first =>
    have k0 := HBL.out wr HKR.out
    have z6 : wr.cell? ⟨g,i * 9 + 6,none⟩ = some _ := HCE.out wr HKR.out 6 _ rfl
    go_wp2_with fail
    refine (HSO.out wr HKR.out).mono ?_
    rintro e w4 ⟨A6,c6,rfl,_,hk4⟩
    have HK4 := Lib.hid (hk4 : Kp No wr w4)
    clear hk4 k0 z6
    go_wp2_with fail
    go_meet
    exact ⟨rfl,Lib.hid (HK4.out.trans' ((Kp.refl No w4).alloc _))⟩
   case rest =>
    obtain ⟨rfl,HKC⟩ := hcut
    have HKW := Lib.hid (HKR.out.trans' HKC.out)
    have HOV2 := Lib.hid (HOV.out.keptNo HKC.out)
    have k0 := HBL.out wc HKW.out
    have z2 : wc.cell? ⟨g,i * 9 + 2,none⟩ = some _ := HCE.out wc HKW.out 2 _ rfl
    by_cases h3 : o.kind = 3
    case pos =>
     have kn : (o.kind != 3) = false := by rw [h3];rfl
     have HNT2 : Hid (NamesTo L.fold.live (L.ops.take (i + 1)) out) := Lib.hid (by rw [HST1.out];exact HNT.out.skip (fun h => h.1 h3))
     clear h3
     go_wp2_with fail
     go_roundw
     case rel => exact ⟨i + 1,out,by omega,by go_num,HNT2,Lib.hid (by have := HOL.out;omega),HOV2,HKW⟩
     case measure => simp [intOf];omega
    case neg =>
     have kn : (o.kind != 3) = true := bne_iff_ne.2 h3
     have H3 := Lib.hid h3
     clear h3
     cases X
     case false =>
      have HNT2 : Hid (NamesTo L.fold.live (L.ops.take (i + 1)) out) := Lib.hid (by rw [HST1.out];exact HNT.out.skip (fun h => by rw [HX.out] at h;cases h.2))
      go_wp2_with fail
      go_roundw
      case rel => exact ⟨i + 1,out,by omega,by go_num,HNT2,Lib.hid (by have := HOL.out;omega),HOV2,HKW⟩
      case measure => simp [intOf];omega
     case true =>
      have z6 : wc.cell? ⟨g,i * 9 + 6,none⟩ = some _ := HCE.out wc HKW.out 6 _ rfl
      have HPU := Lib.hid (r_lput w.heap.size _ out o.name wc HOV2.out HKW.out.size (by have := HOL.out;omega) HNS.out)
      go_wp2_with fail
      refine HPU.out.mono ?_
      rintro e w5 ⟨k,ov5,hak,rfl,hov5,hk5⟩
      have HNT2 : Hid (NamesTo L.fold.live (L.ops.take (i + 1)) (insK k o.name out)) := Lib.hid (by rw [HST1.out];exact HNT.out.put H3.out HX.out hak)
      have HLE : Hid ((insK k o.name out).length ≤ i + 1) := Lib.hid (by have := HOL.out;have := insK_len (nm := o.name) hak.1;omega)
      have HOV5 := Lib.hid hov5
      have HK5 := Lib.hid (HKW.out.trans' hk5)
      clear hak hov5 hk5 k0 z2 z6
      go_wp2_with fail
      go_roundw
      case rel => exact ⟨i + 1,_,by omega,by go_num,HNT2,HLE,HOV5,HK5⟩
      case measure => simp [intOf];omega
def sizesOf (L : LV) (l : List ByteArray) : Int := (l.map (fun n => (sheetOf n L).1)).sum
theorem perm_sumI {l m : List Int} (h : l.Perm m) : l.sum = m.sum := by
 induction h with
 | nil => rfl
 | cons x _ ih => simp only [List.sum_cons,ih]
 | swap x y l => simp only [List.sum_cons];omega
 | trans _ _ ih1 ih2 => rw [ih1,ih2]
theorem sizes_keys : ∀ (l V : Sheets),(l.map (·.1)).Nodup → (∀ k ∈ l.map (·.1),mget k V = mget k l) → ((l.map (·.1)).map (fun n => ((mget n V).getD (0,[])).1)).sum = sumS l
 | [],_,_,_ => rfl
 | p :: l,V,hn,hv => by
   rw [List.map_cons,List.nodup_cons] at hn
   have h1 := hv p.1 (by simp)
   have h2 := sizes_keys l V hn.2 (fun k hk => by
    rw [hv k (by rw [List.map_cons];exact List.mem_cons_of_mem _ hk)]
    have : k ≠ p.1 := fun e => hn.1 (e ▸ hk)
    simp [mget,this])
   unfold sumS at h2 ⊢
   simp only [List.map_cons,List.sum_cons,h1]
   rw [h2]
   simp [mget]
theorem sizes_all {B : Nat} {L : LV} (hok : OkL B L) : sizesOf L (namesL L) = L.fold.used := by
 have hn := hok.foldOk.nodup
 have hp : (namesL L).Perm (L.fold.live.map (·.1)) := by
  unfold namesL sortedN
  have h1 := (List.mergeSort_perm ((L.fold.live.map (·.1)).map fun s => s.data.toList) leB).map bs
  refine h1.trans (List.Perm.of_eq ?_)
  rw [List.map_map]
  conv => rhs;rw [← List.map_id (L.fold.live.map (·.1))]
  exact List.map_congr_left (fun x _ => by simp [bs])
 unfold sizesOf FV.used
 rw [perm_sumI (hp.map _)]
 exact sizes_keys L.fold.live L.fold.live hn (fun _ _ => rfl)
theorem sizes_small {B : Nat} {L : LV} (hok : OkL B L) : ∀ l : List ByteArray,0 ≤ sizesOf L l ∧ sizesOf L l ≤ 1073741824 * l.length
 | [] => by simp [sizesOf]
 | n :: l => by
   obtain ⟨h1,h2⟩ := sizes_small hok l
   have h3 := hok.foldOk.sizeAt_small n
   have h4 : (sheetOf n L).1 = sizeAt n L.fold.live := by unfold sheetOf sizeAt;cases mget n L.fold.live <;> rfl
   unfold sizesOf at h1 h2 ⊢
   unfold Small at h3
   simp only [List.map_cons,List.sum_cons,List.length_cons,h4]
   omega
theorem sizes_snoc (L : LV) (l : List ByteArray) (n : ByteArray) : sizesOf L (l ++ [n]) = sizesOf L l + (sheetOf n L).1 := by
 unfold sizesOf;simp
set_option maxRecDepth 100000 in
set_option maxHeartbeats 8000000 in
theorem r_lused (B : Nat) (l : Nat) (L : LV) (F S : Nat → Prop) (w : World) (h : RLAt w l L F S) (hok : OkL B L) :
 Calls Tryz.prog 54 #[.pointer (some ⟨l,0,none⟩)] w fun e w' => e = .returned (.int .i64 L.fold.used) ∧ Kp No w w' := by
 have HSH := Lib.hid (fun w' (hk : Kp No w w') (nm : ByteArray) => r_lsheet B nm l L F S w' (h.keptNo hk) hok)
 have hnm := r_lnames B l L F S w h hok
 have HU := Lib.hid (sizes_all hok)
 have HSM := Lib.hid (sizes_small hok)
 have hnl : (namesL L).length ≤ 80 := by
  have h1 := hok.names.2
  unfold namesL
  rw [sortedN_length,List.length_map]
  exact h1
 obtain ⟨N,hN⟩ : ∃ N,namesL L = N := ⟨_,rfl⟩
 obtain ⟨U,hU⟩ : ∃ U,L.fold.used = U := ⟨_,rfl⟩
 rw [hN] at hnm HU hnl
 rw [hU] at HU ⊢
 clear hN hU h hok
 go_enter Tryz.func54,Tryz.ntmps54
 go_wp2_with fail
 refine hnm.mono ?_
 rintro e w2 ⟨ov,rfl,hov,hk2⟩
 obtain ⟨An,cn,rfl,hrn⟩ := hov.read
 have HRN := Lib.hid hrn
 have HK2 := Lib.hid (hk2 : Kp No w w2)
 clear hov hrn hk2 hnm
 go_wp2_with fail
 go_loopw [3,5] (fun nv iv wr => ∃ i : Nat,i ≤ N.length ∧ nv = .int .i64 (sizesOf L (N.take i)) ∧ iv = .int .i64 (i : Int) ∧ Hid (Kp No w2 wr)) (fun _ iv _ => N.length - (intOf iv).toNat)
 case atStart => exact ⟨0,Nat.zero_le _,rfl,rfl,Lib.hid (Kp.refl _ _)⟩
 case round =>
  obtain ⟨i,hi,rfl,rfl,HKR⟩ := hrel
  by_cases hlt : i < N.length
  case neg =>
   obtain rfl : i = N.length := by omega
   have HE : Hid (sizesOf L (N.take N.length) = U) := Lib.hid (by rw [List.take_length];exact HU.out)
   clear hi hlt
   go_wp2_with fail
   go_ret
   exact ⟨by rw [HE.out];rfl,HK2.out.trans' HKR.out⟩
  case pos =>
   have hil : (i : Int) < (N.length : Int) := by omega
   have hi0 : (0 : Int) ≤ (i : Int) := by omega
   obtain ⟨nm,hx⟩ : ∃ x,N[i]? = some x := ⟨_,List.getElem?_eq_getElem hlt⟩
   obtain ⟨ado,rfl,_,hcx,_⟩ := Rp.at_str (Rp.str.slice.keptNo HRN.out HKR.out) hx
   have HSO := HSH.out wr (HK2.out.trans' HKR.out) nm
   have HTS : Hid (N.take (i + 1) = N.take i ++ [nm]) := Lib.hid (take_snoc hx)
   obtain ⟨sz,hsz⟩ : ∃ v,sizesOf L (N.take i) = v := ⟨_,rfl⟩
   obtain ⟨s1,hs1⟩ : ∃ v,(sheetOf nm L).1 = v := ⟨_,rfl⟩
   have h1 := HSM.out (N.take (i + 1))
   have h2 := HSM.out (N.take i)
   rw [HTS.out,sizes_snoc,hsz,hs1,List.length_append,List.length_singleton,List.length_take] at h1
   rw [hsz,List.length_take] at h2
   have hb0 : 0 ≤ sz + s1 := h1.1
   have hb1 : sz + s1 ≤ 107374182400 := by omega
   have hb2 : 0 ≤ sz := h2.1
   have HE2 : Hid (sizesOf L (N.take (i + 1)) = sz + s1) := Lib.hid (by rw [HTS.out,sizes_snoc,hsz,hs1])
   rw [hs1] at HSO
   rw [hsz]
   clear hsz hs1 h1 h2 hx
   go_wp2_with fail
   refine HSO.mono ?_
   rintro e w4 ⟨A6,c6,rfl,_,hk4⟩
   have HK4 := Lib.hid (hk4 : Kp No wr w4)
   clear hk4 hcx HSO
   go_wp2_with fail
   go_roundw
   case rel => exact ⟨i + 1,by omega,by rw [HE2.out],by go_num,Lib.hid (HKR.out.trans' (HK4.out.trans' ((Kp.refl No w4).alloc _)))⟩
   case measure => simp [intOf];omega
end Go.Proofs.YtjlbacfedfkilaaGreat
