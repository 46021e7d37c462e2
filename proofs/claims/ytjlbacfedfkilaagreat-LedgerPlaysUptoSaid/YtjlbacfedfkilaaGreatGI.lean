/-
  Put together: SortL, LedN, LitW, ShtG.
-/
import Derived.Test.YtjlbacfedfkilaaGreatShelf
import Derived.Test.YtjlbacfedfkilaaGreatGB
import Derived.Test.YtjlbacfedfkilaaGreatGA
import Derived.Sort.KeysCollected
import Derived.StringKeys
import Derived.Test.YtjlbacfedfkilaaGreatGH
import Derived.Test.YtjlbacfedfkilaaGreatGF
import Derived.Test.YtjlbacfedfkilaaGreatGE
namespace Go.Proofs.YtjlbacfedfkilaaGreat
section
open Go.RowKit Go.ChangeShapes Go.WideShapes Go.ChangeAt
def nlt (a b : ByteArray) : Prop := a.data.toList < b.data.toList
instance (a b : ByteArray) : Decidable (nlt a b) := inferInstanceAs (Decidable (a.data.toList < b.data.toList))
theorem data_inj {a b : ByteArray} (h : a.data.toList = b.data.toList) : a = b := by
 rw [← bs_of a,h,bs_of]
theorem nlt_irrefl (a : ByteArray) : ¬ nlt a a := List.lt_irrefl _
theorem nlt_trans {a b c : ByteArray} (h : nlt a b) (k : nlt b c) : nlt a c := List.lt_trans h k
theorem nlt_ne {a b : ByteArray} (h : nlt a b) : a ≠ b := fun e => nlt_irrefl b (e ▸ h)
theorem nlt_asymm {a b : ByteArray} (h : nlt a b) : ¬ nlt b a := fun k => nlt_irrefl _ (nlt_trans h k)
theorem nlt_tri {a b : ByteArray} (h : ¬ nlt a b) (hn : a ≠ b) : nlt b a := by
 unfold nlt at *
 rw [List.not_lt] at h
 rcases Decidable.em (b.data.toList < a.data.toList) with h1 | h1
 · exact h1
 · rw [List.not_lt] at h1
   exact absurd (data_inj (List.le_antisymm h1 h)) hn
def sortedN (l : List ByteArray) : List ByteArray := ((l.map fun s => s.data.toList).mergeSort leB).map bs
theorem sortedN_length (l : List ByteArray) : (sortedN l).length = l.length := by simp [sortedN]
theorem leB_trans (a b c : List UInt8) (h1 : leB a b = true) (h2 : leB b c = true) : leB a c = true := by simp only [leB,decide_eq_true_eq] at *;exact List.le_trans h1 h2
theorem leB_total (a b : List UInt8) : (leB a b || leB b a) = true := by simp only [leB,Bool.or_eq_true,decide_eq_true_eq];exact List.le_total a b
theorem mem_sortedN {l : List ByteArray} {x : ByteArray} : x ∈ sortedN l ↔ x ∈ l := by
 unfold sortedN
 rw [List.mem_map]
 constructor
 · rintro ⟨y,hy,rfl⟩
   rw [List.mem_mergeSort,List.mem_map] at hy
   obtain ⟨z,hz,rfl⟩ := hy
   rw [bs_of];exact hz
 · intro h
   exact ⟨x.data.toList,by rw [List.mem_mergeSort];exact List.mem_map.2 ⟨x,h,rfl⟩,bs_of x⟩
theorem sortedN_eq {l l' : List ByteArray} (hp : l.Perm l') (hr : l'.Pairwise nlt) : sortedN l = l' := by
 have h1 : (l.map fun s => s.data.toList).mergeSort leB = l'.map fun s => s.data.toList := by
  rw [mergeSort_of_perm (hp.map _)]
  refine List.mergeSort_of_pairwise ?_
  refine List.pairwise_map.2 (hr.imp fun {a b} h => ?_)
  simp only [leB,decide_eq_true_eq]
  exact List.le_of_lt h
 unfold sortedN
 rw [h1,List.map_map]
 conv => rhs;rw [← List.map_id l']
 exact List.map_congr_left fun s _ => bs_of s
theorem MapOf.owns {P : Program} {w : World} {b : Nat} {l : List (ByteArray × Value)} (K : TypeId) (hk : P.underlying K = some .string) (h : MapOf w b Value.string l) (hs : ∀ p ∈ l,p.1.size ≤ maxLen) (hn : l.length ≤ maxLen) :
 ∃ D0 : DataW Unit,w.ownsMap P K (fun _ => some (.nil,[])) b l.length D0 ∧ (strKeys D0).Perm (l.map fun p => p.1.data.toList) ∧ Maps.size D0 = l.length := by
 obtain ⟨es,clock,hb,h1,h2,h3,h4⟩ := h
 have hlen : es.size = l.length := by have := congrArg List.length h1;simpa using this
 have hkey : ∀ (j : Nat) e,es.toList[j]? = some e → ∃ p,l[j]? = some p ∧ e.key = .string p.1 ∧ p.1.size ≤ maxLen := by
  intro j e he
  have := congrArg (fun l : List (Value × Value) => l[j]?) h1
  simp only [List.getElem?_map,he,Option.map_some] at this
  cases hl : l[j]? with
  | none => rw [hl] at this;cases this
  | some p =>
    rw [hl] at this
    simp only [Option.map_some,Option.some.injEq,Prod.mk.injEq] at this
    exact ⟨p,rfl,this.1,hs p (List.mem_of_getElem? hl)⟩
 have hrd : ∀ (j : Nat) e,es.toList[j]? = some e → ∃ p,l[j]? = some p ∧ WideElems.rd P K (fun _ => some ((.nil : DataW Unit),[])) e = some (.string p.1.data.toList,.nil) := by
  intro j e he
  obtain ⟨p,hp,hk1,hps⟩ := hkey j e he
  refine ⟨p,hp,?_⟩
  unfold WideElems.rd
  rw [hk1,WideMaps.keyOf_string_mk hk hps]
  rfl
 refine ⟨_,⟨es,clock,hb,⟨by rw [hlen];exact hn,⟨fun x hx => h3 x (Array.mem_toList_iff.1 hx),h4,?_⟩,?_⟩,Nat.le_of_eq hlen,rfl⟩,?_,?_⟩
 · have e1 : es.toList.map (·.key) = (l.map (·.1)).map Value.string := by
    have := congrArg (List.map Prod.fst) h1
    simpa [List.map_map,Function.comp_def] using this
   rw [e1]
   exact List.pairwise_map.2 (h2.imp fun hne e => hne (by injection e))
 · intro x hx
   obtain ⟨j,hj⟩ := List.mem_iff_getElem?.1 hx
   obtain ⟨p,_,h5⟩ := hrd j x hj
   exact ⟨_,h5⟩
 · refine ((sorted_perm _).map _).trans ?_
   refine List.Perm.of_eq ?_
   apply List.ext_getElem?
   intro j
   simp only [List.getElem?_map]
   cases he : es.toList[j]? with
   | none =>
     have : l[j]? = none := by
      rw [List.getElem?_eq_none_iff] at he ⊢
      rw [Array.length_toList] at he;omega
     rw [this];rfl
   | some e =>
     obtain ⟨p,hp,h5⟩ := hrd j e he
     rw [hp]
     simp only [Option.map_some]
     unfold WideElems.rg
     rw [h5];rfl
 · have := (sorted_perm (es.toList.map (WideElems.rg P K (fun _ => some ((.nil : DataW Unit),[]))))).length_eq
   show List.length _ = _
   rw [this,List.length_map,Array.length_toList,hlen]
theorem own_of_sorted {w : World} {base : Nat} {v : Value} {ss : List (List UInt8)} (h : w.ownsRow base 9 1 v ss.length ((ss.mergeSort (fun x y => decide (x ≤ y))).map Go.Proofs.encStr)) {l : List ByteArray} (hp : ss.Perm (l.map fun s => s.data.toList)) (hs : ∀ s ∈ l,s.size ≤ maxLen) :
 Own Rp.str w No base 9 v (sortedN l) := by
 have e1 : (ss.mergeSort (fun x y => decide (x ≤ y))).map Go.Proofs.encStr = (sortedN l).map Value.string := by
  unfold sortedN
  rw [← mergeSort_of_perm hp,List.map_map]
  exact List.map_congr_left fun x _ => rfl
 rw [e1] at h
 have hl : ss.length = ((sortedN l).map Value.string).length := by rw [List.length_map,sortedN_length,hp.length_eq,List.length_map]
 rw [hl] at h
 refine Own.ofRaw (S := No) Rp.str_by (Own.of_raw h (fun u hu => ?_)) (fun a ha => hs a (mem_sortedN.1 ha)) No
 obtain ⟨a,_,rfl⟩ := List.mem_map.1 hu
 rfl
end
section
open Go.RowKit Go.ChangeShapes Go.WideShapes Go.ChangeAt
def namesL (L : LV) : List ByteArray := sortedN (L.fold.live.map (·.1))
theorem live_take : ∀ (l : List OpL) (f : FV),(∀ p ∈ f.live,p.1.size ≤ 16) → (∀ o ∈ l,okP o) → ∀ p ∈ (f.take l).live,p.1.size ≤ 16
 | [],f,h,_ => h
 | o :: l,f,h,ho => by
   refine live_take l (f.take1 o) ?_ (fun x hx => ho x (List.mem_cons_of_mem _ hx))
   intro p hp
   have h1 := ho o List.mem_cons_self
   unfold FV.take1 at hp
   split at hp
   · exact h p hp
   · simp only at hp
     split at hp
     · rename_i hk
       rcases mem_mput _ _ _ _ hp with hp | hp
       · rw [hp]
         rcases h1.2 with ⟨_,h2,_⟩ | ⟨h2,_⟩ | ⟨h2,_⟩
         · exact h2.2.2.2.2.2
         · omega
         · omega
       · exact h p (mem_mdel _ _ _ hp)
     · exact h p (mem_mdel _ _ _ hp)
theorem OkL.names {B : Nat} {L : LV} (h : OkL B L) : (∀ p ∈ L.fold.live,p.1.size ≤ 16) ∧ L.fold.live.length ≤ 80 :=
 ⟨live_take L.ops FV.fresh (fun p hp => by cases hp) (fun _ ho => h.okOf ho),Nat.le_trans h.foldOk.len h.len⟩
theorem c_keys_Sheet (m : Nat) (w : World) : Calls Tryz.prog 88 #[.map (some m)] w fun e w' => e = .returned (.func (.func 162) #[] #[.pointer (some ⟨w.heap.size,0,none⟩)]) ∧ w' = w.alloc (.cells #[.map (some m)] 82) :=
 callsIn_wide.1 (sh_keys_Sheet (some m) w)
theorem c_sorted_Sheet (m : Nat) (l : List (ByteArray × Value)) (w : World) (hM : MapOf w m Value.string l) (hs : ∀ p ∈ l,p.1.size ≤ maxLen) (hn : l.length ≤ 1000000) :
 Calls Tryz.prog 87 #[.func (.func 162) #[] #[.pointer (some ⟨w.heap.size,0,none⟩)]] (w.alloc (.cells #[.map (some m)] 82)) fun e w' =>
  ∃ A c,e = .returned (.slice A (sortedN (l.map (·.1))).length c) ∧ Own Rp.str w' No (w.heap.size + 1) 9 (.slice A (sortedN (l.map (·.1))).length c) (sortedN (l.map (·.1))) ∧ Kp No w w' := by
 obtain ⟨D0,h1,h2,h3⟩ := hM.owns (P := Tryz.prog) 9 Tryz.underlying9 hs (by unfold maxLen;omega)
 refine (callsIn_wide.1 (sh_sorted_Sheet m l.length D0 _ w h1 (by rw [h3];unfold maxLen;omega) (by rw [h3];omega))).mono ?_
 rintro e w' ⟨v,ss,rfl,hp,hrow,_,hb⟩
 have hown := own_of_sorted (l := l.map (·.1)) hrow (by rw [List.map_map];exact hp.trans h2) (fun s hs' => by obtain ⟨p,hp,rfl⟩ := List.mem_map.1 hs';exact hs p hp)
 have e1 : (w.alloc (.cells #[.map (some m)] 82)).heap.size = w.heap.size + 1 := by simp
 rw [e1] at hown
 obtain ⟨A,c,rfl⟩ := hown.shape
 exact ⟨A,c,rfl,hown,((Kp.refl No w).alloc _).transNo (Kp.ofBelow hb (Nat.le_refl _))⟩
set_option maxRecDepth 100000 in
theorem a_names (B l : Nat) (L : LV) (F : Nat → Prop) (w : World) (h : LAt w l L F) (hok : OkL B L) :
 Calls Tryz.prog 28 #[.pointer (some ⟨l,0,none⟩)] w fun e w' => ∃ A c,e = .returned (.slice A (namesL L).length c) ∧ Own Rp.str w' No w.heap.size 9 (.slice A (namesL L).length c) (namesL L) ∧ Kp No w w' := by
 obtain ⟨hn1,hn2⟩ := hok.names
 obtain ⟨b1,b2,ov,lv,S,hin,_⟩ := h
 obtain ⟨lm,hm,hkey,_⟩ := hin.fat.live
 have k := Blk.cell hin.fat.blk (i := 0) rfl
 have hlen : lm.length = L.fold.live.length := by have := congrArg List.length hkey;simpa using this
 have hks := c_keys_Sheet b1 w
 have hso := c_sorted_Sheet b1 lm w hm (fun p hp => by
  have h1 : p.1 ∈ L.fold.live.map (·.1) := by rw [← hkey];exact List.mem_map.2 ⟨p,hp,rfl⟩
  obtain ⟨q,hq,he⟩ := List.mem_map.1 h1
  rw [← he]
  have := hn1 q hq
  unfold maxLen;omega) (by omega)
 rw [hkey] at hso
 unfold namesL
 obtain ⟨N,hN⟩ : ∃ N,sortedN (L.fold.live.map (·.1)) = N := ⟨_,rfl⟩
 rw [hN] at hso ⊢
 have k' : w.cell? ⟨l,0,none⟩ = some (.map (some b1)) := k
 clear hin hm hkey hn1 hn2 hok hlen hN k
 go_enter Tryz.func28,Tryz.ntmps28
 go_wp2_with fail
 refine hks.mono ?_
 rintro e w1 ⟨rfl,rfl⟩
 clear hks
 go_wp2_with fail
 refine hso.mono ?_
 rintro e w2 ⟨An,cn,rfl,hown,hk2⟩
 have HN := Lib.hid hown
 have HK2 := Lib.hid hk2
 clear hso hown hk2
 go_wp2_with fail
 go_ret
 exact ⟨An,cn,rfl,HN.out.mono (Nat.le_succ _) (fun _ x => x),HK2.out⟩
end
section
open Go.RowKit Go.ChangeShapes Go.WideShapes Go.ChangeAt
section
variable {P : Program} {ops : Array Oper} {rest : List Oper} {o : Oper} {a : Act} {w w' : World} {Q : Exit → Act → World → Prop}
theorem wpl_store (hw : Region.wanted o (yielded ops a.tmps) = true) (t : TypeId) (x y : Operand) (ho : o.op = .store t x y) (v u : Value) (he : a.eval x = v) (he2 : a.eval y = u) (hr : (Instr.storeAt t v u).run P w = .ok () w')
 (h : wpList P ops Q rest (a.put o.dst undef) w') : wpList P ops Q (o :: rest) a w := by
 refine wpList_step fun K hK => ?_
 rw [if_pos hw]
 unfold Oper.wp execOp
 simp only [ho,he,he2,Sem.run_bind,hr,Result.andThen_ok]
 exact hK _ _ h
end
end
section
open Go.RowKit Go.ChangeShapes Go.WideShapes Go.ChangeAt
theorem results_ctS {P : Program} {fn : Func} {p u : Tmp} {ty : TypeId} (h : fn.results = #[.cell p ty,.tmp u]) (tmps : Array Value) (w : World) (g : Nat) (t : TypeId) (cs : Array Value) (fr : Nat × Nat) (d : TypeDesc)
 (hp : tmps.getD p undef = .pointer (some ⟨g,0,none⟩)) (hg : w.heap[g]? = some (.cells cs t fr)) (hu : P.underlying ty = some d) (hd : (match d with | .struct _ | .array _ _ => true | _ => false) = true) (hi : (P.info? ty).map (·.size) = some cs.size) :
 (results fn tmps).run P w = .ok (.tuple #[.agg cs,tmps.getD u undef]) w := by
 rw [results_cell_tmp h,hp]
 simp [asAddr,run_loadVar_row w g t ty cs fr d hg hu hd hi,Result.andThen]
def sheetOf (nm : ByteArray) (L : LV) : Int × List ByteArray := (mget nm L.fold.live).getD (0,[])
theorem sht_look {w : World} {S : Nat → Prop} {b : Nat} {V : Sheets} (h : MapRp Rp.sht w S b Value.string V) (nm : ByteArray) : ∃ (R : Int × List ByteArray) (A : Option Addr) (n c : Nat) (B : Bool),
 (∀ w',Kp No w w' → (Instr.lookup 82 (.map (some b)) (.string nm) true).run Tryz.prog w' = .ok (.tuple #[.agg #[.int .i64 R.1,.slice A n c],.bool B]) w') ∧ n = R.2.length ∧ Rp.str.slice.R w S [.slice A n c] R.2 ∧ R = (mget nm V).getD (0,[]) ∧ B = (mget nm V).isSome := by
 obtain ⟨u,B,h3,h4⟩ := h.look_all (P := Tryz.prog) key_name Tryz.underlying82 nm zero_sht
 rcases h4 with ⟨rfl,a,cs,h5,rfl,v,rfl,_,h6⟩ | ⟨rfl,h5,rfl⟩
 · obtain ⟨Av,cv,hv',_⟩ := id h6
   simp only [List.cons.injEq,and_true] at hv'
   subst hv'
   exact ⟨a,Av,_,cv,true,h3,rfl,h6,by rw [h5];rfl,by rw [h5];rfl⟩
 · exact ⟨(0,[]),none,0,0,false,h3,rfl,⟨none,0,rfl,Nat.le_refl _,by simp,fun h => absurd h (by simp)⟩,by rw [h5];rfl,by rw [h5];rfl⟩
set_option maxRecDepth 100000 in
set_option maxHeartbeats 4000000 in
theorem a_sheet (nm : ByteArray) (l : Nat) (L : LV) (F : Nat → Prop) (w : World) (h : LAt w l L F) (hlen : (sheetOf nm L).2.length ≤ 1000000) :
 Calls Tryz.prog 58 #[.pointer (some ⟨l,0,none⟩),.string nm] w fun e w' => ∃ A c,e = .returned (.tuple #[.agg #[.int .i64 (sheetOf nm L).1,.slice A (sheetOf nm L).2.length c],.bool (mget nm L.fold.live).isSome]) ∧ Rp.str.slice.R w' (fun k => w.heap.size ≤ k) [.slice A (sheetOf nm L).2.length c] (sheetOf nm L).2 ∧ Kp No w w' := by
 obtain ⟨b1,b2,ov,lv,S,hin,_⟩ := h
 obtain ⟨x,hx⟩ : ∃ x,w.heap.size = x := ⟨_,rfl⟩
 obtain ⟨wa,hwa⟩ : ∃ wa,w.alloc (.cells #[.int .i64 0,.slice none 0 0] 34) = wa := ⟨_,rfl⟩
 have hk : Kp No w wa := by rw [← hwa];exact (Kp.refl _ _).alloc _
 have hb : Blk wa x 34 [.int .i64 0,.slice none 0 0] := by rw [← hwa,← hx];exact Blk.new w _ _
 have k0 : wa.cell? ⟨l,0,none⟩ = some (.map (some b1)) := Blk.cell (hin.fat.blk.kept hk (fun z => z)) rfl
 obtain ⟨R,A,n,c,B,hlk,hn,hrd,hR,hB⟩ := sht_look (hin.fat.live.kept hk (fun z => z) (fun _ _ _ z => z)) nm
 have hl := hlk wa (Kp.refl _ _)
 unfold sheetOf at hlen ⊢
 rw [← hR] at hlen ⊢
 rw [← hB]
 subst hn
 obtain ⟨y,hy⟩ : ∃ v,wa.heap.size = v := ⟨_,rfl⟩
 obtain ⟨wb,hwb⟩ : ∃ v,wa.alloc (.cells #[.int .i64 R.1,.slice A R.2.length c] 34) = v := ⟨_,rfl⟩
 have hkb : Kp No wa wb := by rw [← hwb];exact (Kp.refl _ _).alloc _
 have hby : Blk wb y 34 [.int .i64 R.1,.slice A R.2.length c] := by rw [← hwb,← hy];exact Blk.new wa _ _
 have HCL := Lib.hid (c_cloneS R.2 A c wb _ (Rp.str.slice.keptNo hrd hkb) hlen)
 have HBX := Lib.hid (hb.kept hkb (fun z => z))
 have HBY := Lib.hid hby
 have HK := Lib.hid (hk.trans' hkb)
 have HX := Lib.hid hx
 have hxy : x < y := by have := Blk.lt hb;omega
 have HXY := Lib.hid hxy
 have y1 : wb.cell? ⟨y,1,none⟩ = some _ := Blk.cell hby rfl
 clear hin hk hb hlk hrd hR hB hkb hby hlen hxy
 go_enter Tryz.func58,Tryz.ntmps58
 go_wp2_with fail
 clear k0 hl hwa hwb hx hy
 refine HCL.out.mono ?_
 rintro e w3 ⟨A3,c3,rfl,hown,hk3⟩
 have hb3 := HBY.out.kept hk3 (fun z => z)
 have hx3 := HBX.out.kept hk3 (fun z => z)
 have g1 := Blk.fr hb3 1
 have u1 : w3.cell? ⟨y,1,none⟩ = some _ := Blk.cell hb3 rfl
 have hb4 : Blk (w3.setCell ⟨y,1,none⟩ (.slice A3 R.2.length c3)) y 34 [.int .i64 R.1,.slice A3 R.2.length c3] := Blk.set hb3 1 _
 have hk4 : Kp (· = y) w3 (w3.setCell ⟨y,1,none⟩ (.slice A3 R.2.length c3)) := (Kp.refl (· = y) w3).setCell (p := ⟨y,1,none⟩) (fun _ => rfl) _
 have hx4 := hx3.kept hk4 (show x ≠ y from by have := HXY.out;omega)
 have hr3 := hown.readFrom
 have hyb : y < wb.heap.size := Blk.lt HBY.out
 have hr4 := Rp.str.slice.kept hr3 hk4 (fun k hk _ e => by rcases hk with hk | hk;exact hk;omega)
 have HR4 := Lib.hid hr4
 have HB4 := Lib.hid hb4
 have HX4 := Lib.hid hx4
 have HK4 : Hid (Kp No w (w3.setCell ⟨y,1,none⟩ (.slice A3 R.2.length c3))) := Lib.hid ((HK.out.trans' hk3).trans hk4 (fun k hk e => by have := HX.out;have := HXY.out;omega))
 obtain ⟨w4,hw4⟩ : ∃ v,w3.setCell ⟨y,1,none⟩ (.slice A3 R.2.length c3) = v := ⟨_,rfl⟩
 rw [hw4] at HR4 HB4 HX4 HK4
 have v0 : w4.cell? ⟨y,0,none⟩ = some _ := Blk.cell HB4.out rfl
 have v1 : w4.cell? ⟨y,1,none⟩ = some _ := Blk.cell HB4.out rfl
 have t0 : w4.cell? ⟨x,0,none⟩ = some _ := Blk.cell HX4.out rfl
 have t1 : w4.cell? ⟨x,1,none⟩ = some _ := Blk.cell HX4.out rfl
 have g3 := Blk.fr HX4.out 0
 have g4 := Blk.fr HX4.out 1
 have HYB := Lib.hid hyb
 clear hown hk3 hb3 hx3 hb4 hk4 hx4 hr3 hr4 y1 HCL hyb
 go_wp2_with fail
 have hbf : Blk ((w4.setCell ⟨x,0,none⟩ (.int .i64 R.1)).setCell ⟨x,1,none⟩ (.slice A3 R.2.length c3)) x 34 [.int .i64 R.1,.slice A3 R.2.length c3] := Blk.set (Blk.set HX4.out 0 _) 1 _
 have hks : Kp (· = x) w4 ((w4.setCell ⟨x,0,none⟩ (.int .i64 R.1)).setCell ⟨x,1,none⟩ (.slice A3 R.2.length c3)) := ((Kp.refl (· = x) w4).setCell (p := ⟨x,0,none⟩) (fun _ => rfl) _).setCell (p := ⟨x,1,none⟩) (fun _ => rfl) _
 have hkf : Kp No w ((w4.setCell ⟨x,0,none⟩ (.int .i64 R.1)).setCell ⟨x,1,none⟩ (.slice A3 R.2.length c3)) := HK4.out.trans hks (fun i hi e => by have := HX.out;omega)
 exact bodyPost_ret (results_ctS rfl _ _ x _ _ _ _ rfl hbf Tryz.underlying34 rfl (by kernel_rfl)) rfl ⟨A3,c3,rfl,Rp.str.slice.more (Rp.str.slice.kept HR4.out hks (fun k hk _ e => by
  rcases hk with hk | hk
  · exact hk
  · have := HXY.out;have := HYB.out;omega)) (fun k hk => by
  rcases hk with hk | hk
  · exact hk.elim
  · have := HK.out.size;omega),hkf⟩
end
end Go.Proofs.YtjlbacfedfkilaaGreat
