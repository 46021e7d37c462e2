/-
  slices.SortFunc over operations, by their numbers.
-/
import Derived.Test.YtjlbacfedfkilaaGreatGE
import Derived.Test.YtjlbacfedfkilaaGreatShelfS
import Derived.Shelf.SlSortCmp.NoneTotal
namespace Go.Proofs.YtjlbacfedfkilaaGreat
open Go.RowKit Go.ChangeShapes Go.WideShapes Go.ChangeAt
open Go.Sort (SWO PermIn SortedIn HoldsK putRowK flatK putRow mapBlock putCells onCells grow)
def OpN : Type := { p : OpL × Value // (0 ≤ p.1.n ∧ p.1.n ≤ 1000) ∧ p.2.oneCell' = true }
instance : Inhabited OpN := ⟨⟨(⟨0,0,0,0,0,0,ByteArray.empty,0,[]⟩,.slice none 0 0),⟨by decide,by decide⟩,rfl⟩⟩
def OpN.enc (p : OpN) : List Value := p.1.1.cells p.1.2
def OpN.cmp (p q : OpN) : Int := p.1.1.n - q.1.1.n
theorem OpN.lt (p q : OpN) : ltOf OpN.cmp p q = decide (p.1.1.n < q.1.1.n) := by
 unfold ltOf OpN.cmp
 rw [decide_eq_decide]
 omega
theorem OpN.swo : SWO (ltOf OpN.cmp) where
 irrefl x := by rw [OpN.lt];simp
 trans x y z h1 h2 := by rw [OpN.lt] at *;simp at *;omega
 ntrans x y z h1 h2 := by rw [OpN.lt] at *;simp at *;omega
theorem pick {α : Type} (Q : Nat → α → Prop) : ∀ n : Nat,(∀ i,i < n → ∃ p,Q i p) → ∃ D : List α,D.length = n ∧ ∀ i p,D[i]? = some p → Q i p
 | 0,_ => ⟨[],rfl,fun i p h => by simp at h⟩
 | n + 1,h => by
   obtain ⟨D,h1,h2⟩ := pick Q n (fun i hi => h i (by omega))
   obtain ⟨p,hp⟩ := h n (by omega)
   refine ⟨D ++ [p],by simp [h1],fun i q hq => ?_⟩
   rcases Nat.lt_or_ge i n with hlt | hge
   · rw [List.getElem?_append_left (by omega)] at hq
     exact h2 i q hq
   · have hlt2 := (List.getElem?_eq_some_iff.1 hq).1
     rw [List.length_append,List.length_singleton] at hlt2
     obtain rfl : i = n := by omega
     rw [List.getElem?_append_right (by omega),h1,Nat.sub_self] at hq
     injection hq with hq
     exact hq ▸ hp
theorem heap_putRowK {w : World} {g : Nat} {cur : Array Value} {e : TypeId} {os : Array Obj} {q : Nat} (d : Array OpN) (hb : w.heap[g]? = some (.cells cur e (0,0))) :
 (grow (putRowK OpN.enc 9 (Go.Sort.ahead w q) g 0 d) os).heap[g]? = some (.cells (putCells id 0 (flatK OpN.enc 9 d) cur) e (0,0)) := by
 have hlt := (Array.getElem?_eq_some_iff.1 hb).1
 rw [Go.Sort.heap_grow_old _ _ (by simpa [putRowK] using hlt)]
 simp [putRowK,putRow,mapBlock,Go.Sort.ahead,Array.getElem?_modify,hb,onCells]
theorem putCells_at {F cur : Array Value} {t : Nat} (ht : t < F.size) (hc : t < cur.size) : (putCells id 0 F cur).toList[t]? = some F[t]! := by
 rw [Array.getElem?_toList]
 simp [putCells,hc,ht]
theorem kp_sorted {w : World} {g q : Nat} {os : Array Obj} (d : Array OpN) : Kp (· = g) w (grow (putRowK OpN.enc 9 (Go.Sort.ahead w q) g 0 d) os) := by
 refine ⟨rfl,rfl,by simp [putRowK,Go.Sort.ahead],fun k hk hne => ?_⟩
 rw [Go.Sort.heap_grow_old _ _ (by simpa [putRowK,Go.Sort.ahead] using hk)]
 simp [putRowK,putRow,mapBlock,Go.Sort.ahead,Array.getElem?_modify,show g ≠ k from fun e => hne e.symm]
theorem chunk_at {F cur : Array Value} {d : Array OpN} (hF : F = flatK OpN.enc 9 d) (hc : d.size * 9 ≤ cur.size) {i : Nat} (hi : i < d.size) :
 (((putCells id 0 F cur).toList.take (d.size * 9)).drop (i * 9)).take 9 = OpN.enc d[i]! := by
 have hlen : (OpN.enc d[i]!).length = 9 := rfl
 refine List.ext_getElem? (fun j => ?_)
 by_cases hj : j < 9
 · have ht : i * 9 + j < d.size * 9 := by omega
   rw [List.getElem?_take_of_lt hj,List.getElem?_drop,List.getElem?_take_of_lt ht,putCells_at (by rw [hF,Go.Sort.size_flatK];exact ht) (by omega),hF,Go.Sort.get_flatK _ _ _ _ ht,show (i * 9 + j) / 9 = i by omega,show (i * 9 + j) % 9 = j by omega]
   rw [List.getElem?_eq_getElem (by omega)]
   simp [hlen,hj]
 · rw [List.getElem?_eq_none (by rw [List.length_take];omega),List.getElem?_eq_none (by omega)]
set_option maxRecDepth 100000 in
theorem c_byN (p q : OpN) (w : World) : Calls Tryz.prog 109 #[.agg (OpN.enc p).toArray,.agg (OpN.enc q).toArray] w fun e w' => e = .returned (.int .i64 (OpN.cmp p q)) ∧ ∃ k os,w' = grow (w.drewN k) os := by
 obtain ⟨⟨⟨pn,pe,pk,ps,pc,pq,pnm,psz,phs⟩,pv⟩,⟨p1,p2⟩,p3⟩ := p
 obtain ⟨⟨⟨qn,qe,qk,qs,qc,qq,qnm,qsz,qhs⟩,qv⟩,⟨q1,q2⟩,q3⟩ := q
 simp only at p1 p2 q1 q2
 unfold OpN.enc OpN.cmp OpL.cells
 simp only
 have hw : IntKind.i64.wrap (pn - qn) = pn - qn := by rw [IntKind.wrap_i64];omega
 go_enter Tryz.func109,Tryz.ntmps109
 go_wp2_with fail
 go_ret
 exact ⟨rfl,0,_,by rw [Go.Sort.alloc_eq_grow,Go.Sort.alloc_eq_grow,Go.Sort.grow_grow];rfl⟩
set_option maxRecDepth 100000 in
theorem c_sortO (out : List OpL) (A : Option Addr) (c : Nat) (w : World) (S : Nat → Prop) (base : Nat) (hown : Own Rp.opl w S base 36 (.slice A out.length c) out) (hn : ∀ o ∈ out,0 ≤ o.n ∧ o.n ≤ 1000) (hl : out.length ≤ 1000000) (hS : ∀ k,(Value.slice A out.length c).ownBlock = some k → ¬ S k) :
 Calls Tryz.prog 108 #[.slice A out.length c,.func (.func 109) #[] #[]] w fun e w' => e = .returned (.tuple #[]) ∧ ∃ out',out'.Perm out ∧ out'.Pairwise (fun a b => ¬ b.n < a.n) ∧ Own Rp.opl w' S base 36 (.slice A out.length c) out' ∧ Kp (fun k => (Value.slice A out.length c).ownBlock = some k) w w' := by
 rcases Nat.eq_zero_or_pos out.length with h0 | h0
 · obtain rfl := List.eq_nil_of_length_eq_zero h0
   refine (AnyF.slices_SortFunc_none sh_sortOp A c _ w).mono ?_
   rintro e w' ⟨rfl,rfl⟩
   exact ⟨rfl,[],List.Perm.refl _,List.Pairwise.nil,hown,Kp.refl _ _⟩
 obtain ⟨xs,⟨hx0,h1⟩,hx2,hx3⟩ := id hown
 rcases h1 with ⟨he,h1⟩ | ⟨g,cap,cur,he,hb,hg,hnc,hm,hc,ht⟩
 · omega
 injection he with he _ hec
 subst he hec
 have hS0 : ¬ S g := hS g rfl
 obtain ⟨D,hD,hQ⟩ := pick (fun i (p : OpN) => out[i]? = some p.1.1 ∧ (xs.drop (i * 9)).take 9 = p.enc ∧ p.1.1.nums ∧ Rp.str.slice.R w S [p.1.2] p.1.1.hashes) out.length (fun i hi => by
  obtain ⟨o,ho⟩ : ∃ o,out[i]? = some o := ⟨_,List.getElem?_eq_getElem hi⟩
  obtain ⟨v,e1,e2,e3⟩ : Rp.opl.R w S ((xs.drop (i * 9)).take 9) o := hx3 i o ho
  exact ⟨⟨(o,v),hn o (List.mem_of_getElem? ho),slice_one' e3⟩,ho,e1,e2,e3⟩)
 have hmap : D.map (fun p => p.1.1) = out := by
  refine List.ext_getElem? (fun i => ?_)
  rw [List.getElem?_map]
  rcases Nat.lt_or_ge i out.length with hi | hi
  · rw [List.getElem?_eq_getElem (by omega),Option.map_some]
    exact (hQ i _ (List.getElem?_eq_getElem (by omega))).1.symm
  · rw [List.getElem?_eq_none (by omega),List.getElem?_eq_none (by omega)];rfl
 have hgl : g < w.heap.size := (Array.getElem?_eq_some_iff.1 hg).1
 have hH : HoldsK OpN.enc 9 w g 0 D.toArray := by
  intro t htt
  rw [Go.Sort.size_flatK] at htt
  have htt2 : t < D.length * 9 := by simpa using htt
  have hi : t / 9 < D.length := by omega
  have e1 := (hQ (t / 9) _ (List.getElem?_eq_getElem hi)).2.1
  have e2 := congrArg (fun l => l[t % 9]?) e1
  rw [List.getElem?_take_of_lt (by omega),List.getElem?_drop,show t / 9 * 9 + t % 9 = t by omega,← ht,List.getElem?_take_of_lt (by rw [← hD];exact htt2),Array.getElem?_toList] at e2
  refine ⟨?_,by simp [World.frozen?,hg]⟩
  rw [Go.Sort.get_flatK _ _ _ _ htt]
  have e3 : (OpN.enc D[t / 9])[t % 9]? = some (OpN.enc D[t / 9])[t % 9]! := by
   have h9 : (OpN.enc D[t / 9]).length = 9 := rfl
   rw [List.getElem?_eq_getElem (by omega)]
   simp [h9,show t % 9 < 9 by omega]
  rw [e3] at e2
  simp only [World.cell?,hg,Nat.zero_add,Option.isSome_none,Bool.false_eq_true,if_false,e2]
  simp [hi]
 have hsz : D.toArray.size = out.length := by simpa using hD
 have hcon := AnyQ.slices_SortFunc (α := OpN) sh_sortOp 9 (fun _ => by kernel_rfl) (fun _ => by kernel_rfl) OpN.enc (fun _ => rfl) (fun x v hv => by
  unfold OpN.enc OpL.cells at hv
  simp only [List.mem_cons,List.not_mem_nil,or_false] at hv
  rcases hv with rfl | rfl | rfl | rfl | rfl | rfl | rfl | rfl | rfl <;> first | rfl | exact x.2.2) OpN.cmp OpN.swo 109 #[] g 0 c D.toArray w (enters_of Tryz.func109 (by kernel_rfl) rfl) (fun m os dk _ x y => c_byN x y _) hH hgl (by omega)
 rw [hsz] at hcon
 refine Calls.mono hcon ?_
 rintro e w' ⟨rfl,d',n,os,hp,hs,rfl⟩
 have hd' : d'.size = out.length := hp.1.trans hsz
 have hkp : Kp (· = g) w (Go.Proofs.sortWorldK OpN.enc 9 w g 0 n d' os) := kp_sorted d'
 have hheap : (Go.Proofs.sortWorldK OpN.enc 9 w g 0 n d' os).heap[g]? = some (.cells (putCells id 0 (flatK OpN.enc 9 d') cur) 36 (0,0)) := heap_putRowK d' hg
 have hperm : d'.toList.Perm D := by
  have h := hp.2.2
  rw [Array.extract_eq_self_of_le (by omega),show (D.toArray.extract 0 out.length) = D.toArray from Array.extract_eq_self_of_le (by omega)] at h
  simpa using h
 refine ⟨rfl,d'.toList.map (fun p => p.1.1),?_,?_,?_,hkp.mono (fun k _ e => by subst e;rfl)⟩
 · rw [← hmap];exact hperm.map _
 · rw [List.pairwise_map,List.pairwise_iff_getElem]
   intro i j hi hj hij hlt
   have h := hs i j (Nat.zero_le _) hij (by simpa [hd'] using hj)
   rw [OpN.lt,decide_eq_false_iff_not] at h
   simp only [Array.length_toList] at hi hj
   rw [getElem!_pos d' i hi,getElem!_pos d' j hj] at h
   simp only [Array.getElem_toList] at hlt
   exact h hlt
 · have hl2 : (d'.toList.map (fun p => p.1.1)).length = out.length := by simp [hd']
   refine ⟨(putCells id 0 (flatK OpN.enc 9 d') cur).toList.take (out.length * 9),⟨?_,.inr ⟨g,c,_,by rw [hl2],hb,hheap,by rw [hl2];exact hnc,hm,by simpa [putCells] using hc,by rw [hl2];rfl⟩⟩,fun u hu => ?_,fun i a ha => ?_⟩
   · rw [hl2,List.length_take]
     have : (putCells id 0 (flatK OpN.enc 9 d') cur).toList.length = cur.size := by simp [putCells]
     rw [this,hc]
     show min (out.length * 9) (c * 9) = out.length * 9
     omega
   · obtain ⟨t,htu⟩ := List.getElem?_of_mem hu
     have htl : t < out.length * 9 := by have := (List.getElem?_eq_some_iff.1 htu).1;rw [List.length_take] at this;omega
     rw [List.getElem?_take_of_lt htl,putCells_at (by rw [Go.Sort.size_flatK,hd'];exact htl) (by rw [hc];show t < c * 9;omega),Go.Sort.get_flatK _ _ _ _ (by rw [hd'];exact htl)] at htu
     injection htu with htu
     subst htu
     obtain ⟨p,hp'⟩ : ∃ p,d'[t / 9]! = p := ⟨_,rfl⟩
     rw [hp']
     have h9 : (OpN.enc p).length = 9 := rfl
     have hmem : (OpN.enc p)[t % 9]! ∈ OpN.enc p := by
      rw [getElem!_pos _ _ (by rw [h9];omega)]
      exact List.getElem_mem _
     generalize (OpN.enc p)[t % 9]! = u at hmem
     unfold OpN.enc OpL.cells at hmem
     simp only [List.mem_cons,List.not_mem_nil,or_false] at hmem
     rcases hmem with rfl | rfl | rfl | rfl | rfl | rfl | rfl | rfl | rfl <;> first | rfl | exact p.2.2
   · rw [List.getElem?_map,Array.getElem?_toList] at ha
     obtain ⟨p,hpi,rfl⟩ := Option.map_eq_some_iff.1 ha
     have hi : i < d'.size := (Array.getElem?_eq_some_iff.1 hpi).1
     have hpd : d'[i]! = p := by rw [getElem!_pos d' i hi];exact (Array.getElem?_eq_some_iff.1 hpi).2
     have hch := chunk_at (F := flatK OpN.enc 9 d') (cur := cur) (d := d') rfl (by rw [hc,hd'];show out.length * 9 ≤ c * 9;omega) hi
     rw [hd',hpd] at hch
     show Rp.opl.R _ S ((((putCells id 0 (flatK OpN.enc 9 d') cur).toList.take (out.length * 9)).drop (i * 9)).take 9) _
     rw [hch]
     have hpm : p ∈ D := hperm.mem_iff.1 (by rw [Array.mem_toList_iff];exact Array.mem_of_getElem? hpi)
     obtain ⟨j,hj⟩ := List.getElem?_of_mem hpm
     obtain ⟨_,_,e2,e3⟩ := hQ j p hj
     exact ⟨p.1.2,rfl,e2,Rp.str.slice.kept e3 hkp (fun k hk _ e => hS0 (e ▸ hk))⟩
end Go.Proofs.YtjlbacfedfkilaaGreat
