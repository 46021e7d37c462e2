/-
  'for k, v := range m': the loop over a map's entries in whatever order, as lists: what is still to come.
-/
import Derived.Test.YtjlbacfedfkilaaGreatGB
import Derived.Maps.RangeRun
import Derived.Maps.RangeWalk
namespace Go.Proofs.YtjlbacfedfkilaaGreat
open Go.RowKit Go.ChangeShapes Go.WideShapes Go.ChangeAt
variable {κ : Type} [DecidableEq κ] {P : Program} {T K E : TypeId} {enc : κ → Value} {w w' : World} {b r : Nat} {l todo : List (κ × Value)}
def Ranges (w : World) (b r : Nat) (enc : κ → Value) (l todo : List (κ × Value)) : Prop :=
 ∃ es clock since seen c0,w.heap[b]? = some (.map es clock) ∧ es.toList.map (fun e => (e.key,e.val)) = l.map (fun p => (enc p.1,p.2)) ∧ (l.map (·.1)).Nodup ∧ (∀ e ∈ es,e.born < clock) ∧ (es.toList.map (·.born)).Nodup ∧
   w.heap[r]? = some (.mapIter (some b) since seen c0) ∧ (∀ x ∈ es.toList,x.born < since) ∧ since ≤ c0 ∧ since ≤ clock ∧ (leftOf es seen).toList.map (fun e => (e.key,e.val)) = todo.map (fun p => (enc p.1,p.2))
omit [DecidableEq κ] in
theorem Ranges.map (h : Ranges w b r enc l todo) : MapOf w b enc l := by
 obtain ⟨es,clock,since,seen,c0,h1,h2,h3,h4,h5,_⟩ := h
 exact ⟨es,clock,h1,h2,h3,h4,h5⟩
omit [DecidableEq κ] in
theorem Ranges.lt (h : Ranges w b r enc l todo) : r < w.heap.size := by
 obtain ⟨es,clock,since,seen,c0,_,_,_,_,_,h6,_⟩ := h
 exact (Array.getElem?_eq_some_iff.1 h6).1
theorem Ranges.kept {S : Nat → Prop} (h : Ranges w b r enc l todo) (hk : Kp S w w') (hb : ¬ S b) (hr : ¬ S r) : Ranges w' b r enc l todo := by
 have h1 := h.map.lt
 have h2 := h.lt
 obtain ⟨es,clock,since,seen,c0,g1,g2,g3,g4,g5,g6,g7⟩ := h
 exact ⟨es,clock,since,seen,c0,(hk.block b h1 hb).trans g1,g2,g3,g4,g5,(hk.block r h2 hr).trans g6,g7⟩
omit [DecidableEq κ] in
theorem Ranges.left (h : Ranges w b r enc l todo) : w.rangeLeft b r = todo.length := by
 obtain ⟨es,clock,since,seen,c0,hb,_,_,_,_,hr,_,_,_,hl⟩ := h
 simp only [World.rangeLeft,hb,hr]
 have := congrArg List.length hl
 rwa [List.length_map,List.length_map,Array.length_toList] at this
theorem MapOf.range (ht : P.underlying T = some (.map K E)) (h : MapOf w b enc l) : ∃ w',(Instr.range T (.map (some b))).run P w = .ok (.pointer (some ⟨w.heap.size,0,none⟩)) w' ∧ Ranges w' b w.heap.size enc l l ∧ Kp No w w' ∧ w'.heap.size = w.heap.size + 1 := by
 have hlt := h.lt
 obtain ⟨es,clock,hb,h1,h2,h3,h4⟩ := h
 refine ⟨_,run_range_map w T K E b es clock ht hb,⟨es,clock,clock,#[],clock,?_,h1,h2,h3,h4,heap_alloc_new w _,fun x hx => h3 x (Array.mem_toList_iff.1 hx),Nat.le_refl _,Nat.le_refl _,?_⟩,(Kp.refl _ _).alloc _,by simp⟩
 · rw [heap_alloc_old w _ hlt];exact hb
 · rw [← h1];unfold leftOf;rw [Array.toList_filter,List.filter_eq_self.2 (by simp)]
theorem filter_one {l1 l2 : List MapEntry} {e : MapEntry} (h : ((l1 ++ e :: l2).map (·.born)).Nodup) : (l1 ++ e :: l2).filter (fun x => x.born != e.born) = l1 ++ l2 := by
 rw [List.map_append,List.map_cons,List.nodup_append] at h
 obtain ⟨h1,h2,h3⟩ := h
 rw [List.nodup_cons] at h2
 rw [List.filter_append,List.filter_cons]
 simp only [bne_self_eq_false,Bool.false_eq_true,if_false]
 rw [List.filter_eq_self.2,List.filter_eq_self.2]
 · intro x hx
   simp only [bne_iff_ne,ne_eq]
   intro e1
   exact h2.1 (by rw [← e1];exact List.mem_map.2 ⟨x,hx,rfl⟩)
 · intro x hx
   simp only [bne_iff_ne,ne_eq]
   exact h3 _ (List.mem_map.2 ⟨x,hx,rfl⟩) _ (List.mem_cons_self ..)
theorem leftOf_push (es : Array MapEntry) (seen : Array Nat) (n : Nat) : (leftOf es (seen.push n)).toList = (leftOf es seen).toList.filter (fun x => x.born != n) := by
 unfold leftOf
 rw [Array.toList_filter,Array.toList_filter,List.filter_filter]
 refine List.filter_congr fun x _ => ?_
 by_cases h : x.born = n
 · subst h;simp
 · simp [h]
omit [DecidableEq κ] in
theorem Ranges.next (h : Ranges w b r enc l todo) (ty : TypeId) :
 (todo = [] ∧ (Instr.next (.pointer (some ⟨r,0,none⟩)) false ty).run P w = .ok (.tuple #[.bool false]) w) ∨
 ∃ k v t1 t2 w',todo = t1 ++ (k,v) :: t2 ∧ (Instr.next (.pointer (some ⟨r,0,none⟩)) false ty).run P w = .ok (.tuple #[.bool true,enc k,v]) w' ∧ Ranges w' b r enc l (t1 ++ t2) ∧ Kp (· = r) w w' ∧ w'.heap.size = w.heap.size ∧
   (Instr.entry (.pointer (some ⟨r,0,none⟩))).run P w' = .ok (.tuple #[enc k,v]) w' := by
 have hne : b ≠ r := by
  rintro rfl
  obtain ⟨es,clock,since,seen,c0,g1,_,_,_,_,g6,_⟩ := h
  rw [g1] at g6;cases g6
 have hrl := h.lt
 obtain ⟨es,clock,since,seen,c0,hb,h1,h2,h3,h4,hr,hold,hsc,hcl,hleft⟩ := h
 rcases run_next_at (P := P) w ty r b since c0 seen es clock hr hb hold hsc with ⟨h0,hrun⟩ | ⟨e,he,w1,hal,hrun⟩
 · left
   refine ⟨?_,hrun⟩
   have := congrArg List.length hleft
   rw [List.length_map,List.length_map,Array.length_toList,h0] at this
   exact List.eq_nil_of_length_eq_zero this.symm
 · right
   obtain ⟨L1,L2,hL⟩ := List.append_of_mem he
   rw [hL,List.map_append,List.map_cons] at hleft
   obtain ⟨t1,t3,ht,ht1,ht3⟩ := List.map_eq_append_iff.1 hleft.symm
   obtain ⟨p,t2,rfl,hp,ht2⟩ := List.map_eq_cons_iff.1 ht3
   obtain ⟨k,v⟩ := p
   simp only [Prod.mk.injEq] at hp
   have hmem : e ∈ es.toList := by unfold leftOf at he;rw [Array.toList_filter,List.mem_filter] at he;exact he.1
   have hw1 : w1.heap = w.heap := by rcases hal with rfl | rfl <;> rfl
   have hkp : Kp (· = r) w (Go.ChangeMaps.setBlock w1 r (.mapIter (some b) since (seen.push e.born) clock)) := by
    have hk1 : Kp (· = r) w w1 := by rcases hal with rfl | rfl
                                     · exact Kp.refl _ _
                                     · exact (Kp.refl _ _).drew
    refine hk1.trans' ⟨rfl,rfl,by simp [Go.ChangeMaps.setBlock],fun i hi hn => ?_⟩
    show (w1.heap.setIfInBounds r _)[i]? = _
    rw [Array.getElem?_setIfInBounds_ne (fun e => hn e.symm)]
   have hr2 : (Go.ChangeMaps.setBlock w1 r (.mapIter (some b) since (seen.push e.born) clock)).heap[r]? = some (.mapIter (some b) since (seen.push e.born) clock) := by
    show (w1.heap.setIfInBounds r _)[r]? = _
    rw [hw1];simp [hrl]
   have hb2 : (Go.ChangeMaps.setBlock w1 r (.mapIter (some b) since (seen.push e.born) clock)).heap[b]? = some (.map es clock) := (hkp.block b (Array.getElem?_eq_some_iff.1 hb).1 hne).trans hb
   have hen := run_entry_at (P := P) _ r b since seen es clock e hr2 hb2 hmem h4
   rw [← hp.1,← hp.2] at hrun hen
   refine ⟨k,v,t1,t2,_,ht,hrun,⟨es,clock,since,seen.push e.born,clock,hb2,h1,h2,h3,h4,hr2,hold,hcl,hcl,?_⟩,hkp,by show (w1.heap.setIfInBounds r _).size = _;rw [hw1];simp,hen⟩
   · rw [leftOf_push,hL,filter_one (e := e),List.map_append,List.map_append,ht1,ht2]
     have hs : (leftOf es seen).toList.Sublist es.toList := by unfold leftOf;rw [Array.toList_filter];exact List.filter_sublist
     rw [← hL]
     exact h4.sublist (hs.map _)
end Go.Proofs.YtjlbacfedfkilaaGreat
