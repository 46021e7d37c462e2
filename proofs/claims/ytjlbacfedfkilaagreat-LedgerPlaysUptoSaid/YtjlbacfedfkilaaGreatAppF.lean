/-
  append to a slice without room at its end: all is copied.
-/
import Derived.Test.YtjlbacfedfkilaaGreatGA
namespace Go.Proofs.YtjlbacfedfkilaaGreat
open Go.RowKit Go.ChangeShapes Go.WideShapes Go.ChangeAt
theorem run_append_full {α : Type} {E : Rp α} {P : Program} (w : World) (t ty e : TypeId) (bytes : Nat) (el : Elem P t e E.size bytes) (S : Nat → Prop) (A : Option Addr) (l : List α) (hl : E.slice.R w S [.slice A l.length l.length] l)
 (B : Option Addr) (c : Nat) (m : List α) (hm : E.slice.R w S [.slice B m.length c] m) (h0 : 0 < m.length) (hone : ∀ cs a S',E.R w S' cs a → ∀ u ∈ cs,u.oneCell' = true)
 (hcap : l.length + m.length ≤ maxLen) (hbytes : (l.length + m.length) * bytes ≤ 140737488355328) :
 ∃ A' c' w',(Builtin.append_ #[t,t] ty #[.slice A l.length l.length,.slice B m.length c]).run P w = .ok (.slice A' (l ++ m).length c') w' ∧ Own E w' S w.heap.size e (.slice A' (l ++ m).length c') (l ++ m) ∧ Kp No w w' := by
 obtain ⟨olds,o1,o2,o3⟩ := Rp.news hl
 obtain ⟨news,n1,n2,n3⟩ := Rp.news hm
 obtain ⟨b,rfl,_,hnews⟩ := n2 h0
 obtain ⟨ht,i,z,hi,hz,hsize,hby,hzs,hpos⟩ := el
 have hones : ∀ (xs : List Value) (l : List α) (_ : xs.length = l.length * E.size) (_ : ∀ (i : Nat) a,l[i]? = some a → E.R w S ((xs.drop (i * E.size)).take E.size) a),∀ u ∈ xs,u.oneCell' = true := by
  intro xs l hx hr u hu
  obtain ⟨j,hj,rfl⟩ := List.mem_iff_getElem.1 hu
  have hq : j / E.size < l.length := by rw [Nat.div_lt_iff_lt_mul E.pos];omega
  have h7 := hr (j / E.size) l[j / E.size] (List.getElem?_eq_getElem hq)
  refine hone _ _ _ h7 _ (List.mem_of_getElem? (i := j % E.size) ?_)
  rw [List.getElem?_take_of_lt (Nat.mod_lt _ E.pos),List.getElem?_drop]
  have : j / E.size * E.size + j % E.size = j := by rw [Nat.mul_comm];exact Nat.div_add_mod j E.size
  rw [this]
  exact List.getElem?_eq_getElem hj
 have hlen2 : (l ++ m).length = l.length + m.length := List.length_append
 have hxl : (olds ++ news).length = (l.length + m.length) * E.size := by rw [List.length_append,o1,n1,Nat.add_mul]
 have hge := grownCap_ge w (l.length + m.length) l.length e
 have hgm : grownCap w (l.length + m.length) l.length e ≤ maxLen := grownCap_le_maxLen w (l.length + m.length) l.length e hcap
 have hkp : Kp No w (w.drew.alloc (.cells (olds.toArray ++ news.toArray ++ Builtin.zeroCells z.cells (grownCap w (l.length + m.length) l.length e - (l.length + m.length))) e)) := ((Kp.refl _ w).drew).alloc _
 have hown : Own E (w.drew.alloc (.cells (olds.toArray ++ news.toArray ++ Builtin.zeroCells z.cells (grownCap w (l.length + m.length) l.length e - (l.length + m.length))) e)) S w.heap.size e (.slice (some ⟨w.heap.size,0,none⟩) (l ++ m).length (grownCap w (l.length + m.length) l.length e)) (l ++ m) := by
  refine ⟨olds ++ news,⟨by rw [hlen2,hxl],.inr ⟨w.heap.size,_,_,rfl,Nat.le_refl _,heap_alloc_new w.drew _,by rw [hlen2];exact hge,hgm,?_,?_⟩⟩,?_,?_⟩
  · simp only [Array.size_append,List.size_toArray,size_zeroCells,hzs,o1,n1,← Nat.add_mul]
    congr 1
    omega
  · simp only [Array.toList_append,List.append_assoc]
    rw [← List.append_assoc,hlen2,← hxl]
    exact List.take_left
  · intro u hu
    rcases List.mem_append.1 hu with h | h
    · exact hones olds l o1 o3 u h
    · exact hones news m n1 n3 u h
  · intro i a ha
    refine E.keptNo ?_ hkp
    rcases Nat.lt_or_ge i l.length with hlt | hge
    · rw [List.getElem?_append_left hlt] at ha
      have h7 := o3 i a ha
      have hle : (i + 1) * E.size ≤ l.length * E.size := Nat.mul_le_mul_right _ hlt
      rw [Nat.succ_mul] at hle
      rw [List.drop_append_of_le_length (by omega),List.take_append_of_le_length (by rw [List.length_drop];omega)]
      exact h7
    · rw [List.getElem?_append_right hge] at ha
      have h7 := n3 _ a ha
      have hle : l.length * E.size ≤ i * E.size := Nat.mul_le_mul_right _ hge
      rw [List.drop_append,List.drop_eq_nil_of_le (by omega),List.nil_append,o1,← Nat.sub_mul]
      exact h7
 have h63 : ((l.length + m.length : Nat) : Int) ≤ 9223372036854775807 := by unfold maxLen at hcap;omega
 cases A with
 | some a =>
   have holds : ∀ (j : Nat) u,olds[j]? = some u → w.cell? (a.add j) = some u := by
    intro j u hu
    have hl0 : 0 < l.length := by
     rcases Nat.eq_zero_or_pos l.length with h | h
     · have : olds = [] := List.eq_nil_of_length_eq_zero (by simpa [h] using o1)
       rw [this] at hu;simp at hu
     · exact h
    obtain ⟨a',ha',_,hc⟩ := o2 hl0
    injection ha' with ha'
    subst ha'
    exact hc j u hu
   have hr := run_append_grow (P := P) w t ty e i z ht hi hz a l.length l.length olds (by rw [hsize];exact o1) holds b m.length c news (by rw [hsize];exact n1) hnews (by omega) h63 (by rw [hby];exact growslice_fits (by omega) hbytes)
   exact ⟨_,_,_,by rw [hlen2];exact hr,by rw [hlen2] at hown ⊢;exact hown,hkp⟩
 | none =>
   have hl0 : l.length = 0 := by
    rcases Nat.eq_zero_or_pos l.length with h | h
    · exact h
    · obtain ⟨_,ha,_⟩ := o2 h;cases ha
   have ho : olds = [] := List.eq_nil_of_length_eq_zero (by simpa [hl0] using o1)
   have hr := run_append_nil (P := P) w t ty e i z ht hi hz b m.length c news (by rw [hsize];exact n1) hnews h0 (by omega) (by rw [hby];simp only [hl0,Nat.zero_add] at hbytes;omega)
   subst ho
   rw [hl0] at hown hkp hlen2 ⊢
   simp only [Nat.zero_add,Array.empty_append] at hown hkp hlen2
   exact ⟨_,_,_,by rw [hlen2];exact hr,by rw [hlen2] at hown ⊢;simpa using hown,by simpa using hkp⟩
theorem wpList_append_full {α : Type} {E : Rp α} {P : Program} {ops : Array Oper} {rest : List Oper} {o : Oper} {a : Act} {Q : Exit → Act → World → Prop} (hgd : o.guard = none) (w : World) (s x : Operand) (t : TypeId)
 (ho : o.op = .call { callee := .builtin .append,args := #[s,x],argTypes := #[t,t] }) (e : TypeId) (bytes : Nat) (el : Elem P t e E.size bytes) (S : Nat → Prop) (A : Option Addr) (l : List α) (hs : a.eval s = .slice A l.length l.length) (hl : E.slice.R w S [.slice A l.length l.length] l)
 (B : Option Addr) (c : Nat) (m : List α) (hx : a.eval x = .slice B m.length c) (hm : E.slice.R w S [.slice B m.length c] m) (h0 : 0 < m.length) (hone : ∀ cs a S',E.R w S' cs a → ∀ u ∈ cs,u.oneCell' = true)
 (hcap : l.length + m.length ≤ maxLen) (hbytes : (l.length + m.length) * bytes ≤ 140737488355328)
 (h : ∀ A' c' w',Own E w' S w.heap.size e (.slice A' (l ++ m).length c') (l ++ m) → Kp No w w' → wpList P ops Q rest (a.put o.dst (.slice A' (l ++ m).length c')) w') : wpList P ops Q (o :: rest) a w := by
 refine wpList_plain hgd fun K hK => ?_
 obtain ⟨A',c',w',hr,h2,h3⟩ := run_append_full (P := P) w t o.type e bytes el S A l hl B c m hm h0 hone hcap hbytes
 unfold Oper.wp execOp
 simp only [ho,resolve,invoke,builtin,Sem.run_bind,Sem.run_pure,Result.andThen_ok,List.map_toArray,List.map_cons,List.map_nil,hs,hx,hr]
 exact hK _ _ (h A' c' w' h2 h3)
end Go.Proofs.YtjlbacfedfkilaaGreat
