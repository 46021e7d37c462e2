/-
  A statement whose order is open, walked by a plan that branches where two acting operations are ready at once.
-/
import Derived.Test.YtjlbacfedfkilaaGreatReg
namespace Go.Proofs.YtjlbacfedfkilaaGreat.Reg
open Go
inductive PT where
 | done : PT
 | look (i : Nat) (r : PT) : PT
 | one (i : Nat) (obl : List Nat) (r : PT) : PT
 | two (i : Nat) (obl : List Nat) (r : PT) (j : Nat) (obl2 : List Nat) (r2 : PT) : PT
 | three (i : Nat) (obl : List Nat) (r : PT) (j : Nat) (obl2 : List Nat) (r2 : PT) (k : Nat) (obl3 : List Nat) (r3 : PT) : PT
section
variable (P : Program) (ops : Array Oper) (Q : Exit → Act → World → Prop)
def wpT : PT → Act → World → Prop
 | .done,a,w => Q .normal a w
 | .look i r,a,w => ∃ o d v,ops[i]? = some o ∧ o.dst = some d ∧
  ((Region.wanted o (yielded ops a.tmps) = true ∧ (execOp a.eval o).run P w = .ok (.value v) w ∧ (a.put (some d) v).eval (.tmp d) = v) ∨ (Region.wanted o (yielded ops a.tmps) = false ∧ v = undef)) ∧ wpT r (a.put (some d) v) w
 | .one i obl r,a,w => ∃ o,ops[i]? = some o ∧ wpList P ops (Exit.then (fun a' w' => Anew P ops a' w' obl ∧ wpT r a' w') fun _ _ _ => False) [o] a w
 | .two i obl r j obl2 r2,a,w => (∃ o,ops[i]? = some o ∧ wpList P ops (Exit.then (fun a' w' => Anew P ops a' w' obl ∧ wpT r a' w') fun _ _ _ => False) [o] a w) ∧
  (∃ o,ops[j]? = some o ∧ wpList P ops (Exit.then (fun a' w' => Anew P ops a' w' obl2 ∧ wpT r2 a' w') fun _ _ _ => False) [o] a w)
 | .three i obl r j obl2 r2 k obl3 r3,a,w => (∃ o,ops[i]? = some o ∧ wpList P ops (Exit.then (fun a' w' => Anew P ops a' w' obl ∧ wpT r a' w') fun _ _ _ => False) [o] a w) ∧
  (∃ o,ops[j]? = some o ∧ wpList P ops (Exit.then (fun a' w' => Anew P ops a' w' obl2 ∧ wpT r2 a' w') fun _ _ _ => False) [o] a w) ∧
  (∃ o,ops[k]? = some o ∧ wpList P ops (Exit.then (fun a' w' => Anew P ops a' w' obl3 ∧ wpT r3 a' w') fun _ _ _ => False) [o] a w)
end
def okAct (md : Region.Mode) (ops : Array Oper) (pins : List Nat) (i : Nat) (obl : List Nat) : Bool :=
 match ops[i]? with
 | none => false
 | some o => pins.all (clearOf ops o) && pins.all (fun f => dsc md ops f i || obl.contains f)
def okT (md : Region.Mode) (ops : Array Oper) (R : Nat → Bool) : PT → Nat → List Nat → Array Bool → Bool
 | .done,n,_,listed => n == 0 && Region.ready md ops listed == []
 | .look i r,n,pins,listed =>
   n != 0 && !R i &&
   match ops[i]? with
   | none => false
   | some o =>
     pins.all (clearOf ops o) &&
     ((Region.ready md ops listed).contains i && Region.free md ops listed i && o.dst.isSome &&
       (List.range ops.size).all (fun j => !dsc md ops i j || !listed.getD j false) && !dsc md ops i i && dscOk md ops i &&
       (if trivialOp o then okT md ops R r (n - 1) pins (listed.setIfInBounds i true)
        else (match o.dst with | none => false | some d => !(o.looksAt ops).contains d) && okT md ops R r (n - 1) (i :: pins) (listed.setIfInBounds i true)))
 | .one i obl r,n,pins,listed => n != 0 && R i && Region.ready md ops listed == [i] && okAct md ops pins i obl && okT md ops R r (n - 1) (pins.filter obl.contains) (listed.setIfInBounds i true)
 | .two i obl r j obl2 r2,n,pins,listed => n != 0 && R i && R j && Region.ready md ops listed == [i,j] &&
  (okAct md ops pins i obl && okT md ops R r (n - 1) (pins.filter obl.contains) (listed.setIfInBounds i true)) &&
  (okAct md ops pins j obl2 && okT md ops R r2 (n - 1) (pins.filter obl2.contains) (listed.setIfInBounds j true))
 | .three i obl r j obl2 r2 k obl3 r3,n,pins,listed => n != 0 && R i && R j && R k && Region.ready md ops listed == [i,j,k] &&
  (okAct md ops pins i obl && okT md ops R r (n - 1) (pins.filter obl.contains) (listed.setIfInBounds i true)) &&
  (okAct md ops pins j obl2 && okT md ops R r2 (n - 1) (pins.filter obl2.contains) (listed.setIfInBounds j true)) &&
  (okAct md ops pins k obl3 && okT md ops R r3 (n - 1) (pins.filter obl3.contains) (listed.setIfInBounds k true))
section
variable {P : Program} {ops : Array Oper} {Q : Exit → Act → World → Prop} {md : Region.Mode}
def Known (P : Program) (md : Region.Mode) (ops : Array Oper) (R : Nat → Bool) (pins : List Pin) (alive : List Nat) (listed : Array Bool) (a : Act) (w : World) : Prop :=
 ∀ p ∈ pins,(p.f ∈ alive ∧ PinOk ops a p ∧ p.φ P w) ∨ ∃ j,(dsc md ops p.f j && R j) = true ∧ listed.getD j false = true
theorem act_serves (hsel : Region.noSelect ops = true) (R : Nat → Bool) {n : Nat} {T : Act → World → Prop} {pins : List Pin} {alive : List Nat} {listed : Array Bool} {a : Act} {w : World} {i : Nat} {obl : List Nat}
 (hRi : R i = true) (hmem : i ∈ Region.ready md ops listed) (hok : okAct md ops alive i obl = true) (hp : Known P md ops R pins alive listed a w)
 (ih : ∀ (a' : Act) (w' : World),Known P md ops R pins (alive.filter obl.contains) (listed.setIfInBounds i true) a' w' → T a' w' → wpAnyL P md ops Q (Sof P md ops R pins) n (listed.setIfInBounds i true) a' w')
 (h : ∃ o,ops[i]? = some o ∧ wpList P ops (Exit.then (fun a' w' => Anew P ops a' w' obl ∧ T a' w') fun _ _ _ => False) [o] a w) :
 wpOp P ops Q i (fun a' w' => Sof P md ops R pins (listed.setIfInBounds i true) w' ∧ wpAnyL P md ops Q (Sof P md ops R pins) n (listed.setIfInBounds i true) a' w') a w := by
 obtain ⟨o,hi,hl⟩ := h
 unfold okAct at hok
 simp only [hi,Bool.and_eq_true,List.all_eq_true] at hok
 obtain ⟨hclear,hcov⟩ := hok
 have hun : listed.getD i true = false := (mem_ready.1 hmem).1
 have hin : i < listed.size := by
  rcases Nat.lt_or_ge i listed.size with h' | h'
  · exact h'
  · simp [Array.getElem?_eq_none h'] at hun
 have hset : ∀ j,listed.getD j false = true → (listed.setIfInBounds i true).getD j false = true := fun j hj => getD_set_true hj
 have hnow : (listed.setIfInBounds i true).getD i false = true := by simp [hin]
 refine wpOp_mono (fun a' w' hh => ?_) (wpOp_of_list (Q := Q) hi hl)
 obtain ⟨hpo,hobl,hrest⟩ := hh
 have key : Known P md ops R pins (alive.filter obl.contains) (listed.setIfInBounds i true) a' w' := by
  intro p hpm
  rcases hp p hpm with ⟨h1,h2,h3⟩ | ⟨j',hj',hl'⟩
  · have hpk := h2.put (fun cs b => Region.noSelect_spec hsel p.f p.o cs b h2.at_) (hclear p.f h1) hpo
    cases hds : dsc md ops p.f i with
    | true => exact .inr ⟨i,by rw [hds,hRi];rfl,hnow⟩
    | false =>
      have hc := hcov p.f h1
      rw [hds,Bool.false_or] at hc
      refine .inl ⟨List.mem_filter.2 ⟨h1,hc⟩,hpk,?_⟩
      have := hobl p.f (List.contains_iff_mem.1 hc) p.o p.d h2.at_ h2.dst hpk.want
      unfold Pin.φ
      rw [← hpk.same,← hpk.val]
      exact this
  · exact .inr ⟨j',hj',hset j' hl'⟩
 refine ⟨fun p hpm hL => ?_,ih a' w' key hrest⟩
 rcases key p hpm with ⟨_,_,h3⟩ | ⟨j',hj',hl'⟩
 · exact h3
 · have := hL j' hj'
   rw [hl'] at this
   cases this
theorem tree_serves (hF : ∀ e a w,e ≠ .normal → ¬ Q e a w) (hsel : Region.noSelect ops = true) (R : Nat → Bool) : ∀ (plan : PT) (n : Nat) (pins : List Pin) (alive : List Nat) (listed : Array Bool) (a : Act) (w : World),
 okT md ops R plan n alive listed = true → Known P md ops R pins alive listed a w →
 wpT P ops Q plan a w → wpAnyL P md ops Q (Sof P md ops R pins) n listed a w
 | .done,n,pins,alive,listed,a,w,hok,hp,h => by
   simp only [okT,Bool.and_eq_true,beq_iff_eq] at hok
   obtain ⟨rfl,hok⟩ := hok
   exact ⟨hok,h⟩
 | .look i rest,n,pins,alive,listed,a,w,hok,hp,h => by
   obtain ⟨o,d,v,hi,hd,hv,hrest⟩ := h
   simp only [okT,hi,Bool.and_eq_true,List.all_eq_true,hd,Option.isSome_some,bne_iff_ne,ne_eq,Bool.not_eq_true'] at hok
   obtain ⟨⟨hn0,hRi⟩,hclear,⟨⟨⟨⟨⟨⟨hready,hfree⟩,_⟩,hnd⟩,hdi⟩,hdok⟩,hgo⟩⟩ := hok
   obtain ⟨k,rfl⟩ : ∃ k,n = k + 1 := ⟨n - 1,by omega⟩
   rw [Nat.add_sub_cancel] at hgo
   have hready : i ∈ Region.ready md ops listed := by simpa using hready
   have hnd : ∀ j,dsc md ops i j = true → listed.getD j false = false := fun j hj => by
    rcases Nat.lt_or_ge j ops.size with hlt | hge
    · have := hnd j (List.mem_range.2 hlt)
      rw [hj] at this
      simpa using this
    · exfalso
      unfold dsc at hj
      rw [Bool.and_eq_true] at hj
      have := Nat.le_of_ble_eq_true hj.1
      omega
   have hdd : ∀ j oj,ops[j]? = some oj → dsc md ops i j = true → ∃ e ∈ oj.after,Region.binds md e = true ∧ (e.on = i ∨ dsc md ops i e.on = true) := fun j oj hoj hj => by
    have hlt : j < ops.size := (Array.getElem?_eq_some_iff.1 hoj).1
    unfold dscOk at hdok
    rw [List.all_eq_true] at hdok
    have := hdok j (List.mem_range.2 hlt)
    rw [hj,hoj] at this
    simp only [Bool.not_true,Bool.false_or] at this
    obtain ⟨e,he,h1⟩ := Array.any_eq_true'.1 this
    simp only [Bool.and_eq_true,Bool.or_eq_true,beq_iff_eq] at h1
    exact ⟨e,he,h1.1,h1.2⟩
   have hSi : ∀ L w,Sof P md ops R pins (L.setIfInBounds i true) w → Sof P md ops R pins L w := fun L w hs p hpm hL => hs p hpm fun j hj => by
    have hne : i ≠ j := fun e => by subst e;rw [hRi] at hj;simp at hj
    rw [getD_set_ne false hne]
    exact hL j hj
   have hset : ∀ j,listed.getD j false = true → (listed.setIfInBounds i true).getD j false = true := fun j hj => getD_set_true hj
   have hSnow : Sof P md ops R pins (listed.setIfInBounds i true) w := fun p hpm hL => by
    rcases hp p hpm with ⟨_,_,h3⟩ | ⟨j,hj,hl⟩
    · exact h3
    · have := hL j hj
      rw [hset j hl] at this
      cases this
   have hput : ∀ u,PutOf o a (a.put (some d) u) := fun u => ⟨u,a.defers,by rw [hd]⟩
   have hpk : ∀ u,∀ p ∈ pins,(p.f ∈ alive ∧ PinOk ops (a.put (some d) u) p ∧ p.φ P w) ∨ ∃ j,(dsc md ops p.f j && R j) = true ∧ (listed.setIfInBounds i true).getD j false = true := fun u p hpm => by
    rcases hp p hpm with ⟨h1,h2,h3⟩ | ⟨j,hj,hl⟩
    · exact .inl ⟨h1,h2.put (fun cs b => Region.noSelect_spec hsel p.f p.o cs b h2.at_) (hclear p.f h1) (hput u),h3⟩
    · exact .inr ⟨j,hj,hset j hl⟩
   have first := fun (S' : Array Bool → World → Prop) (φ : World → Prop) (hS' : ∀ L w,S' L w → Sof P md ops R pins L w ∧ ((∀ j,(dsc md ops i j && R j) = true → L.getD j false = false) → φ w)) (hy : YieldsIf P ops φ o v a) (hφ : φ w)
    (H : wpAnyL P md ops Q S' k (listed.setIfInBounds i true) (a.put o.dst v) w) =>
    wpAnyL_first (S := Sof P md ops R pins) (φ := φ) hi (Region.noSelect_spec hsel) (fun c a w hq => absurd hq (hF _ _ _ (by intro h;cases h))) (dsc md ops i) (fun j => dsc md ops i j && R j) (fun j hj => by simp only [Bool.and_eq_true] at hj;exact hj.1) hdi
     hdd hSi hS' k listed a w (Region.free_spec hi hfree) hready hnd hy hφ hSnow H
   show wpAnyL P md ops Q (Sof P md ops R pins) (k + 1) listed a w
   by_cases htriv : trivialOp o = true
   · rw [if_pos htriv] at hgo
     refine first (Sof P md ops R pins) (fun _ => True) (fun L w hs => ⟨hs,fun _ => trivial⟩) ?_ trivial ?_
     · rcases hv with ⟨hw,hv,_⟩ | ⟨hw,hv⟩
       · refine .inl ⟨hw,fun w' _ => ?_⟩
         unfold trivialOp at htriv
         unfold execOp at hv ⊢
         cases hop : o.op <;> simp only [hop] at htriv hv ⊢ <;> first | (cases htriv;done) | skip
         all_goals
          simp only [Sem.run_pure,Result.ok.injEq,Next.value.injEq,and_true] at hv ⊢
          exact hv
       · exact .inr ⟨hw,hv⟩
     · rw [hd]
       exact tree_serves hF hsel R rest k pins alive _ _ w hgo (hpk v) hrest
   · rw [if_neg htriv] at hgo
     simp only [Bool.and_eq_true,Bool.not_eq_true'] at hgo
     obtain ⟨hself,hgo⟩ := hgo
     rcases hv with ⟨hw,hv,hev⟩ | ⟨hw,hv⟩
     · have hno : ∀ d',some d = some d' → d' ∉ o.looksAt ops := fun d' hd' hm => by
        injection hd' with hd'
        subst hd'
        rw [List.contains_iff_mem.2 hm] at hself
        cases hself
       have hnew : PinOk ops (a.put (some d) v) ⟨i,o,d,a,v⟩ := ⟨hi,hd,execOp_put (ops := ops) o (fun cs b => Region.noSelect_spec hsel i o cs b hi) a _ v hno,by rw [wanted_put o a _ v hno];exact hw,hev⟩
       refine first (Sof P md ops R (⟨i,o,d,a,v⟩ :: pins)) (Pin.φ P ⟨i,o,d,a,v⟩) (fun L w hs => ⟨fun p hpm => hs p (List.mem_cons_of_mem _ hpm),fun hL => hs _ (List.mem_cons_self ..) hL⟩) (.inl ⟨hw,fun w' hw' => hw'⟩) hv ?_
       rw [hd]
       refine tree_serves hF hsel R rest k _ (i :: alive) _ _ w hgo ?_ hrest
       intro p hpm
       rcases List.mem_cons.1 hpm with rfl | hpm
       · exact .inl ⟨List.mem_cons_self ..,hnew,hv⟩
       · rcases hpk v p hpm with ⟨h1,h2⟩ | h2
         · exact .inl ⟨List.mem_cons_of_mem _ h1,h2⟩
         · exact .inr h2
     · refine first (Sof P md ops R pins) (fun _ => True) (fun L w hs => ⟨hs,fun _ => trivial⟩) (.inr ⟨hw,hv⟩) trivial ?_
       rw [hd]
       refine tree_serves hF hsel R rest k pins (i :: alive) _ _ w hgo ?_ hrest
       intro p hpm
       rcases hpk v p hpm with ⟨h1,h2⟩ | h2
       · exact .inl ⟨List.mem_cons_of_mem _ h1,h2⟩
       · exact .inr h2
 | .one i obl rest,n,pins,alive,listed,a,w,hok,hp,h => by
   simp only [okT,Bool.and_eq_true,beq_iff_eq,bne_iff_ne,ne_eq] at hok
   obtain ⟨⟨⟨⟨hn0,hRi⟩,hready⟩,hact⟩,hgo⟩ := hok
   obtain ⟨k,rfl⟩ : ∃ k,n = k + 1 := ⟨n - 1,by omega⟩
   rw [Nat.add_sub_cancel] at hgo
   refine ⟨fun h0 => (by rw [hready] at h0;cases h0),fun j hj => ?_⟩
   have hj' := hj
   rw [hready] at hj'
   simp only [List.mem_cons,List.not_mem_nil,or_false] at hj'
   subst hj'
   exact act_serves hsel R hRi hj hact hp (fun a' w' hk ht => tree_serves hF hsel R rest k pins _ _ a' w' hgo hk ht) h
 | .two i obl rest i2 obl2 rest2,n,pins,alive,listed,a,w,hok,hp,h => by
   simp only [okT,Bool.and_eq_true,beq_iff_eq,bne_iff_ne,ne_eq] at hok
   obtain ⟨⟨⟨⟨⟨hn0,hRi⟩,hRj⟩,hready⟩,hact,hgo⟩,hact2,hgo2⟩ := hok
   obtain ⟨k,rfl⟩ : ∃ k,n = k + 1 := ⟨n - 1,by omega⟩
   rw [Nat.add_sub_cancel] at hgo hgo2
   refine ⟨fun h0 => (by rw [hready] at h0;cases h0),fun j hj => ?_⟩
   have hj' := hj
   rw [hready] at hj'
   simp only [List.mem_cons,List.not_mem_nil,or_false] at hj'
   rcases hj' with rfl | rfl
   · exact act_serves hsel R hRi hj hact hp (fun a' w' hk ht => tree_serves hF hsel R rest k pins _ _ a' w' hgo hk ht) h.1
   · exact act_serves hsel R hRj hj hact2 hp (fun a' w' hk ht => tree_serves hF hsel R rest2 k pins _ _ a' w' hgo2 hk ht) h.2
 | .three i obl rest i2 obl2 rest2 i3 obl3 rest3,n,pins,alive,listed,a,w,hok,hp,h => by
   simp only [okT,Bool.and_eq_true,beq_iff_eq,bne_iff_ne,ne_eq] at hok
   obtain ⟨⟨⟨⟨⟨⟨⟨hn0,hRi⟩,hRj⟩,hRk⟩,hready⟩,hact,hgo⟩,hact2,hgo2⟩,hact3,hgo3⟩ := hok
   obtain ⟨k,rfl⟩ : ∃ k,n = k + 1 := ⟨n - 1,by omega⟩
   rw [Nat.add_sub_cancel] at hgo hgo2 hgo3
   refine ⟨fun h0 => (by rw [hready] at h0;cases h0),fun j hj => ?_⟩
   have hj' := hj
   rw [hready] at hj'
   simp only [List.mem_cons,List.not_mem_nil,or_false] at hj'
   rcases hj' with rfl | rfl | rfl
   · exact act_serves hsel R hRi hj hact hp (fun a' w' hk ht => tree_serves hF hsel R rest k pins _ _ a' w' hgo hk ht) h.1
   · exact act_serves hsel R hRj hj hact2 hp (fun a' w' hk ht => tree_serves hF hsel R rest2 k pins _ _ a' w' hgo2 hk ht) h.2.1
   · exact act_serves hsel R hRk hj hact3 hp (fun a' w' hk ht => tree_serves hF hsel R rest3 k pins _ _ a' w' hgo3 hk ht) h.2.2
end
theorem wp_region_tree {P : Program} {Q : Exit → Act → World → Prop} {id : Nat} {l : List Oper} {a : Act} {w : World} (plan : PT) (acts : List Nat) (hm : P.follows .mixedOrders = true)
 (hok : (okT .any l.toArray acts.contains plan l.toArray.size [] (Array.replicate l.toArray.size false) && Region.noSelect l.toArray) = true)
 (h : wpT P l.toArray (Exit.then (Q .normal) fun _ _ _ => False) plan a w.drew) : (Code.region id l.toArray true).wp P Q a w := by
 simp only [Bool.and_eq_true] at hok
 obtain ⟨h1,h2⟩ := hok
 refine Code.wp_mono (Q := Exit.then (Q .normal) fun _ _ _ => False) (fun e a w hq => by cases e <;> first | exact hq | exact hq.elim) (wp_region_any hm ?_)
 exact wpAny_of_L _ _ _ _ (tree_serves (fun e a w he hq => by cases e <;> first | exact he rfl | exact hq) h2 acts.contains plan _ [] [] _ a _ h1 (fun p hp => by cases hp) h)
section
variable {P : Program} {ops : Array Oper} {Q : Exit → Act → World → Prop} {i j : Nat} {obl obl2 : List Nat} {r r2 : PT} {a : Act} {w : World} {o o2 : Oper} {d : Tmp} {v : Value}
theorem lookT (hi : ops[i]? = some o) (hd : o.dst = some d) (hw : Region.wanted o (yielded ops a.tmps) = true) (hr : (execOp a.eval o).run P w = .ok (.value v) w) (he : (a.put (some d) v).eval (.tmp d) = v)
 (h : wpT P ops Q r (a.put (some d) v) w) : wpT P ops Q (.look i r) a w := ⟨o,d,v,hi,hd,.inl ⟨hw,hr,he⟩,h⟩
theorem oneT (hi : ops[i]? = some o) (h : wpList P ops (Exit.then (fun a' w' => Anew P ops a' w' obl ∧ wpT P ops Q r a' w') fun _ _ _ => False) [o] a w) :
 wpT P ops Q (.one i obl r) a w := ⟨o,hi,h⟩
theorem twoT (hi : ops[i]? = some o) (hj : ops[j]? = some o2) (h : wpList P ops (Exit.then (fun a' w' => Anew P ops a' w' obl ∧ wpT P ops Q r a' w') fun _ _ _ => False) [o] a w)
 (h2 : wpList P ops (Exit.then (fun a' w' => Anew P ops a' w' obl2 ∧ wpT P ops Q r2 a' w') fun _ _ _ => False) [o2] a w) :
 wpT P ops Q (.two i obl r j obl2 r2) a w := ⟨⟨o,hi,h⟩,⟨o2,hj,h2⟩⟩
theorem threeT {k : Nat} {obl3 : List Nat} {r3 : PT} {o3 : Oper} (hi : ops[i]? = some o) (hj : ops[j]? = some o2) (hk : ops[k]? = some o3) (h : wpList P ops (Exit.then (fun a' w' => Anew P ops a' w' obl ∧ wpT P ops Q r a' w') fun _ _ _ => False) [o] a w)
 (h2 : wpList P ops (Exit.then (fun a' w' => Anew P ops a' w' obl2 ∧ wpT P ops Q r2 a' w') fun _ _ _ => False) [o2] a w)
 (h3 : wpList P ops (Exit.then (fun a' w' => Anew P ops a' w' obl3 ∧ wpT P ops Q r3 a' w') fun _ _ _ => False) [o3] a w) :
 wpT P ops Q (.three i obl r j obl2 r2 k obl3 r3) a w := ⟨⟨o,hi,h⟩,⟨o2,hj,h2⟩,⟨o3,hk,h3⟩⟩
theorem doneT (h : Q .normal a w) : wpT P ops Q .done a w := h
end
end Go.Proofs.YtjlbacfedfkilaaGreat.Reg
