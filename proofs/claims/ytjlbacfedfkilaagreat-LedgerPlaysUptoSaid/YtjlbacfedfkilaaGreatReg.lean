/-
  A statement whose order is open, walked once. Its operations are carried out in a plan's order: what only looks (a copy, an address, a load, arithmetic) as early as it can, what acts (a call, a new block, a store) one behind the other.
  Behind each operation that acts it is to be shown that what was looked at, and need not have been looked at yet, would still give what it gave.
-/
import Derived.Test.YtjlbacfedfkilaaGreatGA
import Derived.OrdersHeld
namespace Go.Proofs.YtjlbacfedfkilaaGreat.Reg
open Go
section
variable {P : Program} {ops : Array Oper} {Q : Exit → Act → World → Prop} {md : Region.Mode}
def wpAnyL (P : Program) (md : Region.Mode) (ops : Array Oper) (Q : Exit → Act → World → Prop) (S : Array Bool → World → Prop) : Nat → Array Bool → Act → World → Prop
 | 0,listed,a,w => Region.ready md ops listed = [] ∧ Q .normal a w
 | fuel + 1,listed,a,w =>
   (Region.ready md ops listed = [] → Q .normal a w) ∧
   ∀ i ∈ Region.ready md ops listed,wpOp P ops Q i (fun a' w' => S (listed.setIfInBounds i true) w' ∧ wpAnyL P md ops Q S fuel (listed.setIfInBounds i true) a' w') a w
theorem wpAny_of_L {S : Array Bool → World → Prop} : ∀ (fuel : Nat) (listed : Array Bool) (a : Act) (w : World),wpAnyL P md ops Q S fuel listed a w → wpAny P md ops Q fuel listed a w
 | 0,_,_,_,h => h
 | fuel + 1,_,_,_,h => ⟨h.1,fun i hi => wpOp_mono (fun a' w' h' => wpAny_of_L fuel _ a' w' h'.2) (h.2 i hi)⟩
theorem wpAnyL_mono {S S' : Array Bool → World → Prop} (hs : ∀ L w,S' L w → S L w) : ∀ (fuel : Nat) (listed : Array Bool) (a : Act) (w : World),wpAnyL P md ops Q S' fuel listed a w → wpAnyL P md ops Q S fuel listed a w
 | 0,_,_,_,h => h
 | fuel + 1,_,_,_,h => ⟨h.1,fun i hi => wpOp_mono (fun a' w' h' => ⟨hs _ _ h'.1,wpAnyL_mono hs fuel _ a' w' h'.2⟩) (h.2 i hi)⟩
theorem wpAnyL_first {S S' : Array Bool → World → Prop} {φ : World → Prop} {i : Nat} {oi : Oper} {v : Value} (hi : ops[i]? = some oi) (hsel : ∀ (j : Nat) (o : Oper) cs b,ops[j]? = some o → o.op ≠ .select cs b)
 (hQ : ∀ c a w,Q (.panic c) (a.put oi.dst v) w → Q (.panic c) a w)
 (dsc rd : Nat → Bool) (hrd : ∀ j,rd j = true → dsc j = true) (hdi : dsc i = false)
 (hd : ∀ j oj,ops[j]? = some oj → dsc j = true → ∃ e ∈ oj.after,Region.binds md e = true ∧ (e.on = i ∨ dsc e.on = true))
 (hSi : ∀ L w,S (L.setIfInBounds i true) w → S L w)
 (hS' : ∀ L w,S' L w → S L w ∧ ((∀ j,rd j = true → L.getD j false = false) → φ w)) :
 ∀ (fuel : Nat) (listed : Array Bool) (a : Act) (w : World),
   (∀ j oj,ops[j]? = some oj → j ≠ i → listed.getD j true = false → (∀ e ∈ oj.after,Region.binds md e = true → e.on ≠ i) → oi.apart ops oj = true) →
   i ∈ Region.ready md ops listed → (∀ j,dsc j = true → listed.getD j false = false) → YieldsIf P ops φ oi v a → φ w → S (listed.setIfInBounds i true) w →
   wpAnyL P md ops Q S' fuel (listed.setIfInBounds i true) (a.put oi.dst v) w → wpAnyL P md ops Q S (fuel + 1) listed a w := by
 intro fuel
 induction fuel with
 | zero =>
   intro listed a w _ hr hnd hy hφ hS H
   refine ⟨fun h => (by rw [h] at hr;cases hr),fun j hj => ?_⟩
   by_cases hji : j = i
   · subst hji;exact hy.wpOp hi hφ ⟨hS,H⟩
   · have := ready_mono hj hji
     rw [H.1] at this
     cases this
 | succ fuel ih =>
   intro listed a w hfree hr hnd hy hφ hS H
   refine ⟨fun h => (by rw [h] at hr;cases hr),fun j hj => ?_⟩
   by_cases hji : j = i
   · subst hji;exact hy.wpOp hi hφ ⟨hS,wpAnyL_mono (fun L w h => (hS' L w h).1) _ _ _ _ H⟩
   · have h1 := H.2 j (ready_mono hj hji)
     obtain ⟨hjun,oj,hoj,hall⟩ := mem_ready.1 hj
     have hiun : listed.getD i false = false := by
      have h0 := (mem_ready.1 hr).1
      rcases Nat.lt_or_ge i listed.size with h' | h'
      · simp [h'] at h0 ⊢;exact h0
      · simp [h']
     have hnot : ∀ e ∈ oj.after,Region.binds md e = true → e.on ≠ i := fun e he hb heq => by
      have h1 := hall e he hb
      rw [heq,hiun] at h1
      cases h1
     have hjd : dsc j = false := by
      cases hdj : dsc j with
      | false => rfl
      | true =>
        obtain ⟨e,he,hb,h2⟩ := hd j oj hoj hdj
        rcases h2 with h2 | h2
        · exact absurd h2 (hnot e he hb)
        · have := hall e he hb
          rw [hnd _ h2] at this
          cases this
     have hnd' : ∀ k,dsc k = true → (listed.setIfInBounds j true).getD k false = false := fun k hk => by
      have : j ≠ k := fun e => by subst e;rw [hjd] at hk;cases hk
      rw [getD_set_ne false this];exact hnd k hk
     have h2 := wpOp_putIf (S := φ) hoj (hfree j oj hoj hji hjun hnot) (fun cs b => hsel i oi cs b hi) (fun cs b => hsel j oj cs b hoj) hQ hy h1
     have hfree' : ∀ k ok,ops[k]? = some ok → k ≠ i → (listed.setIfInBounds j true).getD k true = false →
      (∀ e ∈ ok.after,Region.binds md e = true → e.on ≠ i) → oi.apart ops ok = true := fun k ok hk hki hun hno => by
      refine hfree k ok hk hki ?_ hno
      by_cases hjk : j = k
      · subst hjk;exact hjun
      · rw [getD_set_ne true hjk] at hun;exact hun
     refine wpOp_mono (fun a' w' h3 => ?_) h2
     obtain ⟨h3,h4,h5⟩ := h3
     rw [Array.setIfInBounds_comm _ _ (Ne.symm hji)] at h4
     obtain ⟨h6,h7⟩ := hS' _ _ h4
     have hφ' : φ w' := h7 fun k hk => by
      have hki : i ≠ k := fun e => by subst e;rw [hrd _ hk] at hdi;cases hdi
      rw [getD_set_ne false hki]
      exact hnd' k (hrd k hk)
     refine ⟨hSi _ _ h6,ih (listed.setIfInBounds j true) a' w' hfree' (ready_mono hr (Ne.symm hji)) hnd' h3 hφ' h6 ?_⟩
     rw [Array.setIfInBounds_comm _ _ hji]
     exact h5
end
/-! ### The plan -/
structure Item where
 i : Nat
 acts : Bool
 obl : List Nat
def Obl (P : Program) (ops : Array Oper) (a : Act) (w : World) (f : Nat) : Prop :=
 ∀ o d,ops[f]? = some o → o.dst = some d → Region.wanted o (yielded ops a.tmps) = true → (execOp a.eval o).run P w = .ok (.value (a.eval (.tmp d))) w
def Anew (P : Program) (ops : Array Oper) (a : Act) (w : World) (fs : List Nat) : Prop := ∀ f ∈ fs,Obl P ops a w f
section
variable (P : Program) (ops : Array Oper) (Q : Exit → Act → World → Prop)
def wpPlan : List Item → Act → World → Prop
 | [],a,w => Q .normal a w
 | ⟨i,false,_⟩ :: rest,a,w => ∃ o d v,ops[i]? = some o ∧ o.dst = some d ∧
  ((Region.wanted o (yielded ops a.tmps) = true ∧ (execOp a.eval o).run P w = .ok (.value v) w ∧ (a.put (some d) v).eval (.tmp d) = v) ∨ (Region.wanted o (yielded ops a.tmps) = false ∧ v = undef)) ∧ wpPlan rest (a.put (some d) v) w
 | ⟨i,true,obl⟩ :: rest,a,w => ∃ o,ops[i]? = some o ∧ wpList P ops (Exit.then (fun a' w' => Anew P ops a' w' obl ∧ wpPlan rest a' w') fun _ _ _ => False) [o] a w
end
def trivialOp (o : Oper) : Bool := match o.op with | .move _ | .assign _ => true | _ => false
def dscTab (md : Region.Mode) (ops : Array Oper) (i : Nat) : Nat :=
 (List.range ops.size).foldl (fun tab j => match ops[j]? with
  | none => tab
  | some o => tab ||| (bif o.after.any fun e => Region.binds md e && (e.on == i || tab.testBit e.on) then 1 <<< j else 0)) 0
def dsc (md : Region.Mode) (ops : Array Oper) (i : Nat) : Nat → Bool := fun j => Nat.ble (j + 1) ops.size && (dscTab md ops i).testBit j
def dscOk (md : Region.Mode) (ops : Array Oper) (i : Nat) : Bool :=
 (List.range ops.size).all fun j => !dsc md ops i j || match ops[j]? with
  | none => true
  | some o => o.after.any fun e => Region.binds md e && (e.on == i || dsc md ops i e.on)
def clearOf (ops : Array Oper) (o : Oper) (f : Nat) : Bool :=
 match ops[f]? with
 | none => false
 | some p => match o.dst with | none => true | some d => !(p.looksAt ops).contains d && p.dst != some d
def okPlan (md : Region.Mode) (ops : Array Oper) : List Nat → Array Bool → List Item → Bool
 | _,listed,[] => Region.ready md ops listed == []
 | pins,listed,t :: rest =>
   match ops[t.i]? with
   | none => false
   | some o =>
     pins.all (clearOf ops o) &&
     if t.acts then
      Region.ready md ops listed == [t.i] &&
      okPlan md ops (pins.filter t.obl.contains) (listed.setIfInBounds t.i true) rest &&
      pins.all (fun f => dsc md ops f t.i || t.obl.contains f)
     else
      (Region.ready md ops listed).contains t.i && Region.free md ops listed t.i && o.dst.isSome &&
      (List.range ops.size).all (fun j => !dsc md ops t.i j || !listed.getD j false) && !dsc md ops t.i t.i && dscOk md ops t.i &&
      (if trivialOp o then okPlan md ops pins (listed.setIfInBounds t.i true) rest
       else (match o.dst with | none => false | some d => !(o.looksAt ops).contains d) && okPlan md ops (t.i :: pins) (listed.setIfInBounds t.i true) rest)
/-! ### That the plan serves -/
def PutOf (o : Oper) (a a' : Act) : Prop := ∃ v ds,a' = ({ a with defers := ds } : Act).put o.dst v
section
variable {P : Program} {ops : Array Oper} {Q Q' : Exit → Act → World → Prop} {md : Region.Mode}
theorem Oper.wp_put_of {o : Oper} {a : Act} {w : World} {K : Act → World → Prop} (hp : ∀ c a w,Q' (.panic c) a w → Q (.panic c) a w) (hl : LetsOut Q' → LetsOut Q)
 (hh : o.wp P a w K Q') : o.wp P a w (fun a' w' => PutOf o a a' ∧ K a' w') Q := by
 unfold Oper.wp at *
 generalize (execOp a.eval o).run P w = r at *
 cases r with
 | ok n w' =>
   cases n <;> simp only [Oper.upon] at hh ⊢
   case value v => exact ⟨⟨v,a.defers,rfl⟩,hh⟩
   case skip => exact ⟨⟨undef,a.defers,rfl⟩,hh⟩
   case defer d => exact ⟨⟨undef,_,rfl⟩,hh⟩
   case enter f args =>
    refine Calls.mono hh fun e w'' he => ?_
    cases e with
    | returned v => exact ⟨⟨v,a.defers,rfl⟩,he⟩
    | panicked c => exact hp _ _ _ he
    | outgrown => exact hl he
   case row row args => exact Rows.mono hh fun v w'' he => ⟨⟨v,a.defers,rfl⟩,he⟩
 | halt x w' =>
   cases x <;> simp only [Oper.upon] at hh ⊢
   case panic v => exact hp _ _ _ hh
theorem wpOp_of_list {o : Oper} {i : Nat} {a : Act} {w : World} {K : Act → World → Prop} (hi : ops[i]? = some o)
 (h : wpList P ops (Exit.then K fun _ _ _ => False) [o] a w) : wpOp P ops Q i (fun a' w' => PutOf o a a' ∧ K a' w') a w := by
 unfold wpOp
 simp only [hi]
 unfold wpList at h
 split
 · rename_i hw
   rw [if_pos hw] at h
   have hlets : ¬ LetsOut (Exit.then K fun _ _ _ => False) := fun ⟨_,_,h⟩ => h
   rcases h with h | ⟨_,h⟩
   · refine .inl (Oper.wp_put_of (fun _ _ _ h => h.elim) (fun h => absurd h hlets) ?_)
     exact Oper.wp_mono (fun a' w' h => h) h
   · exact absurd h hlets
 · rename_i hw
   rw [if_neg hw] at h
   exact ⟨⟨undef,a.defers,rfl⟩,h⟩
structure Pin where
 f : Nat
 o : Oper
 d : Tmp
 a : Act
 v : Value
def Pin.φ (P : Program) (p : Pin) (w : World) : Prop := (execOp p.a.eval p.o).run P w = .ok (.value p.v) w
structure PinOk (ops : Array Oper) (a : Act) (p : Pin) : Prop where
 at_ : ops[p.f]? = some p.o
 dst : p.o.dst = some p.d
 same : execOp a.eval p.o = execOp p.a.eval p.o
 want : Region.wanted p.o (yielded ops a.tmps) = true
 val : a.eval (.tmp p.d) = p.v
theorem PinOk.put {a : Act} {p : Pin} (h : PinOk ops a p) (hs : ∀ cs b,p.o.op ≠ .select cs b) {o : Oper} (hc : clearOf ops o p.f = true) {a' : Act} (ha : PutOf o a a') : PinOk ops a' p := by
 obtain ⟨v,ds,rfl⟩ := ha
 unfold clearOf at hc
 rw [h.at_] at hc
 have h1 : ∀ d,o.dst = some d → d ∉ p.o.looksAt ops := fun d hd => by
  rw [hd] at hc;simp only [Bool.and_eq_true,Bool.not_eq_true'] at hc
  intro hm
  have := hc.1
  rw [List.contains_iff_mem.2 hm] at this
  cases this
 have h2 : ∀ d,o.dst = some d → p.o.dst ≠ some d := fun d hd => by
  rw [hd] at hc;simp only [Bool.and_eq_true,bne_iff_ne,ne_eq] at hc
  exact hc.2
 refine ⟨h.at_,h.dst,?_,?_,?_⟩
 · rw [execOp_put (ops := ops) p.o hs _ o.dst v h1];exact h.same
 · rw [wanted_put p.o _ o.dst v h1];exact h.want
 · rw [Act.eval_put (fun d hd e => h2 d hd (by injection e with e;rw [h.dst,e]))];exact h.val
def Sof (P : Program) (md : Region.Mode) (ops : Array Oper) (R : Nat → Bool) (pins : List Pin) (L : Array Bool) (w : World) : Prop :=
 ∀ p ∈ pins,(∀ j,(dsc md ops p.f j && R j) = true → L.getD j false = false) → p.φ P w
theorem plan_serves (hF : ∀ e a w,e ≠ .normal → ¬ Q e a w) (hsel : Region.noSelect ops = true) (R : Nat → Bool) : ∀ (plan : List Item) (pins : List Pin) (alive : List Nat) (listed : Array Bool) (a : Act) (w : World),
 okPlan md ops alive listed plan = true → (∀ t ∈ plan,R t.i = t.acts) →
 (∀ p ∈ pins,(p.f ∈ alive ∧ PinOk ops a p ∧ p.φ P w) ∨ ∃ j,(dsc md ops p.f j && R j) = true ∧ listed.getD j false = true) →
 wpPlan P ops Q plan a w → wpAnyL P md ops Q (Sof P md ops R pins) plan.length listed a w
 | [],pins,alive,listed,a,w,hok,hR,hp,h => by
   simp only [okPlan,beq_iff_eq] at hok
   exact ⟨hok,h⟩
 | ⟨i,false,obl⟩ :: rest,pins,alive,listed,a,w,hok,hR,hp,h => by
   obtain ⟨o,d,v,hi,hd,hv,hrest⟩ := h
   have hRi : R i = false := hR _ (List.mem_cons_self ..)
   have hRr : ∀ t ∈ rest,R t.i = t.acts := fun t ht => hR t (List.mem_cons_of_mem _ ht)
   simp only [okPlan,hi,Bool.false_eq_true,if_false,Bool.and_eq_true,List.all_eq_true,hd,Option.isSome_some] at hok
   obtain ⟨hclear,⟨⟨⟨⟨⟨⟨hready,hfree⟩,_⟩,hnd⟩,hdi⟩,hdok⟩,hgo⟩⟩ := hok
   have hready : i ∈ Region.ready md ops listed := by simpa using hready
   have hnd : ∀ j,dsc md ops i j = true → listed.getD j false = false := fun j hj => by
    rcases Nat.lt_or_ge j ops.size with hlt | hge
    · have := hnd j (List.mem_range.2 hlt)
      rw [hj] at this
      simpa using this
    · exfalso
      unfold dsc at hj
      rw [Bool.and_eq_true] at hj
      have := Nat.le_of_ble_eq_true hj.1
      omega
   have hdi : dsc md ops i i = false := by simpa using hdi
   have hdd : ∀ j oj,ops[j]? = some oj → dsc md ops i j = true → ∃ e ∈ oj.after,Region.binds md e = true ∧ (e.on = i ∨ dsc md ops i e.on = true) := fun j oj hoj hj => by
    have hlt : j < ops.size := (Array.getElem?_eq_some_iff.1 hoj).1
    unfold dscOk at hdok
    rw [List.all_eq_true] at hdok
    have := hdok j (List.mem_range.2 hlt)
    rw [hj,hoj] at this
    simp only [Bool.not_true,Bool.false_or] at this
    obtain ⟨e,he,h1⟩ := Array.any_eq_true'.1 this
    simp only [Bool.and_eq_true,Bool.or_eq_true,beq_iff_eq] at h1
    exact ⟨e,he,h1.1,h1.2⟩
   have hSi : ∀ L w,Sof P md ops R pins (L.setIfInBounds i true) w → Sof P md ops R pins L w := fun L w hs p hpm hL => hs p hpm fun j hj => by
    have hne : i ≠ j := fun e => by subst e;rw [hRi] at hj;simp at hj
    rw [getD_set_ne false hne]
    exact hL j hj
   have hset : ∀ j,listed.getD j false = true → (listed.setIfInBounds i true).getD j false = true := fun j hj => getD_set_true hj
   have hSnow : Sof P md ops R pins (listed.setIfInBounds i true) w := fun p hpm hL => by
    rcases hp p hpm with ⟨_,_,h3⟩ | ⟨j,hj,hl⟩
    · exact h3
    · have := hL j hj
      rw [hset j hl] at this
      cases this
   have hput : ∀ u,PutOf o a (a.put (some d) u) := fun u => ⟨u,a.defers,by rw [hd]⟩
   have hpk : ∀ u,∀ p ∈ pins,(p.f ∈ alive ∧ PinOk ops (a.put (some d) u) p ∧ p.φ P w) ∨ ∃ j,(dsc md ops p.f j && R j) = true ∧ (listed.setIfInBounds i true).getD j false = true := fun u p hpm => by
    rcases hp p hpm with ⟨h1,h2,h3⟩ | ⟨j,hj,hl⟩
    · exact .inl ⟨h1,h2.put (fun cs b => Region.noSelect_spec hsel p.f p.o cs b h2.at_) (hclear p.f h1) (hput u),h3⟩
    · exact .inr ⟨j,hj,hset j hl⟩
   have first := fun (S' : Array Bool → World → Prop) (φ : World → Prop) (hS' : ∀ L w,S' L w → Sof P md ops R pins L w ∧ ((∀ j,(dsc md ops i j && R j) = true → L.getD j false = false) → φ w)) (hy : YieldsIf P ops φ o v a) (hφ : φ w)
    (H : wpAnyL P md ops Q S' rest.length (listed.setIfInBounds i true) (a.put o.dst v) w) =>
    wpAnyL_first (S := Sof P md ops R pins) (φ := φ) hi (Region.noSelect_spec hsel) (fun c a w hq => absurd hq (hF _ _ _ (by intro h;cases h))) (dsc md ops i) (fun j => dsc md ops i j && R j) (fun j hj => by simp only [Bool.and_eq_true] at hj;exact hj.1) hdi hdd hSi hS'
     rest.length listed a w (Region.free_spec hi hfree) hready hnd hy hφ hSnow H
   show wpAnyL P md ops Q (Sof P md ops R pins) (rest.length + 1) listed a w
   by_cases htriv : trivialOp o = true
   · rw [if_pos htriv] at hgo
     refine first (Sof P md ops R pins) (fun _ => True) (fun L w hs => ⟨hs,fun _ => trivial⟩) ?_ trivial ?_
     · rcases hv with ⟨hw,hv,_⟩ | ⟨hw,hv⟩
       · refine .inl ⟨hw,fun w' _ => ?_⟩
         unfold trivialOp at htriv
         unfold execOp at hv ⊢
         cases hop : o.op <;> simp only [hop] at htriv hv ⊢ <;> first | (cases htriv;done) | skip
         all_goals
          simp only [Sem.run_pure,Result.ok.injEq,Next.value.injEq,and_true] at hv ⊢
          exact hv
       · exact .inr ⟨hw,hv⟩
     · rw [hd]
       exact plan_serves hF hsel R rest pins alive _ _ w hgo hRr (hpk v) hrest
   · rw [if_neg htriv] at hgo
     simp only [Bool.and_eq_true,Bool.not_eq_true'] at hgo
     obtain ⟨hself,hgo⟩ := hgo
     rcases hv with ⟨hw,hv,hev⟩ | ⟨hw,hv⟩
     · have hno : ∀ d',some d = some d' → d' ∉ o.looksAt ops := fun d' hd' hm => by
        injection hd' with hd'
        subst hd'
        rw [List.contains_iff_mem.2 hm] at hself
        cases hself
       have hnew : PinOk ops (a.put (some d) v) ⟨i,o,d,a,v⟩ := ⟨hi,hd,execOp_put (ops := ops) o (fun cs b => Region.noSelect_spec hsel i o cs b hi) a _ v hno,by rw [wanted_put o a _ v hno];exact hw,hev⟩
       refine first (Sof P md ops R (⟨i,o,d,a,v⟩ :: pins)) (Pin.φ P ⟨i,o,d,a,v⟩) (fun L w hs => ⟨fun p hpm => hs p (List.mem_cons_of_mem _ hpm),fun hL => hs _ (List.mem_cons_self ..) hL⟩) (.inl ⟨hw,fun w' hw' => hw'⟩) hv ?_
       rw [hd]
       refine plan_serves hF hsel R rest _ (i :: alive) _ _ w hgo hRr ?_ hrest
       intro p hpm
       rcases List.mem_cons.1 hpm with rfl | hpm
       · exact .inl ⟨List.mem_cons_self ..,hnew,hv⟩
       · rcases hpk v p hpm with ⟨h1,h2⟩ | h2
         · exact .inl ⟨List.mem_cons_of_mem _ h1,h2⟩
         · exact .inr h2
     · refine first (Sof P md ops R pins) (fun _ => True) (fun L w hs => ⟨hs,fun _ => trivial⟩) (.inr ⟨hw,hv⟩) trivial ?_
       rw [hd]
       refine plan_serves hF hsel R rest pins (i :: alive) _ _ w hgo hRr ?_ hrest
       intro p hpm
       rcases hpk v p hpm with ⟨h1,h2⟩ | h2
       · exact .inl ⟨List.mem_cons_of_mem _ h1,h2⟩
       · exact .inr h2
 | ⟨i,true,obl⟩ :: rest,pins,alive,listed,a,w,hok,hR,hp,h => by
   obtain ⟨o,hi,hl⟩ := h
   have hRi : R i = true := hR _ (List.mem_cons_self ..)
   have hRr : ∀ t ∈ rest,R t.i = t.acts := fun t ht => hR t (List.mem_cons_of_mem _ ht)
   simp only [okPlan,hi,if_true,Bool.and_eq_true,List.all_eq_true,beq_iff_eq] at hok
   obtain ⟨hclear,⟨⟨hready,hgo⟩,hcov⟩⟩ := hok
   have hun : listed.getD i true = false := (mem_ready.1 (show i ∈ Region.ready md ops listed by rw [hready];simp)).1
   have hin : i < listed.size := by
    rcases Nat.lt_or_ge i listed.size with h' | h'
    · exact h'
    · simp [Array.getElem?_eq_none h'] at hun
   have hset : ∀ j,listed.getD j false = true → (listed.setIfInBounds i true).getD j false = true := fun j hj => getD_set_true hj
   have hnow : (listed.setIfInBounds i true).getD i false = true := by simp [hin]
   refine ⟨fun h0 => (by rw [hready] at h0;cases h0),fun j hj => ?_⟩
   rw [hready] at hj
   simp only [List.mem_cons,List.not_mem_nil,or_false] at hj
   subst hj
   refine wpOp_mono (fun a' w' hh => ?_) (wpOp_of_list (Q := Q) hi hl)
   obtain ⟨hpo,hobl,hrest⟩ := hh
   have key : ∀ p ∈ pins,(p.f ∈ alive.filter obl.contains ∧ PinOk ops a' p ∧ p.φ P w') ∨ ∃ j',(dsc md ops p.f j' && R j') = true ∧ (listed.setIfInBounds j true).getD j' false = true := by
    intro p hpm
    rcases hp p hpm with ⟨h1,h2,h3⟩ | ⟨j',hj',hl'⟩
    · have hpk := h2.put (fun cs b => Region.noSelect_spec hsel p.f p.o cs b h2.at_) (hclear p.f h1) hpo
      cases hds : dsc md ops p.f j with
      | true => exact .inr ⟨j,by rw [hds,hRi];rfl,hnow⟩
      | false =>
        have hc := hcov p.f h1
        rw [hds,Bool.false_or] at hc
        refine .inl ⟨List.mem_filter.2 ⟨h1,hc⟩,hpk,?_⟩
        have := hobl p.f (List.contains_iff_mem.1 hc) p.o p.d h2.at_ h2.dst hpk.want
        unfold Pin.φ
        rw [← hpk.same,← hpk.val]
        exact this
    · exact .inr ⟨j',hj',hset j' hl'⟩
   refine ⟨fun p hpm hL => ?_,plan_serves hF hsel R rest pins _ _ a' w' hgo hRr key hrest⟩
   rcases key p hpm with ⟨_,_,h3⟩ | ⟨j',hj',hl'⟩
   · exact h3
   · have := hL j' hj'
     rw [hl'] at this
     cases this
end
theorem wp_region_plan {P : Program} {Q : Exit → Act → World → Prop} {id : Nat} {l : List Oper} {a : Act} {w : World} (plan : List Item) (hm : P.follows .mixedOrders = true)
 (hok : (okPlan .any l.toArray [] (Array.replicate l.toArray.size false) plan && Region.noSelect l.toArray && (plan.length == l.toArray.size) && plan.all (fun t => (plan.filter (·.acts)).any (·.i == t.i) == t.acts)) = true)
 (h : wpPlan P l.toArray (Exit.then (Q .normal) fun _ _ _ => False) plan a w.drew) : (Code.region id l.toArray true).wp P Q a w := by
 simp only [Bool.and_eq_true,beq_iff_eq,List.all_eq_true] at hok
 obtain ⟨⟨⟨h1,h2⟩,h3⟩,h4⟩ := hok
 refine Code.wp_mono (Q := Exit.then (Q .normal) fun _ _ _ => False) (fun e a w hq => by cases e <;> first | exact hq | exact hq.elim) (wp_region_any hm ?_)
 rw [← h3]
 exact wpAny_of_L _ _ _ _ (plan_serves (fun e a w he hq => by cases e <;> first | exact he rfl | exact hq) h2 (fun i => (plan.filter (·.acts)).any (·.i == i)) plan [] [] _ a _ (by rw [h3];exact h1) h4 (by simp) h)
/-! ### The moves of a walk -/
section
variable {P : Program} {ops : Array Oper} {Q : Exit → Act → World → Prop} {i : Nat} {obl : List Nat} {rest : List Item} {a : Act} {w : World} {o : Oper} {d : Tmp} {v : Value}
theorem look (hi : ops[i]? = some o) (hd : o.dst = some d) (hw : Region.wanted o (yielded ops a.tmps) = true) (hr : (execOp a.eval o).run P w = .ok (.value v) w) (he : (a.put (some d) v).eval (.tmp d) = v)
 (h : wpPlan P ops Q rest (a.put (some d) v) w) : wpPlan P ops Q (⟨i,false,obl⟩ :: rest) a w := ⟨o,d,v,hi,hd,.inl ⟨hw,hr,he⟩,h⟩
theorem skip (hi : ops[i]? = some o) (hd : o.dst = some d) (hw : Region.wanted o (yielded ops a.tmps) = false)
 (h : wpPlan P ops Q rest (a.put (some d) undef) w) : wpPlan P ops Q (⟨i,false,obl⟩ :: rest) a w := ⟨o,d,undef,hi,hd,.inr ⟨hw,rfl⟩,h⟩
theorem act (hi : ops[i]? = some o) (h : wpList P ops (Exit.then (fun a' w' => Anew P ops a' w' obl ∧ wpPlan P ops Q rest a' w') fun _ _ _ => False) [o] a w) :
 wpPlan P ops Q (⟨i,true,obl⟩ :: rest) a w := ⟨o,hi,h⟩
theorem anew_nil : Anew P ops a w [] := fun _ h => by cases h
theorem anew_cons {f : Nat} {fs : List Nat} (hi : ops[f]? = some o) (hd : o.dst = some d) (h : Region.wanted o (yielded ops a.tmps) = true → (execOp a.eval o).run P w = .ok (.value (a.eval (.tmp d))) w) (hs : Anew P ops a w fs) : Anew P ops a w (f :: fs) := by
 intro x hx
 rcases List.mem_cons.1 hx with rfl | hx
 · intro o' d' ho hd' hw
   rw [hi] at ho
   cases ho
   rw [hd] at hd'
   cases hd'
   exact h hw
 · exact hs x hx
theorem done (h : Q .normal a w) : wpPlan P ops Q [] a w := h
end
end Go.Proofs.YtjlbacfedfkilaaGreat.Reg
