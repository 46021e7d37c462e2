/-
  Put together: Base, Own, Gen.
-/
import Derived.Test.YtjlbacfedfkilaaGreatRows
import Derived.WalkKit
import Derived.WalkSpells
import Derived.WalkLawsBesides
import Derived.ProofKit
import Derived.OpenShut
import Derived.JoinedCond
import Derived.RegionTactic
import Derived.ChangeAlike
import Derived.Deep.QuietTactic
import Derived.BigQuiet
import Derived.LoopTactic
import Derived.Deep.Slices
import Derived.Deep.Draws
import Derived.ChangeSame
import Derived.Carry
import Derived.Lib.Hide
import Derived.Maps.AppendAt
import Derived.Deep.AppendLies
import Derived.OwnWalk
import Derived.Laws.MakeOwn
import Derived.Laws.OwnMore
namespace Go.Proofs.YtjlbacfedfkilaaGreat
section
open Go.RowKit Go.ChangeShapes Go.WideShapes Go.ChangeAt
/-! ### the frame of a call -/
structure Kp (S : Nat → Prop) (w w' : World) : Prop where
 os : w'.os = w.os
 output : w'.output = w.output
 size : w.heap.size ≤ w'.heap.size
 block : ∀ k,k < w.heap.size → ¬ S k → w'.heap[k]? = w.heap[k]?
def No : Nat → Prop := fun _ => False
namespace Kp
variable {S S' : Nat → Prop} {w w' a b c : World}
theorem refl (S : Nat → Prop) (w : World) : Kp S w w := ⟨rfl,rfl,Nat.le_refl _,fun _ _ _ => rfl⟩
theorem mono (h : Kp S w w') (hs : ∀ k,k < w.heap.size → S k → S' k) : Kp S' w w' := ⟨h.os,h.output,h.size,fun k hk hn => h.block k hk fun hs' => hn (hs k hk hs')⟩
theorem any (h : Kp No w w') : Kp S w w' := h.mono fun _ _ h => h.elim
theorem trans (h : Kp S a b) (k : Kp S' b c) (hs : ∀ i,i < a.heap.size → S' i → S i) : Kp S a c :=
 ⟨k.os.trans h.os,k.output.trans h.output,Nat.le_trans h.size k.size,
  fun i hi hn => (k.block i (Nat.lt_of_lt_of_le hi h.size) fun hs' => hn (hs i hi hs')).trans (h.block i hi hn)⟩
theorem trans' (h : Kp S a b) (k : Kp S b c) : Kp S a c := h.trans k fun _ _ x => x
theorem transNo (h : Kp S a b) (k : Kp No b c) : Kp S a c := h.trans k fun _ _ x => x.elim
theorem ofBelow {B : Nat} (h : Below B w w') (hB : w.heap.size ≤ B) : Kp S w w' := ⟨h.os,h.output,h.size,fun k hk _ => h.block k (by omega)⟩
theorem alloc (h : Kp S a w) (o : Obj) : Kp S a (w.alloc o) :=
 ⟨h.os,h.output,Nat.le_trans h.size (by simp),fun i hi hn => (Below.heap_alloc w o i (Nat.lt_of_lt_of_le hi h.size)).trans (h.block i hi hn)⟩
theorem drew (h : Kp S a w) : Kp S a w.drew := ⟨h.os,h.output,h.size,h.block⟩
theorem drewN (h : Kp S a w) (n : Nat) : Kp S a (w.drewN n) := ⟨h.os,h.output,h.size,h.block⟩
theorem setCell (h : Kp S a w) {p : Addr} (hp : p.block < a.heap.size → S p.block) (u : Value) : Kp S a (w.setCell p u) :=
 ⟨h.os,h.output,by simpa [World.setCell] using h.size,fun i hi hn => (Below.heap_setCell w p u i (by
  rintro rfl
  exact hn (hp hi))).trans (h.block i hi hn)⟩
theorem grown {row : Option Nat} (h : Kp S a w) (hg : w.grownBy w' row) (hr : ∀ g,row = some g → g < a.heap.size → S g) : Kp S a w' :=
 ⟨hg.os.trans h.os,hg.output.trans h.output,Nat.le_trans h.size hg.size,fun i hi hn =>
  (hg.block i (Nat.lt_of_lt_of_le hi h.size) (fun e => hn (hr i e.symm hi))).trans (h.block i hi hn)⟩
theorem cell (h : Kp S w w') {p : Addr} (hp : p.block < w.heap.size) (hn : ¬ S p.block) : w'.cell? p = w.cell? p := World.cell?_of_block (h.block p.block hp hn)
theorem frozen (h : Kp S w w') {p : Addr} (hp : p.block < w.heap.size) (hn : ¬ S p.block) : w'.frozen? p = w.frozen? p := World.frozen?_of_block (h.block p.block hp hn)
theorem frame (h : Kp No w w') (may : MemPlace → Prop) : w.keptBut w' may := by
 refine ⟨h.os,h.output,fun i hi => ?_⟩
 rw [h.block i hi (fun x => x)]
 split <;> simp_all
theorem same (h : Kp No w w') {p : MemPlace} (hp : p.block < w.heap.size) : w.sameAt w' p := by
 cases p with
 | cell b o => exact World.cell?_of_block (w := w) (h.block b hp (fun x => x))
 | map b => exact h.block b hp (fun x => x)
end Kp
theorem lt_of_cell {w : World} {p : Addr} {v : Value} (h : w.cell? p = some v) : p.block < w.heap.size := by
 rcases Nat.lt_or_ge p.block w.heap.size with hlt | hge
 · exact hlt
 · unfold World.cell? at h
   rw [Array.getElem?_eq_none hge] at h
   cases h
/-! ### from a walk to the given statement -/
section
variable {H : Type} {enc : TypeId × Value → H} {P : Program}
theorem trodAll_kept {W W' : World} (hl : laidOutB P = true) (hb : Kp No W W') (sp : Nat → Bool) : ∀ {ts : List TypeId} {vs : List Value} {ds : List (DataW H)} {ps : List MemPlace},
 (∀ t ∈ ts,P.readableRec t = true ∧ t < P.types.size) → DataW.TrodAll enc P W 0 (fun _ => true) true ts vs ds ps → (∀ p ∈ ps,p.block < W.heap.size) → (∀ p ∈ ps,sp p.block = true) →
 DataW.TrodAll enc P W' 0 sp true ts vs ds ps
 | [],_,_,_,_,h,_,_ => by
   obtain ⟨rfl,rfl,rfl⟩ := trodAll_nil h
   rfl
 | t :: ts,_,_,_,hr,h,hlt,hsp => by
   obtain ⟨v,vs1,d,ds1,a,b,rfl,rfl,rfl,h1,h2⟩ := trodAll_cons h
   refine ⟨a,b,?_,trodAll_kept hl hb sp (fun t ht => hr t (List.mem_cons_of_mem _ ht)) h2 (fun p hp => hlt p (List.mem_append_right _ hp)) (fun p hp => hsp p (List.mem_append_right _ hp)),rfl⟩
   have hrt := hr t (List.mem_cons_self ..)
   exact WideElems.Trod_stays hl hrt.1 hrt.2 h1 (fun x hx => hb.same (hlt x (List.mem_append_left _ hx))) (fun x hx => hsp x (List.mem_append_left _ hx))
theorem post_of_law {f : Func} {s : ChangeSpec} {apart fresh handsOn again : Bool} {W W' : World} {args : Array Value} {ds gs : List (DataW H)} {before : List MemPlace} {tb : TypeId}
 (hl : laidOutB P = true) (hr : ∀ t ∈ f.params.toList,P.readableRec t = true ∧ t < P.types.size) (hf : f.resultTypes = #[tb]) (htb : P.underlying tb = some .bool) (hsv : s.vars = [])
 (hs : ∀ l : List (DataW H),l.length = f.params.toList.length → s.fn H l = { results := [.lit (.bool true)],args := l })
 (hW : DataW.Whole enc P f.params.toList s.vars apart W args.toList ds gs before) (hb : Kp No W W') :
 s.post enc P f apart fresh handsOn again W args (.bool true) W' := by
 have hlt : ∀ p ∈ before,p.block < W.heap.size := fun p hp => hW.lt p hp
 have hold : ∀ p ∈ before,(fun b => decide (b < W.heap.size)) p.block = true := fun p hp => by simpa using hlt p hp
 have hW0 := hW
 obtain ⟨p,q,hA,hV,hpq,hz,hn⟩ := hW
 have hgs : gs = [] ∧ q = [] := by
  rw [hsv] at hV
  obtain ⟨a,b⟩ := trodVars_none hV
  exact ⟨a,b⟩
 obtain ⟨rfl,rfl⟩ := hgs
 rw [List.append_nil] at hpq
 subst hpq
 have hlen : ds.length = f.params.toList.length := by
  have : ∀ {ts : List TypeId} {vs : List Value} {ds : List (DataW H)} {ps : List MemPlace},DataW.TrodAll enc P W 0 (fun _ => true) true ts vs ds ps → ds.length = ts.length := by
   intro ts
   induction ts with
   | nil => intro vs ds ps h;obtain ⟨_,rfl,_⟩ := trodAll_nil h;rfl
   | cons t ts ih =>
     intro vs ds ps h
     obtain ⟨v,vs1,d,ds1,a,b,rfl,rfl,rfl,h1,h2⟩ := trodAll_cons h
     simp [ih h2]
  exact this hA
 have hfn : s.fn H (ds ++ []) = { results := [.lit (.bool true)],args := ds } := by rw [List.append_nil];exact hs ds hlen
 have hres : ∀ (b : Nat) (sp : Nat → Bool) (hd : Bool),DataW.TrodAll enc P W' b sp hd f.resultTypes.toList ((Value.bool true).resultList f.resultTypes.size) (s.fn H (ds ++ [])).results [] := by
  intro b sp hd
  rw [hfn,hf]
  exact ⟨[],[],shut_bool htb true,rfl,rfl⟩
 have hargs : ∀ sp : Nat → Bool,(∀ p' ∈ before,sp p'.block = true) → DataW.TrodAll enc P W' 0 sp true f.params.toList args.toList (s.fn H (ds ++ [])).args before := by
  intro sp hsp
  rw [hfn]
  exact trodAll_kept hl hb sp hr hA hlt hsp
 have hvars : ∀ sp : Nat → Bool,DataW.TrodVars enc P W' sp s.vars (s.fn H (ds ++ [])).vars [] := by
  intro sp
  rw [hfn,hsv]
  rfl
 refine ⟨ds,[],before,[],before,[],hW0,hres _ _ _,hargs _ hold,hvars _,World.keptBut_mono (fun p' hp => ⟨hp,Or.inr (Or.inl hp)⟩) (hb.frame (· ∈ before)),fun _ => ?_⟩
 refine ⟨ok_one hf rfl (okWide_bool_mk htb true),_,_,([] ++ before) ++ [],⟨[] ++ before,[],trodAll_append (hargs _ (fun _ _ => rfl)) (hres _ _ _),hvars _,rfl,?_,?_⟩,?_⟩
 · intro b off hp
   have hin : MemPlace.cell b off ∈ before := by simpa using hp
   rw [hb.frozen (p := ⟨b,off,none⟩) (hlt _ hin) (fun x => x)]
   exact hz b off hin
 · intro ha
   have := hn ha
   simpa using this
 · intro p' hp _
   simpa using hp
end
/-! ### readings: a type's cells, what they read as, the blocks that this rests on -/
structure Rp (α : Type) where
 size : Nat
 R : World → (Nat → Prop) → List Value → α → Prop
 μ : α → Nat
 pos : 0 < size
 len : ∀ {w S cs a},R w S cs a → cs.length = size
 keep : ∀ {w w' S S' cs a},(∀ k,S k → S' k) → (∀ k,S k → w'.heap[k]? = w.heap[k]?) → R w S cs a → R w' S' cs a
 bnd : ∀ {w S cs a},R w S cs a → R w (fun k => S k ∧ k < w.heap.size) cs a
theorem block_add (a : Addr) (n : Nat) : (a.add n).block = a.block := by unfold Addr.add;split <;> rfl
namespace Rp
variable {α β : Type}
theorem more (E : Rp α) {w S S' cs a} (h : E.R w S cs a) (hs : ∀ k,S k → S' k) : E.R w S' cs a := E.keep hs (fun _ _ => rfl) h
theorem kept (E : Rp α) {w w' S T cs a} (h : E.R w S cs a) (hk : Kp T w w') (hs : ∀ k,S k → k < w.heap.size → ¬ T k) : E.R w' S cs a :=
 E.keep (fun _ x => x.1) (fun k hk' => hk.block k hk'.2 (hs k hk'.1 hk'.2)) (E.bnd h)
theorem keptNo (E : Rp α) {w w' S cs a} (h : E.R w S cs a) (hk : Kp No w w') : E.R w' S cs a := E.kept h hk fun _ _ _ x => x
def int (k : IntKind) : Rp Int where
 size := 1
 R _ _ cs n := cs = [.int k n] ∧ (Lit.int k n).wf = true
 μ _ := 1
 pos := Nat.one_pos
 len h := by rw [h.1];rfl
 keep _ _ h := h
 bnd h := h
def str : Rp ByteArray where
 size := 1
 R _ _ cs s := cs = [.string s] ∧ s.size ≤ maxLen
 μ s := s.size + 1
 pos := Nat.one_pos
 len h := by rw [h.1];rfl
 keep _ _ h := h
 bnd h := h
def bool : Rp Bool where
 size := 1
 R _ _ cs b := cs = [.bool b]
 μ _ := 1
 pos := Nat.one_pos
 len h := by rw [h];rfl
 keep _ _ h := h
 bnd h := h
def cellsAt (w : World) (ad : Addr) (es : List Value) : Prop := ∀ (j : Nat) u,es[j]? = some u → w.cell? (ad.add j) = some u
def sumμ (f : α → Nat) (l : List α) : Nat := (l.map f).sum
def slice (E : Rp α) : Rp (List α) where
 size := 1
 R w S cs l := ∃ A c,cs = [.slice A l.length c] ∧ l.length ≤ c ∧ c ≤ maxLen ∧
   (0 < l.length → ∃ ad,A = some ad ∧ S ad.block ∧ ∀ (i : Nat) a,l[i]? = some a → ∃ es,cellsAt w (ad.add (i * E.size)) es ∧ E.R w S es a)
 μ l := 1 + sumμ E.μ l
 pos := Nat.one_pos
 len := by rintro w S cs l ⟨A,c,rfl,_⟩;rfl
 keep := by
  rintro w w' S S' cs l hs hk ⟨A,c,rfl,h1,h2,h3⟩
  refine ⟨A,c,rfl,h1,h2,fun hl => ?_⟩
  obtain ⟨ad,rfl,hb,hc⟩ := h3 hl
  refine ⟨ad,rfl,hs _ hb,fun i a hi => ?_⟩
  obtain ⟨es,he,hr⟩ := hc i a hi
  refine ⟨es,fun j u hu => ?_,E.keep hs hk hr⟩
  rw [← he j u hu]
  have : ((ad.add (i * E.size)).add j).block = ad.block := by unfold Addr.add;split <;> split <;> rfl
  exact World.cell?_of_block (by rw [this];exact hk _ hb)
 bnd := by
  rintro w S cs l ⟨A,c,rfl,h1,h2,h3⟩
  refine ⟨A,c,rfl,h1,h2,fun hl => ?_⟩
  obtain ⟨ad,rfl,hb,hc⟩ := h3 hl
  refine ⟨ad,rfl,⟨hb,?_⟩,fun i a hi => ?_⟩
  · obtain ⟨es,he,hr⟩ := hc 0 l[0] (List.getElem?_eq_getElem hl)
    have hlen := E.len hr
    have hp := E.pos
    have := lt_of_cell (he 0 es[0] (List.getElem?_eq_getElem (by omega)))
    simpa [block_add] using this
  · obtain ⟨es,he,hr⟩ := hc i a hi
    exact ⟨es,he,E.bnd hr⟩
end Rp
theorem Rp.at_ {α : Type} {E : Rp α} (h1 : E.size = 1) {w S A c} {l : List α} (h : E.slice.R w S [.slice A l.length c] l) {i : Nat} {a : α} (hi : l[i]? = some a) :
 ∃ ad u,A = some ad ∧ S ad.block ∧ w.cell? (ad.add i) = some u ∧ E.R w S [u] a := by
 obtain ⟨A',c',he,_,_,h3⟩ := h
 simp only [List.cons.injEq,Value.slice.injEq,and_true,true_and] at he
 obtain ⟨rfl,rfl⟩ := he
 have hl : 0 < l.length := by have := (List.getElem?_eq_some_iff.1 hi).1;omega
 obtain ⟨ad,rfl,hb,hc⟩ := h3 hl
 obtain ⟨es,he,hr⟩ := hc i a hi
 have hlen := E.len hr
 rw [h1] at hlen
 match es,hlen with
 | [u],_ =>
   refine ⟨ad,u,rfl,hb,?_,hr⟩
   have := he 0 u rfl
   rw [h1,Nat.mul_one] at this
   simpa [Addr.add] using this
theorem Rp.at_int {k : IntKind} {w S A c} {l : List Int} (h : (Rp.int k).slice.R w S [.slice A l.length c] l) {i : Nat} {a : Int} (hi : l[i]? = some a) :
 ∃ ad,A = some ad ∧ S ad.block ∧ w.cell? (ad.add i) = some (.int k a) ∧ (Lit.int k a).wf = true := by
 obtain ⟨ad,u,h1,h2,h3,h4,h5⟩ := Rp.at_ rfl h hi
 simp only [List.cons.injEq,and_true] at h4
 subst h4
 exact ⟨ad,h1,h2,h3,h5⟩
theorem Rp.at_str {w S A c} {l : List ByteArray} (h : Rp.str.slice.R w S [.slice A l.length c] l) {i : Nat} {a : ByteArray} (hi : l[i]? = some a) :
 ∃ ad,A = some ad ∧ S ad.block ∧ w.cell? (ad.add i) = some (.string a) ∧ a.size ≤ maxLen := by
 obtain ⟨ad,u,h1,h2,h3,h4,h5⟩ := Rp.at_ rfl h hi
 simp only [List.cons.injEq,and_true] at h4
 subst h4
 exact ⟨ad,h1,h2,h3,h5⟩
theorem Rp.cut {α : Type} {E : Rp α} {w S ad c} {l : List α} (h : E.slice.R w S [.slice (some ad) l.length c] l) {k : Nat} (hk : k ≤ l.length) :
 E.slice.R w S [.slice (some (ad.add (k * E.size))) (l.drop k).length (c - k)] (l.drop k) := by
 obtain ⟨A',c',he,h1,h2,h3⟩ := h
 simp only [List.cons.injEq,Value.slice.injEq,and_true,true_and] at he
 obtain ⟨rfl,rfl⟩ := he
 refine ⟨_,_,rfl,by rw [List.length_drop];omega,by omega,fun hl => ⟨_,rfl,?_,fun i a hi => ?_⟩⟩
 · rw [List.length_drop] at hl
   obtain ⟨ad',he,hb,_⟩ := h3 (by omega)
   injection he with he
   subst he
   rw [block_add];exact hb
 · rw [List.getElem?_drop] at hi
   obtain ⟨ad',he,_,hc⟩ := h3 (by have := (List.getElem?_eq_some_iff.1 hi).1;omega)
   injection he with he
   subst he
   obtain ⟨es,h4,h5⟩ := hc (k + i) a hi
   refine ⟨es,?_,h5⟩
   rw [Deep.add_add,← Nat.add_mul]
   exact h4
theorem Rp.head {α : Type} {E : Rp α} {w S A c} {l : List α} (h : E.slice.R w S [.slice A l.length c] l) {k : Nat} (hk : k ≤ l.length) :
 E.slice.R w S [.slice A (l.take k).length c] (l.take k) := by
 obtain ⟨A',c',he,h1,h2,h3⟩ := h
 simp only [List.cons.injEq,Value.slice.injEq,and_true,true_and] at he
 obtain ⟨rfl,rfl⟩ := he
 refine ⟨_,_,rfl,by rw [List.length_take];omega,h2,fun hl => ?_⟩
 rw [List.length_take] at hl
 obtain ⟨ad,he,hb,hc⟩ := h3 (by omega)
 refine ⟨ad,he,hb,fun i a hi => hc i a ?_⟩
 have hlt := (List.getElem?_eq_some_iff.1 hi).1
 rw [List.length_take] at hlt
 rwa [List.getElem?_take_of_lt (by omega)] at hi
theorem Rp.of_block {k : IntKind} {w : World} {S : Nat → Prop} {g : Nat} {cs : Array Value} {e : TypeId} {fr : Nat × Nat} {c : Nat} {l : List Int} (hb : w.heap[g]? = some (.cells cs e fr)) (hS : S g)
 (hcs : cs.toList = l.map (.int k)) (hc : l.length ≤ c) (hm : c ≤ maxLen) (hwf : ∀ a ∈ l,(Lit.int k a).wf = true) :
 (Rp.int k).slice.R w S [.slice (some ⟨g,0,none⟩) l.length c] l := by
 refine ⟨_,_,rfl,hc,hm,fun _ => ⟨_,rfl,hS,fun i a hi => ⟨[.int k a],fun j u hu => ?_,rfl,hwf a (List.mem_of_getElem? hi)⟩⟩⟩
 have hj : j = 0 := by
  rcases Nat.eq_zero_or_pos j with h | h
  · exact h
  · rw [List.getElem?_eq_none (by simp;omega)] at hu;cases hu
 subst hj
 simp only [List.getElem?_cons_zero,Option.some.injEq] at hu
 subst hu
 have e : ((Addr.add ⟨g,0,none⟩ (i * (Rp.int k).size)).add 0) = ⟨g,i,none⟩ := by
  show ((Addr.add ⟨g,0,none⟩ (i * 1)).add 0) = _
  unfold Addr.add
  rcases Nat.eq_zero_or_pos i with h | h
  · subst h;rfl
  · rw [if_pos rfl,if_neg (by omega)];simp
 rw [e]
 have h2 : cs[i]? = some (.int k a) := by
  rw [← Array.getElem?_toList,hcs,List.getElem?_map,hi];rfl
 simp [World.cell?,hb,h2]
theorem Rp.of_block1 {α : Type} {E : Rp α} (h1 : E.size = 1) {w : World} {S : Nat → Prop} {g : Nat} {cs : Array Value} {e : TypeId} {fr : Nat × Nat} {c : Nat} {l : List α} (enc : α → Value) (hb : w.heap[g]? = some (.cells cs e fr)) (hS : S g)
 (hcs : cs.toList = l.map enc) (hc : l.length ≤ c) (hm : c ≤ maxLen) (henc : ∀ a ∈ l,E.R w S [enc a] a) :
 E.slice.R w S [.slice (some ⟨g,0,none⟩) l.length c] l := by
 refine ⟨_,_,rfl,hc,hm,fun _ => ⟨_,rfl,hS,fun i a hi => ⟨[enc a],fun j u hu => ?_,henc a (List.mem_of_getElem? hi)⟩⟩⟩
 have hj : j = 0 := by
  rcases Nat.eq_zero_or_pos j with h | h
  · exact h
  · rw [List.getElem?_eq_none (by simp;omega)] at hu;cases hu
 subst hj
 simp only [List.getElem?_cons_zero,Option.some.injEq] at hu
 subst hu
 have e : ((Addr.add ⟨g,0,none⟩ (i * E.size)).add 0) = ⟨g,i,none⟩ := by
  rw [h1]
  unfold Addr.add
  rcases Nat.eq_zero_or_pos i with h | h
  · subst h;rfl
  · rw [if_pos rfl,if_neg (by omega)];simp
 rw [e]
 have h2 : cs[i]? = some (enc a) := by
  rw [← Array.getElem?_toList,hcs,List.getElem?_map,hi];rfl
 simp [World.cell?,hb,h2]
/-! ### what came in -/
def Arg (P : Program) (t : TypeId) {α : Type} (E : Rp α) : Prop :=
 ∀ {H : Type} {enc : TypeId × Value → H} {w : World} {spare : Nat → Bool} {held : Bool} {fuel : Nat} {cs : List Value} {x : DataW H × List MemPlace},
   DataW.trod enc P w 0 spare held fuel t cs = some x → ∃ a,E.R w (fun k => k < w.heap.size) cs a ∧ E.μ a ≤ Rows.uptoBulk x.1
theorem bulkAll_append {H : Type} (l r : List (DataW H)) : Rows.uptoBulkAll (l ++ r) = Rows.uptoBulkAll l + Rows.uptoBulkAll r := by
 induction l with
 | nil => simp [Rows.uptoBulkAll]
 | cons x l ih => simp only [List.cons_append,Rows.uptoBulkAll,ih];omega
section
variable {P : Program} {t : TypeId}
theorem Arg.int {k : IntKind} (ht : P.underlying t = some (.int k)) : Arg P t (Rp.int k) := by
 intro H enc w spare held fuel cs x h
 obtain ⟨n,rfl,rfl,hw⟩ := DataW.trod_int ht h
 exact ⟨n,⟨rfl,hw⟩,by simp [Rp.int,Rows.uptoBulk]⟩
theorem Arg.str (ht : P.underlying t = some .string) : Arg P t Rp.str := by
 intro H enc w spare held fuel cs x h
 obtain ⟨s,rfl,rfl,hs⟩ := DataW.trod_string ht h
 exact ⟨s,⟨rfl,hs⟩,by simp [Rp.str,Rows.uptoBulk]⟩
theorem Arg.bool (ht : P.underlying t = some .bool) : Arg P t Rp.bool := by
 intro H enc w spare held fuel cs x h
 obtain ⟨b,rfl,rfl⟩ := DataW.trod_bool ht h
 exact ⟨b,rfl,by simp [Rp.bool,Rows.uptoBulk]⟩
theorem Arg.slice {e : TypeId} {α : Type} {E : Rp α} (ht : P.underlying t = some (.slice e)) (hc : P.cellsOf e = E.size) (he : Arg P e E) : Arg P t E.slice := by
 intro H enc w spare held fuel cs x h
 rcases Deep.open_slice ht h with ⟨rfl,rfl⟩ | ⟨a,len,cap,m,n,D,Pl,rfl,hb,hl,hm,hmm,rfl,hx⟩
 · exact ⟨[],⟨none,0,rfl,Nat.le_refl _,by simp,fun h => absurd h (by simp)⟩,by simp [Rp.slice,Rp.sumμ,Rows.uptoBulk]⟩
 · have hle : len ≤ m := by rw [hmm];split <;> omega
   have hall : ∀ i,i < len → ∃ a' : α,(∃ es,Rp.cellsAt w (a.add (i * E.size)) es ∧ E.R w (fun k => k < w.heap.size) es a') ∧ E.μ a' ≤ Rows.uptoBulk (D i) := by
    intro i hi
    obtain ⟨cs',hcells,ht'⟩ := hx i (by omega)
    obtain ⟨a',hr,hμ⟩ := he ht'
    obtain ⟨_,hlen,hat⟩ := World.cells?_some hcells
    refine ⟨a',⟨cs',fun j u hu => ?_,hr⟩,hμ⟩
    obtain ⟨hj,rfl⟩ := List.getElem?_eq_some_iff.1 hu
    rw [hc] at hat
    rw [hat j (by omega)]
    exact hu
   have hex : ∃ l : List α,l.length = len ∧ (∀ (i : Nat) a',l[i]? = some a' → ∃ es,Rp.cellsAt w (a.add (i * E.size)) es ∧ E.R w (fun k => k < w.heap.size) es a') ∧ Rp.sumμ E.μ l ≤ Rows.uptoBulkAll ((List.range len).map D) := by
    clear hmm hx hl h
    induction len with
    | zero => exact ⟨[],rfl,by simp,by simp [Rp.sumμ,Rows.uptoBulkAll]⟩
    | succ len ih =>
      obtain ⟨l,h1,h2,h3⟩ := ih (by omega) (fun i hi => hall i (by omega))
      obtain ⟨a',h4,h5⟩ := hall len (by omega)
      refine ⟨l ++ [a'],by simp [h1],fun i x hi => ?_,?_⟩
      · by_cases hil : i < l.length
        · rw [List.getElem?_append_left hil] at hi
          exact h2 i x hi
        · rw [List.getElem?_append_right (by omega)] at hi
          have : i - l.length = 0 := by
           rcases Nat.eq_zero_or_pos (i - l.length) with h | h
           · exact h
           · rw [List.getElem?_eq_none (by simp;omega)] at hi;cases hi
          rw [this] at hi
          simp at hi
          subst hi
          have : i = len := by omega
          subst this
          exact h4
      · simp only [List.range_succ,List.map_append,bulkAll_append,Rp.sumμ,List.map_cons,List.map_nil,Rows.uptoBulkAll,List.sum_append,List.sum_cons,List.sum_nil] at h3 ⊢
        omega
   obtain ⟨l,rfl,h2,h3⟩ := hex
   refine ⟨l,⟨some a,cap,rfl,hl,hm,fun hpos => ⟨a,rfl,?_,h2⟩⟩,by simp only [Rp.slice,Rows.uptoBulk];omega⟩
   obtain ⟨es,hes,hr⟩ := h2 0 (l[0]) (List.getElem?_eq_getElem hpos)
   have hlen := E.len hr
   have hp := E.pos
   have := lt_of_cell (hes 0 es[0] (List.getElem?_eq_getElem (by omega)))
   simpa [block_add] using this
end
theorem one_of_int {v : Value} {k : IntKind} (h : ∃ n,v = .int k n) : v.cells.toList = [v] := by obtain ⟨n,rfl⟩ := h;rfl
theorem one_of_slice {v : Value} (h : ∃ a len cap,v = .slice a len cap) : v.cells.toList = [v] := by obtain ⟨a,b,c,rfl⟩ := h;rfl
theorem Arg.one {P : Program} {t : TypeId} {α : Type} {E : Rp α} (ha : Arg P t E) {H : Type} {enc : TypeId × Value → H} {w : World} {spare : Nat → Bool} {held : Bool} {v : Value} {d : DataW H} {p : List MemPlace}
 (hc : v.cells.toList = [v]) (h : DataW.Trod enc P w 0 spare held t v d p) : ∃ a,E.R w (fun k => k < w.heap.size) [v] a ∧ E.μ a ≤ Rows.uptoBulk d := by
 obtain ⟨fuel,hf⟩ := h
 rw [hc] at hf
 exact ha hf
theorem bound_of {H : Type} {l : List (DataW H)} (hk : Rows.uptoSmall H l = true) : Rows.uptoBulkAll l ≤ 1048576 := of_decide_eq_true hk
end
section
open Go.RowKit Go.ChangeShapes Go.WideShapes Go.ChangeAt
def Rp.raw : Rp Value where
 size := 1
 R _ _ cs a := cs = [a] ∧ a.oneCell' = true
 μ _ := 1
 pos := Nat.one_pos
 len h := by rw [h.1];rfl
 keep _ _ h := h
 bnd h := h
def Elem (P : Program) (t e : TypeId) (size bytes : Nat) : Prop :=
 P.underlying t = some (.slice e) ∧ ∃ i z,P.info? e = some i ∧ i.zero = some z ∧ i.size = size ∧ i.bytes = bytes ∧ z.cells.size = size ∧ 0 < size
theorem Elem.of {P : Program} {t e : TypeId} {z : Value} {size bytes : Nat} (ht : P.underlying t = some (.slice e)) (h : (P.info? e).map (fun i => (i.zero,i.size,i.bytes)) = some (some z,size,bytes)) (hz : z.cells.size = size) (hp : 0 < size) :
 Elem P t e size bytes := by
 obtain ⟨i,h1,h2,h3,h4⟩ := info_parts h
 exact ⟨ht,i,z,h1,h2,h3,h4,hz,hp⟩
def Own {α : Type} (E : Rp α) (w : World) (S : Nat → Prop) (base : Nat) (e : TypeId) (v : Value) (l : List α) : Prop :=
 ∃ xs,w.ownsRow base e E.size v l.length xs ∧ (∀ u ∈ xs,u.oneCell' = true) ∧ ∀ (i : Nat) a,l[i]? = some a → E.R w S ((xs.drop (i * E.size)).take E.size) a
theorem add_add (a : Addr) (i j : Nat) : (a.add i).add j = a.add (i + j) := Deep.add_add a i j
theorem Rp.news {α : Type} {E : Rp α} {w S A c} {m : List α} (h : E.slice.R w S [.slice A m.length c] m) :
 ∃ news : List Value,news.length = m.length * E.size ∧ (0 < m.length → ∃ ad,A = some ad ∧ S ad.block ∧ ∀ (j : Nat) u,news[j]? = some u → w.cell? (ad.add j) = some u) ∧
   ∀ (i : Nat) a,m[i]? = some a → E.R w S ((news.drop (i * E.size)).take E.size) a := by
 obtain ⟨A',c',he,_,_,h3⟩ := h
 simp only [List.cons.injEq,Value.slice.injEq,and_true,true_and] at he
 obtain ⟨rfl,rfl⟩ := he
 by_cases hm : 0 < m.length
 · obtain ⟨ad,rfl,hb,hc⟩ := h3 hm
   clear h3
   have : ∀ n,n ≤ m.length → ∃ news : List Value,news.length = n * E.size ∧ (∀ (j : Nat) u,news[j]? = some u → w.cell? (ad.add j) = some u) ∧
    ∀ (i : Nat) a,i < n → m[i]? = some a → E.R w S ((news.drop (i * E.size)).take E.size) a := by
    intro n
    induction n with
    | zero => intro _;exact ⟨[],by simp,by simp,fun i a h => absurd h (Nat.not_lt_zero _)⟩
    | succ n ih =>
      intro hn
      obtain ⟨news,h1,h2,h3⟩ := ih (by omega)
      obtain ⟨es,h4,h5⟩ := hc n m[n] (List.getElem?_eq_getElem (by omega))
      have hes := E.len h5
      refine ⟨news ++ es,by rw [List.length_append,h1,hes,Nat.succ_mul],fun j u hu => ?_,fun i a hi ha => ?_⟩
      · by_cases hj : j < news.length
        · exact h2 j u (by rwa [List.getElem?_append_left hj] at hu)
        · rw [List.getElem?_append_right (by omega)] at hu
          have := h4 _ u hu
          rw [add_add] at this
          rwa [show n * E.size + (j - news.length) = j by omega] at this
      · rcases Nat.lt_or_ge i n with hlt | hge
        · have h6 := h3 i a hlt ha
          have hle : (i + 1) * E.size ≤ n * E.size := Nat.mul_le_mul_right _ hlt
          rw [Nat.succ_mul] at hle
          rw [List.drop_append_of_le_length (by omega),List.take_append_of_le_length (by rw [List.length_drop];omega)]
          exact h6
        · obtain rfl : i = n := by omega
          rw [List.getElem?_eq_getElem (by omega)] at ha
          injection ha with ha
          subst ha
          rw [List.drop_append,← h1,List.drop_length,Nat.sub_self,List.drop_zero,List.nil_append,← hes,List.take_length]
          exact h5
   obtain ⟨news,h1,h2,h3⟩ := this m.length (Nat.le_refl _)
   exact ⟨news,h1,fun _ => ⟨ad,rfl,hb,h2⟩,fun i a ha => h3 i a (List.getElem?_eq_some_iff.1 ha).1 ha⟩
 · have hm0 : m.length = 0 := by omega
   exact ⟨[],by simp [hm0],fun h => absurd h hm,fun i a ha => absurd (List.getElem?_eq_some_iff.1 ha).1 (by omega)⟩
namespace Own
variable {α : Type} {E : Rp α} {w w' : World} {S : Nat → Prop} {base : Nat} {e : TypeId} {v : Value} {l : List α}
theorem nil (E : Rp α) (w : World) (S : Nat → Prop) (base : Nat) (e : TypeId) : Own E w S base e (.slice none 0 0) [] := ⟨[],World.ownsRow_nil w base e E.size,by simp,by simp⟩
theorem lit {g : Nat} (h : w.heap[g]? = some (.cells #[] e (0,0))) (hb : base ≤ g) : Own E w S base e (.slice (some ⟨g,0,none⟩) 0 0) [] :=
 ⟨[],⟨by simp,.inr ⟨g,0,#[],rfl,hb,h,Nat.le_refl _,by simp,by simp,by simp⟩⟩,by simp,by simp⟩
theorem shape (h : Own E w S base e v l) : ∃ A c,v = .slice A l.length c := by
 obtain ⟨xs,⟨_,h⟩,_⟩ := h
 rcases h with ⟨rfl,h⟩ | ⟨g,cap,cur,rfl,_⟩
 · exact ⟨none,0,by rw [h]⟩
 · exact ⟨_,_,rfl⟩
theorem mono (h : Own E w S base e v l) {base' : Nat} {S' : Nat → Prop} (hb : base' ≤ base) (hs : ∀ k,S k → S' k) : Own E w S' base' e v l := by
 obtain ⟨xs,h1,h2,h3⟩ := h
 refine ⟨xs,?_,h2,fun i a ha => E.more (h3 i a ha) hs⟩
 obtain ⟨h4,h5⟩ := h1
 refine ⟨h4,?_⟩
 rcases h5 with h5 | ⟨g,cap,cur,hv,hg,r⟩
 · exact .inl h5
 · exact .inr ⟨g,cap,cur,hv,by omega,r⟩
theorem lt (h : Own E w S base e v l) : ∀ k,v.ownBlock = some k → base ≤ k ∧ k < w.heap.size := by
 obtain ⟨xs,h1,_⟩ := h
 exact h1.lt
theorem block (h : Own E w S base e v l) {g : Nat} (hg : v.ownBlock = some g) : ∃ cs,w.heap[g]? = some (.cells cs e (0,0)) := by
 obtain ⟨xs,⟨_,h1⟩,_⟩ := h
 rcases h1 with ⟨rfl,_⟩ | ⟨g',cap,cur,rfl,_,hh,_⟩
 · simp [Value.ownBlock] at hg
 · have : g' = g := by simpa [Value.ownBlock] using hg
   subst this
   exact ⟨cur,hh⟩
theorem read (h : Own E w S base e v l) (hs : ∀ k,v.ownBlock = some k → S k) : E.slice.R w S [v] l := by
 obtain ⟨xs,⟨h0,h1⟩,_,h3⟩ := h
 rcases h1 with ⟨rfl,h1⟩ | ⟨g,cap,cur,rfl,hb,hg,hn,hm,hc,ht⟩
 · have : l = [] := List.eq_nil_of_length_eq_zero h1
   subst this
   exact ⟨_,_,rfl,Nat.le_refl _,by simp,fun h => absurd h (by simp)⟩
 · refine ⟨_,_,rfl,hn,hm,fun _ => ⟨_,rfl,hs g rfl,fun i a ha => ⟨_,fun j u hu => ?_,h3 i a ha⟩⟩⟩
   rw [add_add]
   have hj : j < E.size := by
    have := (List.getElem?_eq_some_iff.1 hu).1
    simp only [List.length_take] at this
    omega
   rw [List.getElem?_take_of_lt hj,List.getElem?_drop] at hu
   rw [show (Addr.add ⟨g,0,none⟩ (i * E.size + j)) = ⟨g,i * E.size + j,none⟩ by unfold Addr.add;split <;> simp_all]
   rw [cell_of_row w g _ cur e (0,0) hg,← Array.getElem?_toList]
   rw [← ht,List.getElem?_take_of_lt] at hu
   · exact hu
   · have := (List.getElem?_eq_some_iff.1 hu).1
     rw [List.length_take] at this
     omega
theorem readFrom (h : Own E w S base e v l) : E.slice.R w (fun k => S k ∨ base ≤ k) [v] l :=
 (h.mono (Nat.le_refl _) (fun _ hk => Or.inl hk)).read fun k hk => Or.inr (h.lt k hk).1
theorem kept {T : Nat → Prop} (h : Own E w S base e v l) (hk : Kp T w w') (hs : ∀ k,S k → k < w.heap.size → ¬ T k) (hv : ∀ k,v.ownBlock = some k → ¬ T k) : Own E w' S base e v l := by
 obtain ⟨xs,h1,h2,h3⟩ := h
 refine ⟨xs,?_,h2,fun i a ha => E.kept (h3 i a ha) hk hs⟩
 obtain ⟨h4,h5⟩ := h1
 refine ⟨h4,?_⟩
 rcases h5 with h5 | ⟨g,cap,cur,rfl,hb,hg,r⟩
 · exact .inl h5
 · refine .inr ⟨g,cap,cur,rfl,hb,?_,r⟩
   have hlt : g < w.heap.size := (Array.getElem?_eq_some_iff.1 hg).1
   rw [hk.block g hlt (hv g rfl)]
   exact hg
theorem keptNo (h : Own E w S base e v l) (hk : Kp No w w') : Own E w' S base e v l := h.kept hk (fun _ _ _ x => x) (fun _ _ x => x)
theorem drew (h : Own E w S base e v l) : Own E w.drew S base e v l := h.keptNo ((Kp.refl _ _).drew)
theorem str_any {l : List ByteArray} (h : Own Rp.str w S base e v l) (S' : Nat → Prop) : Own Rp.str w S' base e v l := by
 obtain ⟨xs,h1,h2,h3⟩ := h
 exact ⟨xs,h1,h2,fun i a ha => h3 i a ha⟩
theorem alloc (h : Own E w S base e v l) (o : Obj) : Own E (w.alloc o) S base e v l := h.keptNo ((Kp.refl _ _).alloc o)
section
variable {vs : List Value}
theorem raw_vals (h : Own Rp.raw w S base e v vs) : w.ownsRow base e 1 v vs.length vs ∧ ∀ u ∈ vs,u.oneCell' = true := by
 obtain ⟨xs,h1,h2,h3⟩ := h
 have hx : xs = vs := by
  apply List.ext_getElem?
  intro i
  have hl : xs.length = vs.length := by have := h1.1;simpa [Rp.raw] using this
  rcases Nat.lt_or_ge i vs.length with hlt | hge
  · have h4 := (h3 i vs[i] (List.getElem?_eq_getElem hlt)).1
    simp only [Rp.raw,Nat.mul_one] at h4
    have h5 := congrArg (fun l : List Value => l[0]?) h4
    simp only [List.getElem?_cons_zero] at h5
    rw [List.getElem?_take_of_lt (by omega),List.getElem?_drop,Nat.add_zero] at h5
    rw [h5,List.getElem?_eq_getElem hlt]
  · rw [List.getElem?_eq_none hge,List.getElem?_eq_none (by omega)]
 subst hx
 exact ⟨h1,h2⟩
theorem of_raw (h1 : w.ownsRow base e 1 v vs.length vs) (h2 : ∀ u ∈ vs,u.oneCell' = true) : Own Rp.raw w S base e v vs := by
 refine ⟨vs,h1,h2,fun i a ha => ⟨?_,h2 a (List.mem_of_getElem? ha)⟩⟩
 obtain ⟨hlt,rfl⟩ := List.getElem?_eq_some_iff.1 ha
 show (vs.drop (i * 1)).take 1 = _
 rw [Nat.mul_one,List.drop_eq_getElem_cons hlt]
 rfl
theorem raw_cell {A : Option Addr} {c : Nat} (h : Own Rp.raw w S base e (.slice A vs.length c) vs) {i : Nat} {u : Value} (hi : vs[i]? = some u) :
 ∃ g,A = some ⟨g,0,none⟩ ∧ base ≤ g ∧ g < w.heap.size ∧ w.cell? ⟨g,i,none⟩ = some u ∧ w.frozen? ⟨g,i,none⟩ = false := by
 obtain ⟨h1,_⟩ := raw_vals h
 have hlt := (List.getElem?_eq_some_iff.1 hi).1
 obtain ⟨g,cap,he,hb,hg⟩ := h1.form (by omega)
 have hA : A = some ⟨g,0,none⟩ := by injection he
 subst hA
 have hc : c = cap := by injection he
 subst hc
 exact ⟨g,rfl,hb,hg,by rw [h1.cellAt i (by omega),hi],h1.frozenAt i⟩
end
end Own
section
variable {P : Program} {α : Type} {E : Rp α}
theorem run_append_rp (w : World) (base : Nat) (t ty e : TypeId) (bytes : Nat) (el : Elem P t e E.size bytes) (S : Nat → Prop) (v : Value) (l : List α) (hown : Own E w S base e v l)
 (A : Option Addr) (c : Nat) (S' : Nat → Prop) (m : List α) (hsrc : E.slice.R w S' [.slice A m.length c] m) (hone : ∀ cs a S',E.R w S' cs a → ∀ u ∈ cs,u.oneCell' = true)
 (hcap : l.length + m.length ≤ maxLen) (hbytes : (l.length + m.length) * bytes ≤ 140737488355328) (hbase : base ≤ w.heap.size) (hS' : ∀ k,S' k → S k) (hSv : ∀ k,v.ownBlock = some k → ¬ S k) :
 ∃ v' w',(Builtin.append_ #[t,t] ty #[v,.slice A m.length c]).run P w = .ok v' w' ∧ Own E w' S base e v' (l ++ m) ∧ w.grownBy w' v.ownBlock ∧
   (v'.ownBlock = v.ownBlock ∨ v'.ownBlock = some w.heap.size) := by
 obtain ⟨xs,h1,h2,h3⟩ := hown
 obtain ⟨news,h4,h5,h6⟩ := Rp.news hsrc
 obtain ⟨ht,i,z,hi,hz,hsize,hby,hzs,hpos⟩ := el
 have hnewsone : ∀ u ∈ news,u.oneCell' = true := by
  intro u hu
  obtain ⟨j,hj,rfl⟩ := List.mem_iff_getElem.1 hu
  have hq : j / E.size < m.length := by
   rw [Nat.div_lt_iff_lt_mul E.pos];omega
  have h7 := h6 (j / E.size) m[j / E.size] (List.getElem?_eq_getElem hq)
  refine hone _ _ _ h7 _ (List.mem_of_getElem? (i := j % E.size) ?_)
  rw [List.getElem?_take_of_lt (Nat.mod_lt _ E.pos),List.getElem?_drop]
  have : j / E.size * E.size + j % E.size = j := by rw [Nat.mul_comm];exact Nat.div_add_mod j E.size
  rw [this]
  exact List.getElem?_eq_getElem hj
 have close : ∀ v' w',w'.ownsRow base e E.size v' (l.length + m.length) (xs ++ news) → w.grownBy w' v.ownBlock → Own E w' S base e v' (l ++ m) := by
  intro v' w' hown' hg
  have hkp : Kp (fun k => v.ownBlock = some k) w w' := (Kp.refl _ w).grown hg (fun g hg _ => hg)
  refine ⟨xs ++ news,by rw [List.length_append];exact hown',?_,fun i a ha => ?_⟩
  · intro u hu
    rcases List.mem_append.1 hu with h | h
    · exact h2 u h
    · exact hnewsone u h
  · rcases Nat.lt_or_ge i l.length with hlt | hge
    · rw [List.getElem?_append_left hlt] at ha
      have h7 := h3 i a ha
      have hxl := h1.1
      have hle : (i + 1) * E.size ≤ l.length * E.size := Nat.mul_le_mul_right _ hlt
      rw [Nat.succ_mul] at hle
      rw [List.drop_append_of_le_length (by omega),List.take_append_of_le_length (by rw [List.length_drop];omega)]
      exact E.kept h7 hkp (fun k hk _ hv => hSv k hv hk)
    · rw [List.getElem?_append_right hge] at ha
      have h7 := h6 _ a ha
      have hxl := h1.1
      have hle : l.length * E.size ≤ i * E.size := Nat.mul_le_mul_right _ hge
      rw [List.drop_append,List.drop_eq_nil_of_le (by omega),List.nil_append,hxl,← Nat.sub_mul]
      exact E.kept (E.more h7 hS') hkp (fun k hk _ hv => hSv k hv hk)
 rcases A with _ | ad
 · have hm : m.length = 0 := by
    rcases Nat.eq_zero_or_pos m.length with h | h
    · exact h
    · obtain ⟨ad,h,_⟩ := h5 h
      cases h
   have hn : news = [] := List.eq_nil_of_length_eq_zero (by simpa [hm] using h4)
   refine ⟨v,w,?_,?_,World.grownBy.refl w _,.inl rfl⟩
   · rw [hm]
     rcases h1.2 with ⟨rfl,_⟩ | ⟨g,cap,cur,rfl,_,_,hnc,_⟩
     · simp [Builtin.append_,run_underlying ht,sizeOf,typeInfo,hi,Builtin.lenOf,Builtin.firstCells]
     · simp [Builtin.append_,run_underlying ht,sizeOf,typeInfo,hi,Builtin.lenOf,Builtin.firstCells,hnc,storeCells]
   · refine close v w ?_ (World.grownBy.refl w _)
     rw [hm,hn,List.append_nil,Nat.add_zero]
     exact h1
 · have hcells : ∀ (j : Nat) u,news[j]? = some u → w.cell? (ad.add j) = some u := by
    intro j u hu
    rcases Nat.eq_zero_or_pos m.length with h0 | h0
    · have hn : news = [] := List.eq_nil_of_length_eq_zero (by simpa [h0] using h4)
      rw [hn] at hu
      simp at hu
    · obtain ⟨ad',h,_,hc⟩ := h5 h0
      injection h with h
      subst h
      exact hc j u hu
   obtain ⟨v',w',hrun,h8,h9,_,h10⟩ := run_append_own_at (P := P) w base t ty e i z E.size bytes ht hi hz hsize hby hzs hpos v l.length xs h1 ad m.length c news h4 hcells hnewsone hcap hbytes hbase
   exact ⟨v',w',hrun,close v' w' h8 h9,h9,h10⟩
theorem wp_append_rp {o : Oper} {a : Act} {K : Act → World → Prop} {Q : Exit → Act → World → Prop} (w : World) (s x : Operand) (t : TypeId)
 (ho : o.op = .call { callee := .builtin .append,args := #[s,x],argTypes := #[t,t] })
 (base : Nat) (e : TypeId) (bytes : Nat) (el : Elem P t e E.size bytes) (S : Nat → Prop) (v : Value) (l : List α) (hs : a.eval s = v) (hown : Own E w S base e v l)
 (A : Option Addr) (c : Nat) (S' : Nat → Prop) (m : List α) (hx : a.eval x = .slice A m.length c) (hsrc : E.slice.R w S' [.slice A m.length c] m) (hone : ∀ cs a S',E.R w S' cs a → ∀ u ∈ cs,u.oneCell' = true)
 (hcap : l.length + m.length ≤ maxLen) (hbytes : (l.length + m.length) * bytes ≤ 140737488355328) (hbase : base ≤ w.heap.size) (hS' : ∀ k,S' k → S k) (hSv : ∀ k,v.ownBlock = some k → ¬ S k)
 (h : ∀ v' w',Own E w' S base e v' (l ++ m) → w.grownBy w' v.ownBlock → (v'.ownBlock = v.ownBlock ∨ v'.ownBlock = some w.heap.size) → K (a.put o.dst v') w') : o.wp P a w K Q := by
 obtain ⟨v',w',hrun,h2,h3,h4⟩ := run_append_rp (P := P) w base t o.type e bytes el S v l hown A c S' m hsrc hone hcap hbytes hbase hS' hSv
 unfold Oper.wp execOp
 simp only [ho,resolve,invoke,builtin,Sem.run_bind,Sem.run_pure,Result.andThen_ok,List.map_toArray,List.map_cons,List.map_nil,hs,hx,hrun]
 exact h v' w' h2 h3 h4
theorem wpList_append_rp {ops : Array Oper} {rest : List Oper} {o : Oper} {a : Act} {Q : Exit → Act → World → Prop} (hgd : o.guard = none) (w : World) (s x : Operand) (t : TypeId)
 (ho : o.op = .call { callee := .builtin .append,args := #[s,x],argTypes := #[t,t] })
 (base : Nat) (e : TypeId) (bytes : Nat) (el : Elem P t e E.size bytes) (S : Nat → Prop) (v : Value) (l : List α) (hs : a.eval s = v) (hown : Own E w S base e v l)
 (A : Option Addr) (c : Nat) (S' : Nat → Prop) (m : List α) (hx : a.eval x = .slice A m.length c) (hsrc : E.slice.R w S' [.slice A m.length c] m) (hone : ∀ cs a S',E.R w S' cs a → ∀ u ∈ cs,u.oneCell' = true)
 (hcap : l.length + m.length ≤ maxLen) (hbytes : (l.length + m.length) * bytes ≤ 140737488355328) (hbase : base ≤ w.heap.size) (hS' : ∀ k,S' k → S k) (hSv : ∀ k,v.ownBlock = some k → ¬ S k)
 (h : ∀ v' w',Own E w' S base e v' (l ++ m) → w.grownBy w' v.ownBlock → (v'.ownBlock = v.ownBlock ∨ v'.ownBlock = some w.heap.size) → wpList P ops Q rest (a.put o.dst v') w') : wpList P ops Q (o :: rest) a w :=
 wpList_plain hgd fun _ hK => wp_append_rp w s x t ho base e bytes el S v l hs hown A c S' m hx hsrc hone hcap hbytes hbase hS' hSv fun v' w' h2 h3 h4 => hK _ _ (h v' w' h2 h3 h4)
theorem wp_copy_lit {o : Oper} {a : Act} {K : Act → World → Prop} {Q : Exit → Act → World → Prop} (w : World) (s x : Operand) (t : TypeId)
 (ho : o.op = .call { callee := .builtin .append,args := #[s,x],argTypes := #[t,t] })
 (e : TypeId) (bytes : Nat) (el : Elem P t e E.size bytes) (hs : a.eval s = .slice (some ⟨w.heap.size,0,none⟩) 0 0)
 (A : Option Addr) (c : Nat) (S : Nat → Prop) (m : List α) (hx : a.eval x = .slice A m.length c) (hsrc : E.slice.R w S [.slice A m.length c] m) (hone : ∀ cs a S',E.R (w.alloc (.cells #[] e)) S' cs a → ∀ u ∈ cs,u.oneCell' = true)
 (hbytes : m.length * bytes ≤ 140737488355328)
 (h : ∀ A' c' w',Own E w' S w.heap.size e (.slice A' m.length c') m → Kp No w w' → K (a.put o.dst (.slice A' m.length c')) w') : o.wp P a (w.alloc (.cells #[] e)) K Q := by
 have hcap : m.length ≤ maxLen := by obtain ⟨_,_,_,h1,h2,_⟩ := hsrc;omega
 refine wp_append_rp (E := E) (w.alloc (.cells #[] e)) s x t ho w.heap.size e bytes el (fun k => S k ∧ k < w.heap.size) _ [] hs (Own.lit (heap_alloc_new w _) (Nat.le_refl _)) A c (fun k => S k ∧ k < w.heap.size) m hx
  (E.slice.keptNo (E.slice.bnd hsrc) ((Kp.refl _ _).alloc _)) hone (by simpa using hcap) (by simpa using hbytes) (by simp) (fun k hk => hk) ?_ ?_
 · intro k hk hk2
   have hk : w.heap.size = k := by injection hk
   exact absurd hk2.2 (by omega)
 · intro v' w' hown hg _
   obtain ⟨A',c',rfl⟩ := hown.shape
   simp only [List.nil_append] at hown ⊢
   refine h A' c' w' (hown.mono (Nat.le_refl _) (fun k hk => hk.1)) (((Kp.refl _ _).alloc _).grown hg (fun g hg hlt => ?_))
   have hg : w.heap.size = g := by injection hg
   exact absurd hlt (by omega)
theorem wpList_copy_lit {ops : Array Oper} {rest : List Oper} {o : Oper} {a : Act} {Q : Exit → Act → World → Prop} (hgd : o.guard = none) (w : World) (s x : Operand) (t : TypeId)
 (ho : o.op = .call { callee := .builtin .append,args := #[s,x],argTypes := #[t,t] })
 (e : TypeId) (bytes : Nat) (el : Elem P t e E.size bytes) (hs : a.eval s = .slice (some ⟨w.heap.size,0,none⟩) 0 0)
 (A : Option Addr) (c : Nat) (S : Nat → Prop) (m : List α) (hx : a.eval x = .slice A m.length c) (hsrc : E.slice.R w S [.slice A m.length c] m) (hone : ∀ cs a S',E.R (w.alloc (.cells #[] e)) S' cs a → ∀ u ∈ cs,u.oneCell' = true)
 (hbytes : m.length * bytes ≤ 140737488355328)
 (h : ∀ A' c' w',Own E w' S w.heap.size e (.slice A' m.length c') m → Kp No w w' → wpList P ops Q rest (a.put o.dst (.slice A' m.length c')) w') : wpList P ops Q (o :: rest) a (w.alloc (.cells #[] e)) :=
 wpList_plain hgd fun _ hK => wp_copy_lit w s x t ho e bytes el hs A c S m hx hsrc hone hbytes fun A' c' w' h1 h2 => hK _ _ (h A' c' w' h1 h2)
theorem wp_copy_at {o : Oper} {a : Act} {K : Act → World → Prop} {Q : Exit → Act → World → Prop} (w w2 : World) (g : Nat) (s x : Operand) (t : TypeId)
 (ho : o.op = .call { callee := .builtin .append,args := #[s,x],argTypes := #[t,t] })
 (e : TypeId) (bytes : Nat) (el : Elem P t e E.size bytes) (hs : a.eval s = .slice (some ⟨g,0,none⟩) 0 0) (hg : w2.heap[g]? = some (.cells #[] e (0,0))) (hgw : w.heap.size ≤ g) (hk : Kp No w w2)
 (A : Option Addr) (c : Nat) (S : Nat → Prop) (m : List α) (hx : a.eval x = .slice A m.length c) (hsrc : E.slice.R w S [.slice A m.length c] m) (hone : ∀ cs a S',E.R w2 S' cs a → ∀ u ∈ cs,u.oneCell' = true)
 (hbytes : m.length * bytes ≤ 140737488355328)
 (h : ∀ A' c' w',Own E w' S g e (.slice A' m.length c') m → Kp No w w' → K (a.put o.dst (.slice A' m.length c')) w') : o.wp P a w2 K Q := by
 have hcap : m.length ≤ maxLen := by obtain ⟨_,_,_,h1,h2,_⟩ := hsrc;omega
 have hlt : g < w2.heap.size := (Array.getElem?_eq_some_iff.1 hg).1
 refine wp_append_rp (E := E) w2 s x t ho g e bytes el (fun k => S k ∧ k < w.heap.size) _ [] hs (Own.lit hg (Nat.le_refl _)) A c (fun k => S k ∧ k < w.heap.size) m hx
  (E.slice.keptNo (E.slice.bnd hsrc) hk) hone (by simpa using hcap) (by simpa using hbytes) (by omega) (fun k hk => hk) ?_ ?_
 · intro k hk hk2
   have hk : g = k := by injection hk
   exact absurd hk2.2 (by omega)
 · intro v' w' hown hgr _
   obtain ⟨A',c',rfl⟩ := hown.shape
   simp only [List.nil_append] at hown ⊢
   refine h A' c' w' (hown.mono (Nat.le_refl _) (fun k hk => hk.1)) (hk.grown hgr (fun g' hg' hlt => ?_))
   have hg' : g = g' := by injection hg'
   exact absurd hlt (by omega)
theorem wpList_copy_at {ops : Array Oper} {rest : List Oper} {o : Oper} {a : Act} {Q : Exit → Act → World → Prop} (hgd : o.guard = none) (w w2 : World) (g : Nat) (s x : Operand) (t : TypeId)
 (ho : o.op = .call { callee := .builtin .append,args := #[s,x],argTypes := #[t,t] })
 (e : TypeId) (bytes : Nat) (el : Elem P t e E.size bytes) (hs : a.eval s = .slice (some ⟨g,0,none⟩) 0 0) (hg : w2.heap[g]? = some (.cells #[] e (0,0))) (hgw : w.heap.size ≤ g) (hk : Kp No w w2)
 (A : Option Addr) (c : Nat) (S : Nat → Prop) (m : List α) (hx : a.eval x = .slice A m.length c) (hsrc : E.slice.R w S [.slice A m.length c] m) (hone : ∀ cs a S',E.R w2 S' cs a → ∀ u ∈ cs,u.oneCell' = true)
 (hbytes : m.length * bytes ≤ 140737488355328)
 (h : ∀ A' c' w',Own E w' S g e (.slice A' m.length c') m → Kp No w w' → wpList P ops Q rest (a.put o.dst (.slice A' m.length c')) w') : wpList P ops Q (o :: rest) a w2 :=
 wpList_plain hgd fun _ hK => wp_copy_at w w2 g s x t ho e bytes el hs hg hgw hk A c S m hx hsrc hone hbytes fun A' c' w' h1 h2 => hK _ _ (h A' c' w' h1 h2)
end
theorem Rp.str_one {w : World} : ∀ cs a S',Rp.str.R w S' cs a → ∀ u ∈ cs,u.oneCell' = true := by
 rintro cs a S' ⟨rfl,_⟩ u hu
 simp only [List.mem_cons,List.not_mem_nil,or_false] at hu
 subst hu;rfl
end
section
open Go.RowKit Go.ChangeShapes Go.WideShapes Go.ChangeAt
def bs (l : List UInt8) : ByteArray := ⟨l.toArray⟩
theorem bs_data (l : List UInt8) : (bs l).data.toList = l := rfl
theorem bs_of (s : ByteArray) : bs s.data.toList = s := by
 apply ByteArray.ext
 exact Array.toArray_toList
theorem bs_size (l : List UInt8) : (bs l).size = l.length := rfl
theorem data_length (s : ByteArray) : s.data.toList.length = s.size := rfl
theorem bs_append (a b : List UInt8) : bs a ++ bs b = bs (a ++ b) := by
 apply ByteArray.ext
 simp [bs,ByteArray.data_append]
structure Rp.By {α : Type} (E : Rp α) (enc : α → Value) (P : α → Prop) : Prop where
 size : E.size = 1
 R : ∀ w S cs a,E.R w S cs a ↔ cs = [enc a] ∧ P a
 one : ∀ a,(enc a).oneCell' = true
theorem Rp.str_by : Rp.By Rp.str Value.string (fun s => s.size ≤ maxLen) := ⟨rfl,fun _ _ _ _ => Iff.rfl,fun _ => rfl⟩
namespace Own
variable {α : Type} {E : Rp α} {enc : α → Value} {P : α → Prop} {w w' : World} {S : Nat → Prop} {base : Nat} {e : TypeId} {v : Value} {l : List α}
theorem toRaw (hb : Rp.By E enc P) (h : Own E w S base e v l) : Own Rp.raw w S base e v (l.map enc) ∧ ∀ a ∈ l,P a := by
 obtain ⟨xs,h1,h2,h3⟩ := h
 rw [hb.size] at h1
 have hl : xs.length = l.length := by have := h1.1;simpa using this
 have hx : xs = l.map enc := by
  apply List.ext_getElem?
  intro i
  rcases Nat.lt_or_ge i l.length with hlt | hge
  · have h4 := ((hb.R _ _ _ _).1 (h3 i l[i] (List.getElem?_eq_getElem hlt))).1
    rw [hb.size,Nat.mul_one] at h4
    have h5 := congrArg (fun l : List Value => l[0]?) h4
    simp only [List.getElem?_cons_zero] at h5
    rw [List.getElem?_take_of_lt (by omega),List.getElem?_drop,Nat.add_zero] at h5
    rw [h5,List.getElem?_map,List.getElem?_eq_getElem hlt];rfl
  · rw [List.getElem?_eq_none (by omega),List.getElem?_eq_none (by rw [List.length_map];omega)]
 subst hx
 refine ⟨of_raw (by rw [List.length_map];exact h1) h2,fun a ha => ?_⟩
 obtain ⟨i,hi,rfl⟩ := List.mem_iff_getElem.1 ha
 exact ((hb.R _ _ _ _).1 (h3 i _ (List.getElem?_eq_getElem hi))).2
theorem ofRaw (hb : Rp.By E enc P) (h : Own Rp.raw w S base e v (l.map enc)) (hp : ∀ a ∈ l,P a) (S' : Nat → Prop) : Own E w S' base e v l := by
 obtain ⟨h1,h2⟩ := raw_vals h
 rw [List.length_map] at h1
 refine ⟨l.map enc,by rw [hb.size];exact h1,h2,fun i a ha => (hb.R _ _ _ _).2 ⟨?_,hp a (List.mem_of_getElem? ha)⟩⟩
 obtain ⟨hlt,rfl⟩ := List.getElem?_eq_some_iff.1 ha
 rw [hb.size,Nat.mul_one,List.drop_eq_getElem_cons (by rw [List.length_map];exact hlt),List.getElem_map]
 rfl
theorem cellBy (hb : Rp.By E enc P) {A : Option Addr} {c : Nat} (h : Own E w S base e (.slice A l.length c) l) {i : Nat} {a : α} (hi : l[i]? = some a) :
 ∃ g,A = some ⟨g,0,none⟩ ∧ base ≤ g ∧ g < w.heap.size ∧ w.cell? ⟨g,i,none⟩ = some (enc a) ∧ w.frozen? ⟨g,i,none⟩ = false ∧ P a := by
 obtain ⟨h1,h2⟩ := toRaw hb h
 have hl : (l.map enc).length = l.length := List.length_map ..
 rw [← hl] at h1
 obtain ⟨g,h3,h4,h5,h6,h7⟩ := raw_cell h1 (i := i) (u := enc a) (by rw [List.getElem?_map,hi];rfl)
 exact ⟨g,h3,h4,h5,h6,h7,h2 a (List.mem_of_getElem? hi)⟩
end Own
theorem Own.of_cells {α : Type} {E : Rp α} {enc : α → Value} {P : α → Prop} (hb : Rp.By E enc P) {w : World} (S : Nat → Prop) {base g : Nat} {cs : Array Value} {e : TypeId} {l : List α} (h : w.heap[g]? = some (.cells cs e (0,0))) (hcs : cs.toList = l.map enc) (hp : ∀ a ∈ l,P a) (hbase : base ≤ g) (hm : l.length ≤ maxLen) :
 Own E w S base e (.slice (some ⟨g,0,none⟩) l.length l.length) l := by
 refine Own.ofRaw (S := S) hb (Own.of_raw ?_ ?_) hp S
 · refine ⟨by simp,.inr ⟨g,l.length,cs,by simp,hbase,h,by simp,hm,?_,?_⟩⟩
   · rw [← Array.length_toList,hcs];simp
   · rw [hcs];exact List.take_of_length_le (by simp)
 · intro u hu
   obtain ⟨a,_,rfl⟩ := List.mem_map.1 hu
   exact hb.one a
end
end Go.Proofs.YtjlbacfedfkilaaGreat
