/-
  Plain law: the puts that are needed, and their hashes.
-/
import Derived.Test.YtjlbacfedfkilaaGreatGH
import Derived.Test.YtjlbacfedfkilaaGreatRlF
namespace Go.Proofs.YtjlbacfedfkilaaGreat
open Go.RowKit Go.ChangeShapes Go.WideShapes Go.ChangeAt
def needP (L : LV) (o : OpL) : Prop := o.kind = 1 ∧ (L.settled < o.n ∨ ∀ x ∈ L.ops,o.n < x.n → x.n ≤ L.settled → x.name ≠ o.name)
instance (L : LV) (o : OpL) : Decidable (needP L o) := by unfold needP;exact inferInstance
def putsL (L : LV) : List OpL := L.ops.filter (fun o => decide (needP L o))
def MeansP (l : List OpL) (n : Nat) (nm : ByteArray) (v : Int) : Prop := ∀ (i : Nat) o,l[i]? = some o → o.kind = 1 → o.name = nm → (v = (i : Int) + 1 ↔ i < n ∧ ∀ (j : Nat) x,i < j → j < n → l[j]? = some x → x.kind = 3 ∨ x.name ≠ nm)
theorem MeansP.none {l : List OpL} {n : Nat} {nm : ByteArray} (h : ∀ (j : Nat) x,j < n → l[j]? = some x → x.kind = 3 ∨ x.name ≠ nm) : MeansP l n nm 0 := by
 intro i o hi hk hn
 constructor
 · intro h0;omega
 · rintro ⟨h1,_⟩
   rcases h i o h1 hi with h2 | h2
   · omega
   · exact absurd hn h2
theorem MeansP.here {l : List OpL} {n k : Nat} {nm : ByteArray} {q : OpL} (hk : k < n) (hq : l[k]? = some q) (h3 : q.kind ≠ 3) (hn : q.name = nm) (h : ∀ (j : Nat) x,k < j → j < n → l[j]? = some x → x.kind = 3 ∨ x.name ≠ nm) : MeansP l n nm (if q.kind = 1 then (k : Int) + 1 else 0) := by
 intro i o hi h1 hnm
 by_cases hik : i = k
 · subst hik
   rw [hq] at hi
   injection hi with hi
   subst hi
   rw [if_pos h1]
   exact ⟨fun _ => ⟨hk,h⟩,fun _ => rfl⟩
 · constructor
   · intro hv
     split at hv <;> omega
   · rintro ⟨h2,h4⟩
     rcases Nat.lt_or_ge i k with hlt | hge
     · rcases h4 k q hlt hk hq with h5 | h5
       · exact absurd h5 h3
       · exact absurd hn h5
     · rcases h i o (by omega) h2 hi with h5 | h5
       · omega
       · exact absurd hnm h5
theorem okP.put_name {o : OpL} (h : okP o) (h1 : o.kind = 1) : 1 ≤ o.name.size := by
 rcases h.2 with ⟨_,h2,_⟩ | ⟨h2,_⟩ | ⟨h2,_⟩
 · exact h2.2.2.2.2.1
 · omega
 · omega
theorem okP.reign_name {o : OpL} (h : okP o) (h1 : o.kind = 3) : o.name.size = 0 := by
 rcases h.2 with ⟨h2,_⟩ | ⟨h2,_⟩ | ⟨_,h2⟩
 · omega
 · omega
 · exact h2.2.2.1
theorem need_means {B : Nat} {L : LV} (hok : OkL B L) {i : Nat} {o : OpL} (hi : L.ops[i]? = some o) (h1 : o.kind = 1) :
 needP L o ↔ ∃ n : Nat,L.settled ≤ (n : Int) ∧ n ≤ L.ops.length ∧ ∀ v,MeansP L.ops n o.name v → v = (i : Int) + 1 := by
 obtain ⟨hoko,hon⟩ := hok.at_ hi
 have hlt := (List.getElem?_eq_some_iff.1 hi).1
 have hs := hok.settled
 constructor
 · rintro ⟨_,h⟩
   rcases h with h | h
   · refine ⟨i + 1,by omega,by omega,fun v hv => ?_⟩
     exact (hv i o hi h1 rfl).2 ⟨by omega,fun j x h2 h3 => absurd h2 (by omega)⟩
   · by_cases hsi : L.settled < o.n
     · refine ⟨i + 1,by omega,by omega,fun v hv => ?_⟩
       exact (hv i o hi h1 rfl).2 ⟨by omega,fun j x h2 h3 => absurd h2 (by omega)⟩
     · refine ⟨L.settled.toNat,by omega,by omega,fun v hv => ?_⟩
       refine (hv i o hi h1 rfl).2 ⟨by omega,fun j x h2 h3 hj => .inr ?_⟩
       have hxn := (hok.at_ hj).2
       exact h x (List.mem_of_getElem? hj) (by omega) (by omega)
 · rintro ⟨n,h2,h3,h4⟩
   refine ⟨h1,?_⟩
   by_cases hsi : L.settled < o.n
   · exact .inl hsi
   · refine .inr (fun x hx h5 h6 hnm => ?_)
     obtain ⟨j,hj⟩ := List.getElem?_of_mem hx
     obtain ⟨hokx,hxn⟩ := hok.at_ hj
     -- the value that the means has
     have hcl : ∃ v,MeansP L.ops n o.name v := by
      by_cases hall : ∀ (j : Nat) x,j < n → L.ops[j]? = some x → x.kind = 3 ∨ x.name ≠ o.name
      · exact ⟨0,MeansP.none hall⟩
      · have : ∃ k,k < n ∧ (∃ q,L.ops[k]? = some q ∧ q.kind ≠ 3 ∧ q.name = o.name) ∧ ∀ (j : Nat) x,k < j → j < n → L.ops[j]? = some x → x.kind = 3 ∨ x.name ≠ o.name := by
         clear h2 h3 h4
         induction n with
         | zero => exact absurd (fun j x h => absurd h (by omega)) hall
         | succ n ih =>
           by_cases hn : ∃ q,L.ops[n]? = some q ∧ q.kind ≠ 3 ∧ q.name = o.name
           · exact ⟨n,by omega,hn,fun j x h h' => absurd h (by omega)⟩
           · have hlast : ∀ x,L.ops[n]? = some x → x.kind = 3 ∨ x.name ≠ o.name := fun x hx => by
              by_cases h3 : x.kind = 3
              · exact .inl h3
              · by_cases hnm : x.name = o.name
                · exact absurd ⟨x,hx,h3,hnm⟩ hn
                · exact .inr hnm
             obtain ⟨k,h5,h6,h7⟩ := ih (fun h => hall (fun j x hj hx => by
              rcases Nat.lt_or_ge j n with h8 | h8
              · exact h j x h8 hx
              · obtain rfl : j = n := by omega
                exact hlast x hx))
             refine ⟨k,by omega,h6,fun j x hj hj' hx => ?_⟩
             rcases Nat.lt_or_ge j n with h8 | h8
             · exact h7 j x hj h8 hx
             · obtain rfl : j = n := by omega
               exact hlast x hx
        obtain ⟨k,hk,⟨q,hq,hq3,hqn⟩,hk2⟩ := this
        exact ⟨_,MeansP.here hk hq hq3 hqn hk2⟩
     obtain ⟨v,hv⟩ := hcl
     have h7 := (hv i o hi h1 rfl).1 (h4 v hv)
     rcases h7.2 j x (by omega) (by omega) hj with h8 | h8
     · have e1 := hokx.reign_name h8
       have e2 := hoko.put_name h1
       rw [hnm] at e1
       omega
     · exact h8 hnm
def MeantP (l : List OpL) (k : Nat) (M : List (ByteArray × OpL)) : Prop := (M.map (·.1)).Nodup ∧ ∀ nm o,mget nm M = some o ↔ ∃ i : Nat,i < k ∧ l[i]? = some o ∧ o.kind = 1 ∧ o.name = nm ∧ ∀ (j : Nat) x,i < j → j < k → l[j]? = some x → x.name ≠ nm
theorem MeantP.nil (l : List OpL) : MeantP l 0 [] := ⟨List.Pairwise.nil,fun nm o => ⟨fun h => (by cases h),fun ⟨i,h,_⟩ => absurd h (by omega)⟩⟩
def meant1 (o : OpL) (M : List (ByteArray × OpL)) : List (ByteArray × OpL) := if o.kind = 1 then mput o.name o (mdel o.name M) else mdel o.name M
theorem MeantP.step {l : List OpL} {k : Nat} {M : List (ByteArray × OpL)} {o : OpL} (h : MeantP l k M) (ho : l[k]? = some o) : MeantP l (k + 1) (meant1 o M) := by
 have hd := nodup_mdel o.name M h.1
 have hget : ∀ nm,mget nm (meant1 o M) = if nm = o.name then (if o.kind = 1 then some o else none) else mget nm M := fun nm => by
  unfold meant1
  by_cases h1 : o.kind = 1
  · rw [if_pos h1,mget_put,mget_del _ _ _ h.1]
    by_cases e : nm = o.name
    · rw [if_pos e,if_pos e,if_pos h1]
    · rw [if_neg e,if_neg e,if_neg e]
  · rw [if_neg h1,mget_del _ _ _ h.1]
    by_cases e : nm = o.name
    · rw [if_pos e,if_pos e,if_neg h1]
    · rw [if_neg e,if_neg e]
 refine ⟨?_,fun nm q => ?_⟩
 · unfold meant1
   split
   · exact nodup_mput _ _ _ hd
   · exact hd
 rw [hget]
 by_cases e : nm = o.name
 · rw [if_pos e]
   constructor
   · intro h2
     by_cases h1 : o.kind = 1
     · rw [if_pos h1] at h2
       injection h2 with h2
       subst h2
       exact ⟨k,by omega,ho,h1,e.symm,fun j x h3 h4 => absurd h3 (by omega)⟩
     · rw [if_neg h1] at h2
       cases h2
   · rintro ⟨i,h2,h3,h4,h5,h6⟩
     rcases Nat.lt_or_ge i k with h7 | h7
     · exact absurd e.symm (h6 k o h7 (by omega) ho)
     · obtain rfl : i = k := by omega
       rw [ho] at h3
       injection h3 with h3
       subst h3
       rw [if_pos h4]
 · rw [if_neg e,h.2 nm q]
   constructor
   · rintro ⟨i,h2,h3,h4,h5,h6⟩
     refine ⟨i,by omega,h3,h4,h5,fun j x h7 h8 h9 => ?_⟩
     rcases Nat.lt_or_ge j k with h10 | h10
     · exact h6 j x h7 h10 h9
     · obtain rfl : j = k := by omega
       rw [ho] at h9
       injection h9 with h9
       subst h9
       exact fun h => e h.symm
   · rintro ⟨i,h2,h3,h4,h5,h6⟩
     have hik : i ≠ k := by
      rintro rfl
      rw [ho] at h3
      injection h3 with h3
      subst h3
      exact e h5.symm
     exact ⟨i,by omega,h3,h4,h5,fun j x h7 h8 h9 => h6 j x h7 (by omega) h9⟩
theorem mget_of_mem {κ ν : Type} [DecidableEq κ] : ∀ {M : List (κ × ν)},(M.map (·.1)).Nodup → ∀ p ∈ M,mget p.1 M = some p.2
 | [],_,p,hp => by cases hp
 | q :: M,hn,p,hp => by
   obtain ⟨k,v⟩ := q
   rw [List.map_cons,List.nodup_cons] at hn
   rcases List.mem_cons.1 hp with rfl | hp
   · simp [mget]
   · have : p.1 ≠ k := fun e => hn.1 (List.mem_map.2 ⟨p,hp,e⟩)
     simp only [mget]
     rw [if_neg this]
     exact mget_of_mem hn.2 p hp
theorem nodup_of_map {α β : Type} (f : α → β) {l : List α} (h : (l.map f).Nodup) : l.Nodup := (List.pairwise_map.1 h).imp (fun h e => h (congrArg f e))
theorem ops_rising {B : Nat} {L : LV} (hok : OkL B L) : L.ops.Pairwise (fun a b => a.n < b.n) := by
 rw [List.pairwise_iff_getElem]
 intro i j hi hj hij
 have h1 := (hok.at_ (List.getElem?_eq_getElem hi)).2
 have h2 := (hok.at_ (List.getElem?_eq_getElem hj)).2
 omega
theorem ops_same_n {B : Nat} {L : LV} (hok : OkL B L) {a b : OpL} (ha : a ∈ L.ops) (hb : b ∈ L.ops) (h : a.n = b.n) : a = b := by
 obtain ⟨i,hi⟩ := List.getElem?_of_mem ha
 obtain ⟨j,hj⟩ := List.getElem?_of_mem hb
 have h1 := (hok.at_ hi).2
 have h2 := (hok.at_ hj).2
 obtain rfl : i = j := by omega
 rw [hi] at hj
 injection hj
theorem puts_perm {B : Nat} {L : LV} (hok : OkL B L) {s : Nat} (hs : L.settled = (s : Int)) {M : List (ByteArray × OpL)} (hM : MeantP L.ops s M) {out : List OpL} (hp : out.Perm (M.map (·.2))) :
 (out ++ (L.ops.drop s).filter (fun o => decide (o.kind = 1))).Perm (putsL L) := by
 have hval : ∀ o,o ∈ M.map (·.2) → ∃ i : Nat,i < s ∧ L.ops[i]? = some o ∧ o.kind = 1 ∧ ∀ (j : Nat) x,i < j → j < s → L.ops[j]? = some x → x.name ≠ o.name := fun o ho => by
  obtain ⟨p,hp,rfl⟩ := List.mem_map.1 ho
  obtain ⟨i,h1,h2,h3,h4,h5⟩ := (hM.2 p.1 p.2).1 (mget_of_mem hM.1 p hp)
  exact ⟨i,h1,h2,h3,fun j x a b c => by rw [h4];exact h5 j x a b c⟩
 have hnm : M.map (·.1) = (M.map (·.2)).map (·.name) := by
  rw [List.map_map]
  refine List.map_congr_left (fun p hp => ?_)
  obtain ⟨i,h1,h2,h3,h4,h5⟩ := (hM.2 p.1 p.2).1 (mget_of_mem hM.1 p hp)
  exact h4.symm
 have hnd1 : (M.map (·.2)).Nodup := by
  have := hM.1
  rw [hnm] at this
  exact nodup_of_map _ this
 have hpw := ops_rising hok
 have hnd2 : ((L.ops.drop s).filter (fun o => decide (o.kind = 1))).Nodup := ((hpw.sublist (List.drop_sublist _ _)).sublist List.filter_sublist).imp (fun h e => by rw [e] at h;omega)
 have hdr : ∀ o,o ∈ (L.ops.drop s).filter (fun o => decide (o.kind = 1)) ↔ ∃ i : Nat,s ≤ i ∧ L.ops[i]? = some o ∧ o.kind = 1 := fun o => by
  rw [List.mem_filter,decide_eq_true_iff]
  constructor
  · rintro ⟨h1,h2⟩
    obtain ⟨i,hi⟩ := List.getElem?_of_mem h1
    rw [List.getElem?_drop] at hi
    exact ⟨s + i,by omega,hi,h2⟩
  · rintro ⟨i,h1,h2,h3⟩
    refine ⟨List.mem_of_getElem? (i := i - s) ?_,h3⟩
    rw [List.getElem?_drop,show s + (i - s) = i by omega]
    exact h2
 refine ((hp.append_right _).trans ((List.perm_ext_iff_of_nodup ?_ ?_).2 (fun o => ?_)))
 · rw [List.nodup_append]
   refine ⟨hnd1,hnd2,fun a ha b hb e => ?_⟩
   subst e
   obtain ⟨i,h1,h2,_⟩ := hval a ha
   obtain ⟨j,h3,h4,_⟩ := (hdr a).1 hb
   have e1 := (hok.at_ h2).2
   have e2 := (hok.at_ h4).2
   omega
 · exact (hpw.filter _).imp (fun h e => by rw [e] at h;omega)
 · rw [List.mem_append,hdr]
   unfold putsL
   rw [List.mem_filter,decide_eq_true_iff]
   unfold needP
   constructor
   · rintro (h | ⟨i,h1,h2,h3⟩)
     · obtain ⟨i,h1,h2,h3,h4⟩ := hval o h
       refine ⟨List.mem_of_getElem? h2,h3,.inr (fun x hx h5 h6 => ?_)⟩
       obtain ⟨j,hj⟩ := List.getElem?_of_mem hx
       have e1 := (hok.at_ h2).2
       have e2 := (hok.at_ hj).2
       exact h4 j x (by omega) (by omega) hj
     · have e1 := (hok.at_ h2).2
       exact ⟨List.mem_of_getElem? h2,h3,.inl (by omega)⟩
   · rintro ⟨h1,h2,h3⟩
     obtain ⟨i,hi⟩ := List.getElem?_of_mem h1
     have e1 := (hok.at_ hi).2
     rcases Nat.lt_or_ge i s with hlt | hge
     · left
       rcases h3 with h3 | h3
       · omega
       · refine List.mem_map.2 ⟨(o.name,o),mem_of_mget ((hM.2 o.name o).2 ⟨i,hlt,hi,h2,rfl,fun j x h4 h5 h6 => ?_⟩),rfl⟩
         have e2 := (hok.at_ h6).2
         exact h3 x (List.mem_of_getElem? h6) (by omega) (by omega)
     · exact .inr ⟨i,hge,hi,h2⟩
theorem puts_sorted {B : Nat} {L : LV} (hok : OkL B L) {d : List OpL} (hp : d.Perm (putsL L)) (hs : d.Pairwise (fun a b => ¬ b.n < a.n)) : d = putsL L := by
 have hm : ∀ o ∈ putsL L,o ∈ L.ops := fun o ho => (List.mem_filter.1 ho).1
 refine List.Perm.eq_of_pairwise (le := fun a b : OpL => a.n ≤ b.n) (fun a b ha hb h1 h2 => ops_same_n hok (hm a (hp.mem_iff.1 ha)) (hm b hb) (by omega)) (hs.imp (fun h => by omega)) (((ops_rising hok).filter _).imp (fun h => by omega)) hp
theorem putsL_len (L : LV) : (putsL L).length ≤ L.ops.length := List.length_filter_le _ _
theorem putsL_ok {B : Nat} {L : LV} (hok : OkL B L) : ∀ o ∈ putsL L,okP o := fun _ ho => hok.okOf (List.mem_filter.1 ho).1
def NeedsTo (l : List OpL) (out : List ByteArray) : Prop := out.Pairwise nlt ∧ ∀ x,x ∈ out ↔ ∃ o ∈ l,x ∈ o.hashes
theorem rising_eq {a b : List ByteArray} (ha : a.Pairwise nlt) (hb : b.Pairwise nlt) (h : ∀ x,x ∈ a ↔ x ∈ b) : a = b :=
 List.Perm.eq_of_pairwise (le := nlt) (fun _ _ _ _ h1 h2 => absurd h2 (nlt_asymm h1)) ha hb ((List.perm_ext_iff_of_nodup (ha.imp (fun h => nlt_ne h)) (hb.imp (fun h => nlt_ne h))).2 h)
theorem NeedsTo.same {l : List OpL} {a b : List ByteArray} (ha : NeedsTo l a) (hb : NeedsTo l b) : a = b := rising_eq ha.1 hb.1 (fun x => (ha.2 x).trans (hb.2 x).symm)
end Go.Proofs.YtjlbacfedfkilaaGreat
