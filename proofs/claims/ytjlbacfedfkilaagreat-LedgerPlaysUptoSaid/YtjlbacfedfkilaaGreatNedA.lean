/-
  (*Ledger).Needs.
-/
import Derived.Test.YtjlbacfedfkilaaGreatPutA
import Derived.Lib.OwnBridge
import Derived.Sort.OwnSorted
namespace Go.Proofs.YtjlbacfedfkilaaGreat
open Go.RowKit Go.ChangeShapes Go.WideShapes Go.ChangeAt
theorem upTo_law (Z : List (List UInt8)) (hs : Z.Pairwise (· ≤ ·)) : ∀ m,m ≤ Z.length → (Lib.compactUpTo Z.toArray m).Pairwise (· < ·) ∧ (∀ x ∈ Lib.compactUpTo Z.toArray m,∃ j : Nat,j < m ∧ Z[j]? = some x) ∧ ∀ (j : Nat) x,j < m → Z[j]? = some x → x ∈ Lib.compactUpTo Z.toArray m
 | 0,_ => ⟨by simp [Lib.compactUpTo],fun x hx => by simp [Lib.compactUpTo] at hx,fun j x hj => absurd hj (by omega)⟩
 | m + 1,hm => by
   obtain ⟨h1,h2,h3⟩ := upTo_law Z hs m (by omega)
   have hle : ∀ (i j : Nat) x y,i < j → Z[i]? = some x → Z[j]? = some y → x ≤ y := fun i j x y hij hx hy => by
    obtain ⟨a1,a2⟩ := List.getElem?_eq_some_iff.1 hx
    obtain ⟨b1,b2⟩ := List.getElem?_eq_some_iff.1 hy
    have := (List.pairwise_iff_getElem.1 hs) i j a1 b1 hij
    rw [a2,b2] at this
    exact this
   obtain ⟨z,hz⟩ : ∃ z,Z[m]? = some z := ⟨_,List.getElem?_eq_getElem (by omega)⟩
   have hz' : Z.toArray[m]! = z := by
    obtain ⟨a1,a2⟩ := List.getElem?_eq_some_iff.1 hz
    rw [getElem!_pos _ _ (by simpa using a1)]
    simpa using a2
   rw [Lib.compactUpTo_succ]
   by_cases hk : Lib.keeps Z.toArray m = true
   · rw [if_pos hk,hz']
     have hlt : ∀ x ∈ Lib.compactUpTo Z.toArray m,x < z := fun x hx => by
      obtain ⟨j,hj,hjx⟩ := h2 x hx
      have hm0 : 0 < m := by omega
      obtain ⟨y,hy⟩ : ∃ y,Z[m - 1]? = some y := ⟨_,List.getElem?_eq_getElem (by omega)⟩
      have hy' : Z.toArray[m - 1]! = y := by
       obtain ⟨a1,a2⟩ := List.getElem?_eq_some_iff.1 hy
       rw [getElem!_pos _ _ (by simpa using a1)]
       simpa using a2
      have hne : z ≠ y := by
       unfold Lib.keeps at hk
       rw [decide_eq_true_iff,hz',hy'] at hk
       rcases hk with hk | hk
       · omega
       · exact hk
      have hyz : y ≤ z := hle (m - 1) m y z (by omega) hy hz
      have hxy : x ≤ y := by
       rcases Nat.lt_or_ge j (m - 1) with h | h
       · exact hle j (m - 1) x y h hjx hy
       · obtain rfl : j = m - 1 := by omega
         rw [hjx] at hy
         injection hy with hy
         rw [hy]
         exact List.le_refl _
      have hyz2 : y < z := by
       rcases Decidable.em (y < z) with h | h
       · exact h
       · rw [List.not_lt] at h
         exact absurd (List.le_antisymm h hyz) hne
      exact List.lt_of_le_of_lt hxy hyz2
     refine ⟨?_,fun x hx => ?_,fun j x hj hx => ?_⟩
     · rw [List.pairwise_append]
       exact ⟨h1,List.pairwise_singleton _ _,fun a ha b hb => by rw [List.mem_singleton.1 hb];exact hlt a ha⟩
     · rcases List.mem_append.1 hx with hx | hx
       · obtain ⟨j,hj,hjx⟩ := h2 x hx
         exact ⟨j,by omega,hjx⟩
       · rw [List.mem_singleton.1 hx]
         exact ⟨m,by omega,hz⟩
     · rcases Nat.lt_or_ge j m with h | h
       · exact List.mem_append_left _ (h3 j x h hx)
       · obtain rfl : j = m := by omega
         rw [hz] at hx
         injection hx with hx
         rw [hx]
         exact List.mem_append_right _ List.mem_cons_self
   · rw [if_neg hk,List.append_nil]
     refine ⟨h1,fun x hx => ?_,fun j x hj hx => ?_⟩
     · obtain ⟨j,hj,hjx⟩ := h2 x hx
       exact ⟨j,by omega,hjx⟩
     · rcases Nat.lt_or_ge j m with h | h
       · exact h3 j x h hx
       · obtain rfl : j = m := by omega
         rw [hz] at hx
         injection hx with hx
         subst hx
         unfold Lib.keeps at hk
         rw [decide_eq_true_iff,not_or,Classical.not_not,hz'] at hk
         have hm0 : 0 < j := by omega
         obtain ⟨y,hy⟩ : ∃ y,Z[j - 1]? = some y := ⟨_,List.getElem?_eq_getElem (by omega)⟩
         have hy' : Z.toArray[j - 1]! = y := by
          obtain ⟨a1,a2⟩ := List.getElem?_eq_some_iff.1 hy
          rw [getElem!_pos _ _ (by simpa using a1)]
          simpa using a2
         rw [hk.2,hy']
         exact h3 (j - 1) y (by omega) hy
theorem compact_law (Z : List (List UInt8)) (hs : Z.Pairwise (· ≤ ·)) : (Lib.compact Z).Pairwise (· < ·) ∧ ∀ x,x ∈ Lib.compact Z ↔ x ∈ Z := by
 obtain ⟨h1,h2,h3⟩ := upTo_law Z hs Z.length (Nat.le_refl _)
 refine ⟨h1,fun x => ⟨fun hx => ?_,fun hx => ?_⟩⟩
 · obtain ⟨j,_,hj⟩ := h2 x hx
   exact List.mem_of_getElem? hj
 · obtain ⟨j,hj⟩ := List.getElem?_of_mem hx
   exact h3 j x (List.getElem?_eq_some_iff.1 hj).1 hj
def onceN (l : List ByteArray) : List ByteArray := (Lib.compact (l.map (·.data.toList))).map bs
theorem onceN_law (H : List ByteArray) : (onceN (sortedN H)).Pairwise nlt ∧ ∀ x,x ∈ onceN (sortedN H) ↔ x ∈ H := by
 have hs : ((sortedN H).map (·.data.toList)).Pairwise (· ≤ ·) := by
  have e : (sortedN H).map (·.data.toList) = (H.map fun s => s.data.toList).mergeSort leB := by
   unfold sortedN
   rw [List.map_map]
   conv => rhs;rw [← List.map_id ((H.map fun s => s.data.toList).mergeSort leB)]
   exact List.map_congr_left (fun x _ => by simp [bs_data])
  rw [e]
  refine (List.pairwise_mergeSort leB_trans leB_total _).imp (fun h => ?_)
  simpa [leB] using h
 obtain ⟨h1,h2⟩ := compact_law _ hs
 refine ⟨?_,fun x => ?_⟩
 · unfold onceN
   rw [List.pairwise_map]
   refine h1.imp (fun {a b} h => ?_)
   unfold nlt
   rw [bs_data,bs_data]
   exact h
 · unfold onceN
   rw [List.mem_map,← mem_sortedN (l := H)]
   constructor
   · rintro ⟨y,hy,rfl⟩
     obtain ⟨z,hz,rfl⟩ := List.mem_map.1 ((h2 y).1 hy)
     rw [bs_of]
     exact hz
   · intro hx
     exact ⟨x.data.toList,(h2 _).2 (List.mem_map.2 ⟨x,hx,rfl⟩),bs_of x⟩
theorem own_str_row {w : World} {S : Nat → Prop} {base : Nat} {e : TypeId} {v : Value} {l : List ByteArray} (h : Own Rp.str w S base e v l) : w.ownsRow base e 1 v l.length (l.map Value.string) := by
 obtain ⟨xs,h1,_,h3⟩ := h
 have hx : xs = l.map Value.string := by
  have hl : xs.length = l.length * 1 := h1.1
  refine List.ext_getElem? (fun i => ?_)
  rw [List.getElem?_map]
  rcases Nat.lt_or_ge i l.length with hi | hi
  · obtain ⟨a,ha⟩ : ∃ a,l[i]? = some a := ⟨_,List.getElem?_eq_getElem hi⟩
    have h4 : (xs.drop (i * 1)).take 1 = [.string a] := (h3 i a ha).1
    have h5 := congrArg (fun l => l[0]?) h4
    simp only [List.getElem?_take_of_lt (show 0 < 1 by omega),List.getElem?_drop,Nat.mul_one,Nat.add_zero,List.getElem?_cons_zero] at h5
    rw [ha,h5];rfl
  · rw [List.getElem?_eq_none (by omega),List.getElem?_eq_none (by omega)];rfl
 rw [hx] at h1
 exact h1
theorem own_of_row {w : World} {base : Nat} {v : Value} {l : List ByteArray} (h : w.ownsRow base 9 1 v l.length (l.map Value.string)) (hs : ∀ s ∈ l,s.size ≤ maxLen) : Own Rp.str w No base 9 v l := by
 have hl : l.length = (l.map Value.string).length := by rw [List.length_map]
 rw [hl] at h
 refine Own.ofRaw (S := No) Rp.str_by (Own.of_raw h (fun u hu => ?_)) (fun a ha => hs a ha) No
 obtain ⟨a,_,rfl⟩ := List.mem_map.1 hu
 rfl
theorem kp_putRow {w : World} {g q : Nat} {os : Array Obj} (d : Array (List UInt8)) : Kp (· = g) w (Go.Sort.grow (Go.Sort.putRow Go.Proofs.encStr (Go.Sort.ahead w q) g 0 d) os) := by
 refine ⟨rfl,rfl,by simp [Go.Sort.ahead],fun k hk hne => ?_⟩
 rw [Go.Sort.heap_grow_old _ _ (by simpa [Go.Sort.ahead] using hk)]
 simp [Go.Sort.putRow,Go.Sort.mapBlock,Go.Sort.ahead,Array.getElem?_modify,show g ≠ k from fun e => hne e.symm]
theorem c_sortS (H : List ByteArray) (A : Option Addr) (c : Nat) (w : World) (base : Nat) (h : Own Rp.str w No base 9 (.slice A H.length c) H) (hs : ∀ s ∈ H,s.size ≤ maxLen) (hl : H.length ≤ 1000000) :
 Calls Tryz.prog 106 #[.slice A H.length c] w fun e w' => e = .returned (.tuple #[]) ∧ Own Rp.str w' No base 9 (.slice A H.length c) (sortedN H) ∧ Kp (fun k => (Value.slice A H.length c).ownBlock = some k) w w' := by
 rcases Nat.eq_zero_or_pos H.length with h0 | h0
 · obtain rfl := List.eq_nil_of_length_eq_zero h0
   refine (sh_slices_Sort_string_none A c w).mono ?_
   rintro e w' ⟨rfl,rfl⟩
   exact ⟨rfl,by rw [show sortedN ([] : List ByteArray) = [] from by simp [sortedN]];exact h,Kp.refl _ _⟩
 have hrow := own_str_row h
 rw [← Lib.map_encStr] at hrow
 obtain ⟨_,h1⟩ := id hrow
 rcases h1 with ⟨_,h1⟩ | ⟨g,cap,cur,he,hb,hg,hn,hm,hc,ht⟩
 · omega
 injection he with he _ hec
 subst he hec
 obtain ⟨g',cap',he',_,hgl,_,_,_,hH⟩ := Lib.holds_of_ownsRow hrow (by simp)
 injection he' with he' _ he2
 injection he' with he'
 injection he' with he'
 subst he'
 have hz : (H.map (·.data.toList)).length = H.length := by rw [List.length_map]
 have hcon := sh_slices_Sort_string g 0 c (H.map (·.data.toList)) w hH hgl (by rw [hz];omega)
 rw [hz] at hcon
 refine hcon.mono ?_
 rintro e w' ⟨rfl,n,os,rfl⟩
 refine ⟨rfl,?_,(kp_putRow _).mono (fun k _ e => by subst e;rfl)⟩
 have hr := Go.ownsRow_sorted (n := n) (os := os) (ss := H.map (·.data.toList)) (ts := (H.map (·.data.toList)).mergeSort (fun x y => decide (x ≤ y))) (by rw [List.length_mergeSort]) hb hg (by rw [hz];exact hn) hm hc
 rw [show (H.map (·.data.toList)).length = H.length from hz] at hr
 have hr2 := own_of_sorted (l := H) (ss := H.map (·.data.toList)) (by rw [hz];exact hr) (List.Perm.refl _) hs
 exact hr2
theorem c_compactS (H : List ByteArray) (A : Option Addr) (c : Nat) (w : World) (base : Nat) (h : Own Rp.str w No base 9 (.slice A H.length c) H) (hs : ∀ s ∈ H,s.size ≤ maxLen) (hl : H.length ≤ 1000000) (hms : ∀ s ∈ onceN H,s.size ≤ maxLen) :
 Calls Tryz.prog 107 #[.slice A H.length c] w fun e w' => e = .returned (.slice A (onceN H).length c) ∧ Own Rp.str w' No base 9 (.slice A (onceN H).length c) (onceN H) ∧ Kp (fun k => (Value.slice A H.length c).ownBlock = some k) w w' := by
 rcases Nat.eq_zero_or_pos H.length with h0 | h0
 · obtain rfl := List.eq_nil_of_length_eq_zero h0
   refine (sh_slices_Compact_string_empty A c w).mono ?_
   rintro e w' ⟨rfl,rfl⟩
   exact ⟨rfl,h,Kp.refl _ _⟩
 have hrow := own_str_row h
 rw [← Lib.map_encStr] at hrow
 obtain ⟨g,cap,he,hb,hgl,hn,hm,_,hH⟩ := Lib.holds_of_ownsRow hrow (by
  intro e
  injection e with _ e _
  omega)
 injection he with he _ hec
 subst he hec
 have hz : (H.map (·.data.toList)).length = H.length := by rw [List.length_map]
 have hcl := Lib.compact_length_le (H.map (·.data.toList))
 have hcon := sh_slices_Compact_string g 0 c (H.map (·.data.toList)) w hH (by rw [hz];omega) (by rw [hz];exact hn)
 rw [hz] at hcon hcl
 have hol : (onceN H).length = (Lib.compact (H.map (·.data.toList))).length := by unfold onceN;rw [List.length_map]
 refine hcon.mono ?_
 rintro e w' ⟨rfl,q,rfl⟩
 refine ⟨by rw [hol],?_,?_⟩
 · have hr := Lib.ownsRow_putRow (q := q) (ys := Lib.compact (H.map (·.data.toList)) ++ List.replicate (H.length - (Lib.compact (H.map (·.data.toList))).length) []) (k := (Lib.compact (H.map (·.data.toList))).length) hrow (by rw [List.length_append,List.length_replicate];omega) hcl
   have e1 : (Lib.compact (H.map (·.data.toList))).map Go.Proofs.encStr = (onceN H).map Value.string := by
    unfold onceN
    rw [List.map_map]
    exact List.map_congr_left fun x _ => rfl
   rw [List.take_left,e1] at hr
   rw [hol]
   exact own_of_row (by rw [hol];exact hr) hms
 · have hk := (kp_putRow (w := w) (g := g) (q := q) (os := #[]) (Lib.compact (H.map (fun x : ByteArray => x.data.toList)) ++ List.replicate (H.length - (Lib.compact (H.map (fun x : ByteArray => x.data.toList))).length) []).toArray).mono (S' := fun k => (Value.slice (some ⟨g,0,none⟩) H.length c).ownBlock = some k) (fun k _ e => by subst e;rfl)
   rwa [Go.Sort.grow_empty] at hk
set_option maxRecDepth 100000 in
set_option maxHeartbeats 8000000 in
theorem a_needs (B l : Nat) (L : LV) (F : Nat → Prop) (w : World) (h : LAt w l L F) (hok : OkL B L) :
 Calls Tryz.prog 51 #[.pointer (some ⟨l,0,none⟩)] w fun e w' => ∃ A c N,e = .returned (.slice A N.length c) ∧ NeedsTo (putsL L) N ∧ N.length ≤ 1000 ∧ Rp.str.slice.R w' (fun k => w.heap.size ≤ k) [.slice A N.length c] N ∧ Kp No w w' := by
 have HPU := Lib.hid (a_puts B l L F w h hok)
 have hpl := putsL_len L
 have hlen := hok.len
 have HH : Hid (∀ o ∈ putsL L,o.hashes.length ≤ 8) := Lib.hid (fun o ho => (putsL_ok hok o ho).hashes)
 obtain ⟨P,hP⟩ : ∃ P,putsL L = P := ⟨_,rfl⟩
 rw [hP] at HPU HH hpl ⊢
 have hpi : (P.length : Int) ≤ 80 := by omega
 clear hok h hP hlen hpl
 go_enter Tryz.func51,Tryz.ntmps51
 go_wp2_with fail
 refine HPU.out.mono ?_
 rintro e w2 ⟨A,c,rfl,hown,hk2⟩
 have HO := Lib.hid hown
 have HK2 := Lib.hid hk2
 clear hown hk2 HPU
 go_wp2_with fail
 go_loopw [3,9] (fun ov iv wr => ∃ i : Nat,i ≤ P.length ∧ iv = .int .i64 (i : Int) ∧ Hid (Own Rp.str wr No w2.heap.size 9 ov ((P.take i).flatMap (·.hashes))) ∧ Hid (((P.take i).flatMap (·.hashes)).length ≤ 8 * i ∧ ∀ s ∈ (P.take i).flatMap (·.hashes),s.size ≤ maxLen) ∧ Hid (Kp No w2 wr)) (fun _ iv _ => P.length - (intOf iv).toNat)
 case atStart => exact ⟨0,Nat.zero_le _,rfl,Lib.hid (Own.nil _ _ _ _ _),Lib.hid ⟨Nat.le_refl _,fun s hs => by simp at hs⟩,Lib.hid (Kp.refl _ _)⟩
 case round =>
  obtain ⟨i,hi,rfl,HOV,HOL,HKR⟩ := hrel
  obtain ⟨H,hH⟩ : ∃ H,(P.take i).flatMap (·.hashes) = H := ⟨_,rfl⟩
  have HHE := Lib.hid hH
  rw [hH] at HOV HOL
  clear hH
  obtain ⟨Av,cv,rfl⟩ := HOV.out.shape
  by_cases hlt : i < P.length
  case neg =>
   obtain rfl : i = P.length := by omega
   have HM1 := onceN_law H
   have HNT : Hid (NeedsTo P (onceN (sortedN H))) := Lib.hid ⟨HM1.1,fun x => by
    rw [HM1.2 x,← HHE.out,List.take_length,List.mem_flatMap]⟩
   have HSZ : Hid (∀ s ∈ onceN (sortedN H),s.size ≤ maxLen) := Lib.hid (fun s hs => HOL.out.2 s ((HM1.2 s).1 hs))
   have hhl : H.length ≤ 640 := by have := HOL.out.1;omega
   have HNL : Hid ((onceN (sortedN H)).length ≤ 1000) := Lib.hid (by
    unfold onceN
    rw [List.length_map]
    have h1 := Lib.compact_length_le ((sortedN H).map (·.data.toList))
    rw [List.length_map,sortedN_length] at h1
    omega)
   have HSO := Lib.hid (c_sortS H Av cv wr _ HOV.out HOL.out.2 (by omega))
   have HLT := Lib.hid HOV.out.lt
   have HL := Lib.hid hhl
   clear HM1 hhl hi hlt
   go_wp2_with fail
   refine HSO.out.mono ?_
   rintro e w5 ⟨rfl,hown5,hk5⟩
   have hsl : H.length = (sortedN H).length := (sortedN_length H).symm
   have HCO := c_compactS (sortedN H) Av cv w5 w2.heap.size (by rw [← hsl];exact hown5) (fun s hs => HOL.out.2 s (mem_sortedN.1 hs)) (by rw [← hsl];have := HL.out;omega) HSZ.out
   rw [← hsl] at HCO
   have HCO := Lib.hid HCO
   have HK5 := Lib.hid (HKR.out.trans hk5 (fun k hk e => by have := (HLT.out k e).1;omega))
   obtain ⟨N,hN⟩ : ∃ N,onceN (sortedN H) = N := ⟨_,rfl⟩
   rw [hN] at HCO HNT HNL
   clear hown5 hk5 HSO hsl hN
   go_wp2_with fail
   refine HCO.out.mono ?_
   rintro e w6 ⟨rfl,hown6,hk6⟩
   have HO6 := Lib.hid hown6
   have HK6 : Hid (Kp No w2 w6) := Lib.hid (HK5.out.trans hk6 (fun k hk e => by have := (HLT.out k e).1;omega))
   clear hown6 hk6 HCO
   go_wp2_with fail
   go_ret
   exact ⟨Av,cv,N,rfl,HNT.out,HNL.out,Rp.str.slice.more HO6.out.readFrom (fun k hk => by
    rcases hk with hk | hk
    · exact hk.elim
    · exact Nat.le_trans HK2.out.size hk),HK2.out.trans' HK6.out⟩
  case pos =>
   have hil : (i : Int) < (P.length : Int) := by omega
   have hi0 : (0 : Int) ≤ (i : Int) := by omega
   obtain ⟨o,ho⟩ : ∃ o,P[i]? = some o := ⟨_,List.getElem?_eq_getElem hlt⟩
   obtain ⟨g,A',c',rfl,_,_,hcell,_,_,hrd⟩ := Own.at_opl HO.out ho
   have hc : ∀ (j : Nat) u,(o.cells (.slice A' o.hashes.length c'))[j]? = some u → wr.cell? ⟨g,i * 9 + j,none⟩ = some u := fun j u hu => (HKR.out.cell (lt_of_cell (hcell j u hu)) (fun z => z)).trans (hcell j u hu)
   have z0 : wr.cell? ⟨g,i * 9,none⟩ = some _ := hc 0 _ rfl
   have z1 : wr.cell? ⟨g,i * 9 + 1,none⟩ = some _ := hc 1 _ rfl
   have z2 : wr.cell? ⟨g,i * 9 + 2,none⟩ = some _ := hc 2 _ rfl
   have z3 : wr.cell? ⟨g,i * 9 + 3,none⟩ = some _ := hc 3 _ rfl
   have z4 : wr.cell? ⟨g,i * 9 + 4,none⟩ = some _ := hc 4 _ rfl
   have z5 : wr.cell? ⟨g,i * 9 + 5,none⟩ = some _ := hc 5 _ rfl
   have z6 : wr.cell? ⟨g,i * 9 + 6,none⟩ = some _ := hc 6 _ rfl
   have z7 : wr.cell? ⟨g,i * 9 + 7,none⟩ = some _ := hc 7 _ rfl
   have z8 : wr.cell? ⟨g,i * 9 + 8,none⟩ = some _ := hc 8 _ rfl
   have hhl := HH.out o (List.mem_of_getElem? ho)
   have HRD := Lib.hid (Rp.str.slice.more (Rp.str.slice.keptNo (Rp.str.slice.bnd hrd) HKR.out) (S' := fun k => k < w2.heap.size) (fun k hk => hk.2))
   have hst : (P.take (i + 1)).flatMap (·.hashes) = H ++ o.hashes := by rw [take_snoc ho,List.flatMap_append,HHE.out];simp
   have HST := Lib.hid hst
   have hsz : ∀ s ∈ o.hashes,s.size ≤ maxLen := fun s hs => by
    obtain ⟨q,hq⟩ := List.getElem?_of_mem hs
    obtain ⟨_,_,_,_,h5⟩ := Rp.at_str hrd hq
    exact h5
   have HZZ := Lib.hid hsz
   have hHl : (H.length : Int) ≤ 640 := by have := HOL.out.1;omega
   have HHL : Hid (o.hashes.length ≤ 8) := Lib.hid hhl
   clear hcell hrd ho hst hsz hc
   obtain ⟨on,oe,ok,os,oc,oq,onm,osz,ohs⟩ := o
   simp only at *
   obtain ⟨x,hx⟩ : ∃ x,wr.heap.size = x := ⟨_,rfl⟩
   obtain ⟨wa,hwa⟩ : ∃ wa,wr.alloc (.cells #[.int .i64 on,.int .i64 oe,.int .i64 ok,.int .i64 os,.int .i64 oc,.int .i64 oq,.string onm,.int .i64 osz,.slice A' ohs.length c'] 36) = wa := ⟨_,rfl⟩
   have hka : Kp No wr wa := by rw [← hwa];exact (Kp.refl _ _).alloc _
   have hba : Blk wa x 36 [.int .i64 on,.int .i64 oe,.int .i64 ok,.int .i64 os,.int .i64 oc,.int .i64 oq,.string onm,.int .i64 osz,.slice A' ohs.length c'] := by rw [← hwa,← hx];exact Blk.new wr _ _
   have HRA := Lib.hid (Rp.str.slice.keptNo HRD.out hka)
   have HOA := Lib.hid ((HOV.out.keptNo hka).str_any (fun k => k < w2.heap.size))
   have HKA := Lib.hid (HKR.out.trans' hka)
   have HLA := Lib.hid HOV.out.lt
   go_upto_region 5 with fail
   try rw [hwa]
   try rw [hx]
   clear hwa hx hka z0 z1 z2 z3 z4 z5 z6 z7 z8
   have y8 : wa.cell? ⟨x,8,none⟩ = some _ := Blk.cell hba rfl
   clear hba
   go_wp2_with (at_builtin;refine wpList_append_rp (E := Rp.str) rfl _ (.tmp 13) (.tmp 16) 32 rfl w2.heap.size 9 16 el_strL (fun k => k < w2.heap.size) (.slice Av H.length cv) H rfl HOA.out A' c' (fun k => k < w2.heap.size) ohs rfl HRA.out Rp.str_one (by have := HHL.out;simp [maxLen];omega) (by have := HHL.out;omega) HKA.out.size (fun _ h => h) (fun k hk e => by have := (HLA.out k hk).1;omega) ?_)
   intro v9 w9 hown9 hg9 _
   have hk9 : Kp No w2 w9 := HKA.out.grown hg9 (fun k hk hlt => by have := (HLA.out k hk).1;omega)
   have HO9 : Hid (Own Rp.str w9 No w2.heap.size 9 v9 ((P.take (i + 1)).flatMap (·.hashes))) := Lib.hid (by rw [HST.out];exact hown9.str_any No)
   have HK9 := Lib.hid hk9
   have HL9 : Hid (((P.take (i + 1)).flatMap (·.hashes)).length ≤ 8 * (i + 1) ∧ ∀ s ∈ (P.take (i + 1)).flatMap (·.hashes),s.size ≤ maxLen) := Lib.hid (by
    rw [HST.out]
    refine ⟨by rw [List.length_append];have := HOL.out.1;have := HHL.out;omega,fun s hs => ?_⟩
    rcases List.mem_append.1 hs with hs | hs
    · exact HOL.out.2 s hs
    · exact HZZ.out s hs)
   clear hown9 hg9 hk9 y8
   go_wp2_with fail
   go_roundw
   case rel => exact ⟨i + 1,by omega,by go_num,HO9,HL9,HK9⟩
   case measure => simp [intOf];omega
end Go.Proofs.YtjlbacfedfkilaaGreat
