/-
  Put together: OwnL, Fold, Led1, Lit1, Deed6.
-/
import Derived.Test.YtjlbacfedfkilaaGreatGB
import Derived.Test.YtjlbacfedfkilaaGreatGC
import Derived.Laws.ResultCell
import Derived.Laws.Rows
import Derived.Test.YtjlbacfedfkilaaGreatReg
namespace Go.Proofs.YtjlbacfedfkilaaGreat
section
open Go.RowKit Go.ChangeShapes Go.WideShapes Go.ChangeAt
theorem slice_one' {w : World} {S : Nat → Prop} {hv : Value} {l : List ByteArray} (h : Rp.str.slice.R w S [hv] l) : hv.oneCell' = true := by
 obtain ⟨A,c,he,_⟩ := h
 simp only [List.cons.injEq,and_true] at he
 subst he
 rfl
theorem Own.hashed {w : World} {S S' : Nat → Prop} {base g c : Nat} {l : List OpL} (h : Own Rp.opl w S base 36 (.slice (some ⟨g,0,none⟩) l.length c) l) {i : Nat} {o : OpL} (hi : l[i]? = some o) {hv : Value} (hr : Rp.str.slice.R w S' [hv] o.hashes) (hS : ∀ k,S k → S' k) (hg : ¬ S' g) :
 Own Rp.opl (w.setCell ⟨g,i * 9 + 8,none⟩ hv) S' base 36 (.slice (some ⟨g,0,none⟩) l.length c) l := by
 obtain ⟨xs,h1,h2,h3⟩ := h
 have hk : Kp (· = g) w (w.setCell ⟨g,i * 9 + 8,none⟩ hv) := (Kp.refl (· = g) w).setCell (p := ⟨g,i * 9 + 8,none⟩) (fun _ => rfl) _
 refine ⟨xs.set (i * 9 + 8) hv,(h1.stored (i * 9 + 8) hv).1,fun u hu => ?_,fun j a ha => ?_⟩
 · rcases List.mem_or_eq_of_mem_set hu with hu | rfl
   · exact h2 u hu
   · exact slice_one' hr
 · have h4 := h3 j a ha
   have h4' : Rp.opl.R w S ((xs.drop (j * 9)).take 9) a := h4
   show Rp.opl.R _ S' (((xs.set (i * 9 + 8) hv).drop (j * 9)).take 9) a
   have hsk : ∀ {cs b},Rp.opl.R w S cs b → Rp.opl.R (w.setCell ⟨g,i * 9 + 8,none⟩ hv) S' cs b := fun hR => Rp.opl.more (Rp.opl.kept hR hk (fun k hk2 _ e => hg (hS _ (e ▸ hk2)))) hS
   by_cases hlt : i * 9 + 8 < j * 9
   · rw [List.drop_set_of_lt hlt]
     exact hsk h4'
   · rw [List.drop_set,if_neg hlt,List.take_set]
     by_cases hij : j = i
     · subst hij
       rw [hi] at ha
       injection ha with ha
       subst ha
       obtain ⟨v,he,hn,_⟩ := h4'
       rw [he,show j * 9 + 8 - j * 9 = 8 by omega]
       refine ⟨hv,rfl,hn,?_⟩
       exact Rp.str.slice.kept hr hk (fun k hk2 _ e => hg (e ▸ hk2))
     · have hge : 9 ≤ i * 9 + 8 - j * 9 := by omega
       rw [List.set_eq_of_length_le (by rw [List.length_take];omega)]
       exact hsk h4'
theorem Own.at_opl {w : World} {S : Nat → Prop} {base : Nat} {A : Option Addr} {c : Nat} {l : List OpL} (h : Own Rp.opl w S base 36 (.slice A l.length c) l) {i : Nat} {o : OpL} (hi : l[i]? = some o) :
 ∃ g A' c',A = some ⟨g,0,none⟩ ∧ base ≤ g ∧ (∃ cs,w.heap[g]? = some (.cells cs 36 (0,0))) ∧ (∀ (j : Nat) u,(o.cells (.slice A' o.hashes.length c'))[j]? = some u → w.cell? ⟨g,i * 9 + j,none⟩ = some u) ∧ (∀ j,w.frozen? ⟨g,j,none⟩ = false) ∧ o.nums ∧ Rp.str.slice.R w S [.slice A' o.hashes.length c'] o.hashes := by
 obtain ⟨xs,⟨h0,h1⟩,h2,h3⟩ := h
 have hlt := (List.getElem?_eq_some_iff.1 hi).1
 rcases h1 with ⟨he,h1⟩ | ⟨g,cap,cur,he,hb,hg,hn,hm,hc,ht⟩
 · omega
 · injection he with he
   subst he
   obtain ⟨v,he2,hnum,hr⟩ : Rp.opl.R w S ((xs.drop (i * 9)).take 9) o := h3 i o hi
   obtain ⟨A',c',hv,_⟩ := id hr
   simp only [List.cons.injEq,and_true] at hv
   subst hv
   refine ⟨g,A',c',rfl,hb,⟨_,hg⟩,fun j u hu => ?_,fun j => by simp [World.frozen?,hg],hnum,hr⟩
   have hj : j < 9 := by have := (List.getElem?_eq_some_iff.1 hu).1;simpa [OpL.cells] using this
   rw [← he2,List.getElem?_take_of_lt hj,List.getElem?_drop] at hu
   have hlt2 : i * 9 + j < l.length * 9 := by omega
   rw [← ht,List.getElem?_take_of_lt (by exact hlt2),Array.getElem?_toList] at hu
   simp [World.cell?,hg,hu]
def Soft (w : World) (S : Nat → Prop) (v : Value) (n : Nat) : Prop := n = 0 ∨ ∃ g c cs,v = .slice (some ⟨g,0,none⟩) n c ∧ S g ∧ w.heap[g]? = some (.cells cs 9 (0,0)) ∧ n ≤ cs.size
theorem Soft.keep {w w' : World} {S S' : Nat → Prop} {v : Value} {n : Nat} (h : Soft w S v n) (hs : ∀ k,S k → S' k) (hk : ∀ k,S k → w'.heap[k]? = w.heap[k]?) : Soft w' S' v n := by
 rcases h with h | ⟨g,c,cs,h1,h2,h3,h4⟩
 · exact .inl h
 · exact .inr ⟨g,c,cs,h1,hs g h2,(hk g h2).trans h3,h4⟩
theorem Soft.kept {w w' : World} {S T : Nat → Prop} {v : Value} {n : Nat} (h : Soft w S v n) (hk : Kp T w w') (hs : ∀ k,S k → k < w.heap.size → ¬ T k) : Soft w' S v n := by
 rcases h with h | ⟨g,c,cs,h1,h2,h3,h4⟩
 · exact .inl h
 · have hg := (Array.getElem?_eq_some_iff.1 h3).1
   exact .inr ⟨g,c,cs,h1,h2,(hk.block g hg (hs g h2 hg)).trans h3,h4⟩
theorem Own.soft {w : World} {S : Nat → Prop} {b : Nat} {A : Option Addr} {c : Nat} {l : List ByteArray} (h : Own Rp.str w S b 9 (.slice A l.length c) l) : Soft w (fun k => b ≤ k) (.slice A l.length c) l.length := by
 obtain ⟨xs,⟨_,h1⟩,_⟩ := h
 rcases h1 with ⟨_,h1⟩ | ⟨g,cap,cur,he,hb,hg,hn,_,hc,_⟩
 · exact .inl h1
 · injection he with he _ he2
   subst he
   have hc2 : cur.size = cap * 1 := hc
   exact .inr ⟨g,c,cur,rfl,hb,hg,by omega⟩
def Rp.oplF : Rp OpL where
 size := 9
 R w S cs a := ∃ v,cs = a.cells v ∧ a.nums ∧ Rp.str.slice.R w S [v] a.hashes ∧ Soft w S v a.hashes.length
 μ a := Rp.opl.μ a
 pos := by omega
 len := by rintro w S cs a ⟨v,rfl,_⟩;rfl
 keep := by
  rintro w w' S S' cs a hs hk ⟨v,rfl,h1,h2,h3⟩
  exact ⟨v,rfl,h1,Rp.str.slice.keep hs hk h2,h3.keep hs hk⟩
 bnd := by
  rintro w S cs a ⟨v,rfl,h1,h2,h3⟩
  refine ⟨v,rfl,h1,Rp.str.slice.bnd h2,?_⟩
  rcases h3 with h | ⟨g,c,cs,h1,h2,h3,h4⟩
  · exact .inl h
  · exact .inr ⟨g,c,cs,h1,⟨h2,(Array.getElem?_eq_some_iff.1 h3).1⟩,h3,h4⟩
theorem Own.opl_of {w : World} {S : Nat → Prop} {b : Nat} {e : TypeId} {v : Value} {l : List OpL} (h : Own Rp.oplF w S b e v l) : Own Rp.opl w S b e v l := by
 obtain ⟨xs,h1,h2,h3⟩ := h
 refine ⟨xs,h1,h2,fun i a hi => ?_⟩
 obtain ⟨v,h4,h5,h6,_⟩ := h3 i a hi
 exact ⟨v,h4,h5,h6⟩
theorem Rp.oplF_one {w : World} : ∀ cs a S',Rp.oplF.R w S' cs a → ∀ u ∈ cs,u.oneCell' = true := fun cs a S' ⟨v,h1,h2,h3,_⟩ => Rp.opl_one cs a S' ⟨v,h1,h2,h3⟩
theorem Own.rehashF {w : World} {S S' : Nat → Prop} {base g c : Nat} {l : List OpL} (h : Own Rp.opl w S base 36 (.slice (some ⟨g,0,none⟩) l.length c) l) (hr : ∀ (j : Nat) o,l[j]? = some o → ∃ v,w.cell? ⟨g,j * 9 + 8,none⟩ = some v ∧ Rp.str.slice.R w S' [v] o.hashes ∧ Soft w S' v o.hashes.length) :
 Own Rp.oplF w S' base 36 (.slice (some ⟨g,0,none⟩) l.length c) l := by
 obtain ⟨xs,h1,h2,h3⟩ := h
 refine ⟨xs,h1,h2,fun j o hj => ?_⟩
 obtain ⟨v,he,hn,_⟩ : Rp.opl.R w S ((xs.drop (j * 9)).take 9) o := h3 j o hj
 show Rp.oplF.R w S' ((xs.drop (j * 9)).take 9) o
 obtain ⟨u,hu,hr2⟩ := hr j o hj
 obtain ⟨h0,h1⟩ := h1
 have hlt := (List.getElem?_eq_some_iff.1 hj).1
 rcases h1 with ⟨he2,h1⟩ | ⟨g',cap,cur,he2,hb,hg,hn2,hm,hc,ht⟩
 · omega
 · injection he2 with he2
   injection he2 with he2
   injection he2 with he2
   subst he2
   have h8 : (o.cells v)[8]? = some v := rfl
   rw [← he,List.getElem?_take_of_lt (by omega),List.getElem?_drop] at h8
   have hlt2 : j * 9 + 8 < l.length * 9 := by omega
   rw [← ht,List.getElem?_take_of_lt (by exact hlt2),Array.getElem?_toList] at h8
   have h9 : w.cell? ⟨g,j * 9 + 8,none⟩ = some v := by simp [World.cell?,hg,h8]
   rw [h9] at hu
   injection hu with hu
   subst hu
   exact ⟨v,he,hn,hr2⟩
def New (w : World) (g : Nat) : Nat → Prop := fun k => w.heap.size ≤ k ∧ k ≠ g
set_option maxRecDepth 100000 in
set_option maxHeartbeats 2000000 in
theorem c_ownF (l : List OpL) (A : Option Addr) (c : Nat) (w : World) (S : Nat → Prop) (hl : Rp.opl.slice.R w S [.slice A l.length c] l) (hll : l.length ≤ 1000000) (hsm : ∀ o ∈ l,o.hashes.length ≤ 1000000) :
 Calls Tryz.prog 45 #[.slice A l.length c] w fun e w' => ∃ A' c',e = .returned (.slice A' l.length c') ∧ (∀ g,A' = some ⟨g,0,none⟩ → Own Rp.oplF w' (New w g) w.heap.size 36 (.slice A' l.length c') l) ∧ (A' = none ∨ ∃ g,A' = some ⟨g,0,none⟩) ∧ Own Rp.oplF w' (fun k => w.heap.size ≤ k) w.heap.size 36 (.slice A' l.length c') l ∧ Kp No w w' := by
 have hcl := c_cloneO l A c w _ (Rp.opl.slice.bnd hl) hll
 have HCL := Lib.hid hcl
 have HSM := Lib.hid hsm
 clear hcl hsm hl
 go_enter Tryz.func45,Tryz.ntmps45
 go_wp2_with fail
 refine HCL.out.mono ?_
 rintro e w1 ⟨A1,c1,rfl,hown,hk1⟩
 have HO := Lib.hid hown
 have HK := Lib.hid hk1
 clear hown hk1
 by_cases hl0 : l.length = 0
 · have hl0' : l = [] := List.eq_nil_of_length_eq_zero hl0
   subst hl0'
   have hem : ∀ S',Own Rp.oplF w1 S' w.heap.size 36 (.slice A1 ([] : List OpL).length c1) [] := fun S' => by
    obtain ⟨xs,h1,h2,_⟩ := HO.out
    exact ⟨xs,h1,h2,fun i a h => by simp at h⟩
   have hsh : A1 = none ∨ ∃ g,A1 = some ⟨g,0,none⟩ := by
    obtain ⟨xs,⟨_,h1⟩,_⟩ := HO.out
    rcases h1 with ⟨he,_⟩ | ⟨g,cap,cur,he,_⟩
    · injection he with he;exact .inl he
    · injection he with he;exact .inr ⟨g,he⟩
   have HEM := Lib.hid hem
   have HSH := Lib.hid hsh
   clear hem hsh hl0 HO
   go_wp2_with fail
   go_loopw [9] (fun iv wr => iv = .int .i64 0 ∧ wr = w1) (fun _ _ => 0)
   case atStart => exact ⟨rfl,rfl⟩
   case round =>
    obtain ⟨rfl,rfl⟩ := hrel
    go_wp2_with fail
    go_ret
    exact ⟨_,_,rfl,fun g _ => HEM.out _,HSH.out,HEM.out _,HK.out⟩
 obtain ⟨o0,ho0⟩ : ∃ o,l[0]? = some o := ⟨_,List.getElem?_eq_getElem (by omega)⟩
 obtain ⟨g,_,_,rfl,hgw,_⟩ := Own.at_opl HO.out ho0
 have HO1 : Hid (Own Rp.opl w1 (fun k => (S k ∧ k < w.heap.size) ∨ New w g k) w.heap.size 36 (.slice (some ⟨g,0,none⟩) l.length c1) l) := Lib.hid (HO.out.mono (Nat.le_refl _) (fun k hk => .inl hk))
 clear ho0 HO hl0
 go_wp2_with fail
 go_loopw [9] (fun iv wr => ∃ i : Nat,i ≤ l.length ∧ iv = .int .i64 (i : Int) ∧ Hid (Own Rp.opl wr (fun k => (S k ∧ k < w.heap.size) ∨ New w g k) w.heap.size 36 (.slice (some ⟨g,0,none⟩) l.length c1) l) ∧ Hid (∀ (j : Nat) o,j < i → l[j]? = some o → ∃ v,wr.cell? ⟨g,j * 9 + 8,none⟩ = some v ∧ Rp.str.slice.R wr (New w g) [v] o.hashes ∧ Soft wr (New w g) v o.hashes.length) ∧ Hid (Kp No w wr)) (fun iv _ => l.length - (intOf iv).toNat)
 case atStart => exact ⟨0,Nat.zero_le _,rfl,HO1,Lib.hid (fun j o hj => absurd hj (Nat.not_lt_zero _)),HK⟩
 case round =>
  clear HO1 HK
  obtain ⟨i,hi,rfl,HO,HN,HK⟩ := hrel
  by_cases hlt : i < l.length
  · have hli : (i : Int) < (l.length : Int) := by omega
    obtain ⟨o,ho⟩ : ∃ o,l[i]? = some o := ⟨_,List.getElem?_eq_getElem hlt⟩
    obtain ⟨g',A',c',hg',_,⟨cs,hcs⟩,hcell,hfr,_,hrd⟩ := Own.at_opl HO.out ho
    injection hg' with hg'
    injection hg' with hg'
    subst hg'
    have c8 : wr.cell? ⟨g,i * 9 + 8,none⟩ = some (.slice A' o.hashes.length c') := hcell 8 _ rfl
    have hcl := c_cloneS o.hashes A' c' wr _ hrd (HSM.out o (List.mem_of_getElem? ho))
    have HCL := Lib.hid hcl
    have HOI := Lib.hid ho
    have HCS := Lib.hid hcs
    have hgl : g < wr.heap.size := (Array.getElem?_eq_some_iff.1 hcs).1
    clear ho hcell hrd hcl hcs
    go_wp2_with fail
    refine HCL.out.mono ?_
    rintro e w2 ⟨A5,c5,rfl,hown5,hk2⟩
    have c8' : w2.cell? ⟨g,i * 9 + 8,none⟩ = some (.slice A' o.hashes.length c') := (hk2.cell (lt_of_cell c8) (fun x => x)).trans c8
    have hcs2 : w2.heap[g]? = some (.cells cs 36 (0,0)) := (hk2.block g hgl (fun x => x)).trans HCS.out
    have f8 : w2.frozen? ⟨g,i * 9 + 8,none⟩ = false := by simp [World.frozen?,hcs2]
    have hblk : Blk w2 g 36 cs.toList := by unfold Blk;rw [hcs2]
    have HBLK := Lib.hid hblk
    have HCS2 := Lib.hid hcs2
    have HO2 := Lib.hid (HO.out.keptNo hk2)
    have HN2 : Hid (∀ (j : Nat) o,j < i → l[j]? = some o → ∃ v,w2.cell? ⟨g,j * 9 + 8,none⟩ = some v ∧ Rp.str.slice.R w2 (New w g) [v] o.hashes ∧ Soft w2 (New w g) v o.hashes.length) := Lib.hid (fun j o hj ho => by
     obtain ⟨v,h1,h2,h3⟩ := HN.out j o hj ho
     exact ⟨v,(hk2.cell (lt_of_cell h1) (fun x => x)).trans h1,Rp.str.slice.keptNo h2 hk2,h3.kept hk2 (fun _ _ _ x => x)⟩)
    have HF5 : Hid (Soft w2 (New w g) (.slice A5 o.hashes.length c5) o.hashes.length) := Lib.hid (hown5.soft.keep (fun k hk => ⟨by have := HK.out.size;omega,by omega⟩) (fun _ _ => rfl))
    have HR5 : Hid (Rp.str.slice.R w2 (New w g) [.slice A5 o.hashes.length c5] o.hashes) := Lib.hid (Rp.str.slice.more hown5.readFrom (fun k hk => by
     have hws := HK.out.size
     rcases hk with hk | hk
     · exact hk.elim
     · exact ⟨by omega,by omega⟩))
    have HK2 := Lib.hid (HK.out.trans' hk2)
    clear hcs2 hblk hown5 hk2 HCL HO HN HK HCS c8 hgl
    go_wp2_with fail
    have hk3 : Kp (· = g) w2 (w2.setCell ⟨g,i * 9 + 8,none⟩ (.slice A5 o.hashes.length c5)) := (Kp.refl (· = g) w2).setCell (p := ⟨g,i * 9 + 8,none⟩) (fun _ => rfl) _
    have hb3 := Blk.set HBLK.out (i * 9 + 8) (.slice A5 o.hashes.length c5)
    have h8 : cs.toList[i * 9 + 8]? = some (.slice A' o.hashes.length c') := by
     have := c8'
     simp [World.cell?,HCS2.out] at this
     rw [Array.getElem?_toList];exact this
    have HO3 : Hid (Own Rp.opl (w2.setCell ⟨g,i * 9 + 8,none⟩ (.slice A5 o.hashes.length c5)) (fun k => (S k ∧ k < w.heap.size) ∨ New w g k) w.heap.size 36 (.slice (some ⟨g,0,none⟩) l.length c1) l) := Lib.hid (HO2.out.hashed HOI.out (Rp.str.slice.more HR5.out (fun k hk => .inr hk)) (fun k hk => hk) (fun h => by
     rcases h with h | h
     · have := h.2;omega
     · exact h.2 rfl))
    have HN3 : Hid (∀ (j : Nat) o',j < i + 1 → l[j]? = some o' → ∃ v,(w2.setCell ⟨g,i * 9 + 8,none⟩ (.slice A5 o.hashes.length c5)).cell? ⟨g,j * 9 + 8,none⟩ = some v ∧ Rp.str.slice.R (w2.setCell ⟨g,i * 9 + 8,none⟩ (.slice A5 o.hashes.length c5)) (New w g) [v] o'.hashes ∧ Soft (w2.setCell ⟨g,i * 9 + 8,none⟩ (.slice A5 o.hashes.length c5)) (New w g) v o'.hashes.length) := Lib.hid (fun j o' hj ho' => by
     rcases Nat.lt_or_ge j i with h | h
     · obtain ⟨v,h1,h2,h3⟩ := HN2.out j o' h ho'
       refine ⟨v,Blk.cell hb3 ?_,Rp.str.slice.kept h2 hk3 (fun k hk _ e => hk.2 e),h3.kept hk3 (fun k hk _ e => hk.2 e)⟩
       rw [List.getElem?_set_ne (by omega),Array.getElem?_toList]
       simpa [World.cell?,HCS2.out] using h1
     · obtain rfl : j = i := by omega
       have ho := HOI.out
       rw [ho'] at ho
       injection ho with ho
       subst ho
       refine ⟨_,Blk.cell hb3 ?_,Rp.str.slice.kept HR5.out hk3 (fun k hk _ e => hk.2 e),HF5.out.kept hk3 (fun k hk _ e => hk.2 e)⟩
       rw [List.getElem?_set_self (List.getElem?_eq_some_iff.1 h8).1])
    have HK3 : Hid (Kp No w (w2.setCell ⟨g,i * 9 + 8,none⟩ (.slice A5 o.hashes.length c5))) := Lib.hid (HK2.out.trans hk3 (fun k hk e => absurd hgw (by omega)))
    clear hk3 hb3 h8
    go_roundw
    case rel => exact ⟨i + 1,by omega,by go_num,HO3,HN3,HK3⟩
    case measure => simp [intOf];omega
  · obtain rfl : i = l.length := by omega
    go_wp2_with fail
    go_ret
    have hfin := HO.out.rehashF (fun j o hj => HN.out j o (List.getElem?_eq_some_iff.1 hj).1 hj)
    refine ⟨_,_,rfl,fun g' hg' => ?_,.inr ⟨g,rfl⟩,hfin.mono (Nat.le_refl _) (fun k hk => hk.1),HK.out⟩
    injection hg' with hg'
    injection hg' with hg'
    subst hg'
    exact hfin
theorem c_own (l : List OpL) (A : Option Addr) (c : Nat) (w : World) (S : Nat → Prop) (hl : Rp.opl.slice.R w S [.slice A l.length c] l) (hll : l.length ≤ 1000000) (hsm : ∀ o ∈ l,o.hashes.length ≤ 1000000) :
 Calls Tryz.prog 45 #[.slice A l.length c] w fun e w' => ∃ A' c',e = .returned (.slice A' l.length c') ∧ (∀ g,A' = some ⟨g,0,none⟩ → Own Rp.opl w' (New w g) w.heap.size 36 (.slice A' l.length c') l) ∧ (A' = none ∨ ∃ g,A' = some ⟨g,0,none⟩) ∧ Own Rp.opl w' (fun k => w.heap.size ≤ k) w.heap.size 36 (.slice A' l.length c') l ∧ Kp No w w' :=
 (c_ownF l A c w S hl hll hsm).mono fun _ _ ⟨A',c',h1,h2,h3,h4,h5⟩ => ⟨A',c',h1,fun g hg => (h2 g hg).opl_of,h3,h4.opl_of,h5⟩
end
section
open Go.RowKit Go.ChangeShapes Go.WideShapes Go.ChangeAt
abbrev Sheets := List (ByteArray × (Int × List ByteArray))
def sumS (l : Sheets) : Int := (l.map (·.2.1)).sum
structure FV where
 live : Sheets
 lastOf : List (Int × OpL)
 hE : Int
 hS : Int
namespace FV
def used (f : FV) : Int := sumS f.live
def fresh : FV := ⟨[],[],0,0⟩
def take1 (f : FV) (o : OpL) : FV :=
 if o.kind = 3 then { f with hE := o.epoch,hS := o.site }
 else { f with live := if o.kind = 1 then mput o.name (o.size,o.hashes) (mdel o.name f.live) else mdel o.name f.live,lastOf := mput o.client o f.lastOf }
def take (f : FV) (l : List OpL) : FV := l.foldl take1 f
end FV
def sizeAt (k : ByteArray) (l : Sheets) : Int := ((mget k l).map (·.1)).getD 0
theorem sumS_del (k : ByteArray) : ∀ l : Sheets,sumS (mdel k l) = sumS l - sizeAt k l
 | [] => rfl
 | (k',v) :: l => by
   have ih := sumS_del k l
   unfold sumS sizeAt at ih ⊢
   unfold mdel mget
   split
   · simp;omega
   · simp only [List.map_cons,List.sum_cons,ih];omega
theorem sumS_put (k : ByteArray) (v : Int × List ByteArray) : ∀ l : Sheets,mget k l = none → sumS (mput k v l) = sumS l + v.1
 | [],_ => by simp [sumS,mput]
 | (k',v') :: l,h => by
   unfold mget at h
   split at h
   · cases h
   · rename_i hne
     have ih := sumS_put k v l h
     unfold sumS at ih ⊢
     unfold mput
     rw [if_neg hne]
     simp only [List.map_cons,List.sum_cons,ih];omega
theorem len_mdel {κ ν : Type} [DecidableEq κ] (k : κ) : ∀ l : List (κ × ν),(mdel k l).length ≤ l.length
 | [] => Nat.le_refl _
 | (k',v) :: l => by
   unfold mdel
   split
   · simp
   · have := len_mdel k l;simp;omega
theorem len_mput {κ ν : Type} [DecidableEq κ] (k : κ) (u : ν) : ∀ l : List (κ × ν),(mput k u l).length ≤ l.length + 1
 | [] => by simp [mput]
 | (k',v) :: l => by
   unfold mput
   split
   · simp
   · have := len_mput k u l;simp;omega
theorem mem_mdel {κ ν : Type} [DecidableEq κ] (k : κ) (p : κ × ν) : ∀ l : List (κ × ν),p ∈ mdel k l → p ∈ l
 | [],h => h
 | (k',v) :: l,h => by
   unfold mdel at h
   split at h
   · exact List.mem_cons_of_mem _ h
   · rcases List.mem_cons.1 h with h | h
     · rw [h];exact List.mem_cons_self
     · exact List.mem_cons_of_mem _ (mem_mdel k p l h)
theorem mem_mput {κ ν : Type} [DecidableEq κ] (k : κ) (u : ν) (p : κ × ν) : ∀ l : List (κ × ν),p ∈ mput k u l → p = (k,u) ∨ p ∈ l
 | [],h => by simpa [mput] using h
 | (k',v) :: l,h => by
   unfold mput at h
   split at h
   · rcases List.mem_cons.1 h with h | h
     · exact .inl h
     · exact .inr (List.mem_cons_of_mem _ h)
   · rcases List.mem_cons.1 h with h | h
     · exact .inr (by rw [h];exact List.mem_cons_self)
     · rcases mem_mput k u p l h with h | h
       · exact .inl h
       · exact .inr (List.mem_cons_of_mem _ h)
theorem mem_of_mget {κ ν : Type} [DecidableEq κ] {k : κ} {v : ν} : ∀ {l : List (κ × ν)},mget k l = some v → (k,v) ∈ l
 | (k',v') :: l,h => by
   unfold mget at h
   split at h
   · rename_i hk;injection h with h;subst hk h;exact List.mem_cons_self
   · exact List.mem_cons_of_mem _ (mem_of_mget h)
def Small (x : Int) : Prop := 0 ≤ x ∧ x ≤ 1073741824
structure FV.Ok (f : FV) (n : Nat) : Prop where
 nodup : (f.live.map (·.1)).Nodup
 small : ∀ p ∈ f.live,Small p.2.1
 len : f.live.length ≤ n
theorem FV.fresh_ok : FV.fresh.Ok 0 := ⟨List.nodup_nil,by simp [FV.fresh],Nat.le_refl _⟩
theorem sum_small : ∀ l : Sheets,(∀ p ∈ l,Small p.2.1) → 0 ≤ sumS l ∧ sumS l ≤ 1073741824 * l.length
 | [],_ => by simp [sumS]
 | p :: l,h => by
   obtain ⟨h1,h2⟩ := sum_small l (fun q hq => h q (List.mem_cons_of_mem _ hq))
   obtain ⟨h3,h4⟩ := h p List.mem_cons_self
   unfold sumS at h1 h2 ⊢
   simp only [List.map_cons,List.sum_cons,List.length_cons]
   omega
namespace FV.Ok
variable {f : FV} {n : Nat}
theorem bound (h : f.Ok n) : 0 ≤ f.used ∧ f.used ≤ 1073741824 * n := by
 obtain ⟨h1,h2⟩ := sum_small f.live h.small
 have := h.len
 unfold FV.used
 omega
theorem sizeAt_small (h : f.Ok n) (k : ByteArray) : Small (sizeAt k f.live) := by
 unfold sizeAt
 cases hg : mget k f.live with
 | none => simp [Small]
 | some v => exact h.small _ (mem_of_mget hg)
theorem step (h : f.Ok n) (o : OpL) (hs : o.kind = 1 → Small o.size) : (f.take1 o).Ok (n + 1) := by
 unfold FV.take1
 split
 · exact ⟨h.nodup,h.small,Nat.le_succ_of_le h.len⟩
 · refine ⟨?_,fun p hp => ?_,?_⟩
   · simp only
     split
     · exact nodup_mput _ _ _ (nodup_mdel _ _ h.nodup)
     · exact nodup_mdel _ _ h.nodup
   · simp only at hp
     split at hp
     · rename_i hk
       rcases mem_mput _ _ _ _ hp with hp | hp
       · rw [hp];exact hs hk
       · exact h.small p (mem_mdel _ _ _ hp)
     · exact h.small p (mem_mdel _ _ _ hp)
   · have := len_mdel o.name f.live
     have := h.len
     simp only
     split
     · have := len_mput o.name (o.size,o.hashes) (mdel o.name f.live);omega
     · omega
theorem take (h : f.Ok n) : ∀ (l : List OpL),(∀ o ∈ l,o.kind = 1 → Small o.size) → (f.take l).Ok (n + l.length) := by
 intro l
 induction l generalizing f n with
 | nil => intro _;exact h
 | cons o l ih =>
   intro hs
   have := ih (h.step o (hs o List.mem_cons_self)) (fun x hx => hs x (List.mem_cons_of_mem _ hx))
   rw [show n + (o :: l).length = n + 1 + l.length by simp;omega]
   exact this
end FV.Ok
theorem FV.take_snoc (f : FV) (l : List OpL) (o : OpL) : f.take (l ++ [o]) = (f.take l).take1 o := by
 unfold FV.take;simp
structure FAt (w : World) (l : Nat) (rest : List Value) (b1 b2 : Nat) (S : Nat → Prop) (f : FV) : Prop where
 blk : Blk w l 90 ([.map (some b1),.int .i64 f.used,.map (some b2),.int .i64 f.hE,.int .i64 f.hS] ++ rest)
 live : MapRp Rp.sht w S b1 Value.string f.live
 last : MapRp Rp.opl w S b2 (Value.int .i64) f.lastOf
 ne : b1 ≠ b2
 s0 : ¬ S l
 s1 : ¬ S b1
 s2 : ¬ S b2
def T3 (l b1 b2 : Nat) : Nat → Prop := fun k => k = l ∨ k = b1 ∨ k = b2
theorem Blk.ne_map {w : World} {l b : Nat} {t : TypeId} {cs : List Value} {es : Array MapEntry} {clock : Nat} (h : Blk w l t cs) (hb : w.heap[b]? = some (.map es clock)) : l ≠ b := by
 rintro rfl
 unfold Blk at h
 rw [h] at hb
 cases hb
namespace FAt
variable {w w' : World} {l : Nat} {rest : List Value} {b1 b2 : Nat} {S T : Nat → Prop} {f : FV}
theorem l1 (h : FAt w l rest b1 b2 S f) : l ≠ b1 := by
 obtain ⟨_,_,hb⟩ := h.live.block
 exact Blk.ne_map h.blk hb
theorem l2 (h : FAt w l rest b1 b2 S f) : l ≠ b2 := by
 obtain ⟨_,_,hb⟩ := h.last.block
 exact Blk.ne_map h.blk hb
theorem kept (h : FAt w l rest b1 b2 S f) (hk : Kp T w w') (h0 : ¬ T l) (h1 : ¬ T b1) (h2 : ¬ T b2) (hs : ∀ k,S k → k < w.heap.size → ¬ T k) : FAt w' l rest b1 b2 S f :=
 ⟨h.blk.kept hk h0,h.live.kept hk h1 hs,h.last.kept hk h2 hs,h.ne,h.s0,h.s1,h.s2⟩
theorem keptNo (h : FAt w l rest b1 b2 S f) (hk : Kp No w w') : FAt w' l rest b1 b2 S f := h.kept hk (fun x => x) (fun x => x) (fun x => x) (fun _ _ _ x => x)
theorem more (h : FAt w l rest b1 b2 S f) (hs : ∀ k,S k → T k) (h0 : ¬ T l) (h1 : ¬ T b1) (h2 : ¬ T b2) : FAt w l rest b1 b2 T f :=
 ⟨h.blk,h.live.more hs,h.last.more hs,h.ne,h0,h1,h2⟩
theorem reign (h : FAt w l rest b1 b2 S f) (e s : Int) : FAt ((w.setCell ⟨l,3,none⟩ (.int .i64 e)).setCell ⟨l,4,none⟩ (.int .i64 s)) l rest b1 b2 S { f with hE := e,hS := s } := by
 have hk : Kp (· = l) w ((w.setCell ⟨l,3,none⟩ (.int .i64 e)).setCell ⟨l,4,none⟩ (.int .i64 s)) := ((Kp.refl (· = l) w).setCell (p := ⟨l,3,none⟩) (fun _ => rfl) _).setCell (p := ⟨l,4,none⟩) (fun _ => rfl) _
 exact ⟨Blk.set (Blk.set h.blk 3 _) 4 _,h.live.kept hk (fun e => h.l1 e.symm) (fun k hk _ e => h.s0 (e ▸ hk)),h.last.kept hk (fun e => h.l2 e.symm) (fun k hk _ e => h.s0 (e ▸ hk)),h.ne,h.s0,h.s1,h.s2⟩
end FAt
theorem key_name : KeyOk Tryz.prog 9 (κ := ByteArray) Value.string := KeyOk.string Tryz.underlying9
theorem key_cl : KeyOk Tryz.prog 3 (κ := Int) (Value.int .i64) := KeyOk.int Tryz.underlying3
theorem zero_sht (w : World) : (zeroValue 34).run Tryz.prog w = .ok (.agg #[.int .i64 0,.slice none 0 0]) w := by
 go_simp
theorem zero_op (w : World) : (zeroValue 36).run Tryz.prog w = .ok (.agg #[.int .i64 0,.int .i64 0,.int .i64 0,.int .i64 0,.int .i64 0,.int .i64 0,.string ByteArray.empty,.int .i64 0,.slice none 0 0]) w := by
 go_simp
 rfl
theorem FAt.size {w : World} {l : Nat} {rest : List Value} {b1 b2 : Nat} {S : Nat → Prop} {f : FV} (h : FAt w l rest b1 b2 S f) (n : ByteArray) :
 ∃ hv,(Instr.lookup 82 (.map (some b1)) (.string n) false).run Tryz.prog w = .ok (.agg #[.int .i64 (sizeAt n f.live),hv]) w := by
 cases hg : mget n f.live with
 | none =>
   have := (h.live.none_ok (P := Tryz.prog) key_name Tryz.underlying82 hg (zero_sht w)).2
   exact ⟨_,by rw [this];unfold sizeAt;rw [hg];rfl⟩
 | some v =>
   obtain ⟨cs,⟨u,rfl,_⟩,_,hl⟩ := h.live.some_ok (P := Tryz.prog) key_name Tryz.underlying82 hg (zero_sht w)
   exact ⟨u,by rw [hl];unfold sizeAt;rw [hg];rfl⟩
structure TSt (l : Nat) (rest : List Value) (b1 b2 : Nat) (S : Nat → Prop) (base g c : Nat) (ops : List OpL) (x : Nat) (o : OpL) (v : Value) (hE hS : Int) (w : World) (us : Int) (live : Sheets) (last : List (Int × OpL)) : Prop where
 blk : Blk w l 90 ([.map (some b1),.int .i64 us,.map (some b2),.int .i64 hE,.int .i64 hS] ++ rest)
 live : MapRp Rp.sht w S b1 Value.string live
 last : MapRp Rp.opl w S b2 (Value.int .i64) last
 own : Own Rp.opl w S base 36 (.slice (some ⟨g,0,none⟩) ops.length c) ops
 box : Blk w x 36 (o.cells v)
 rd : Rp.str.slice.R w S [v] o.hashes
 n12 : b1 ≠ b2
 n01 : l ≠ b1
 n02 : l ≠ b2
 gl : g ≠ l ∧ g ≠ b1 ∧ g ≠ b2
 xl : l ≠ x ∧ b1 ≠ x ∧ b2 ≠ x
 s0 : ¬ S l
 s1 : ¬ S b1
 s2 : ¬ S b2
namespace TSt
variable {l : Nat} {rest : List Value} {b1 b2 : Nat} {S : Nat → Prop} {base g c : Nat} {ops : List OpL} {x : Nat} {o : OpL} {v : Value} {hE hS : Int} {w w' : World} {us : Int} {live : Sheets} {last : List (Int × OpL)}
theorem used (h : TSt l rest b1 b2 S base g c ops x o v hE hS w us live last) (u : Int) : TSt l rest b1 b2 S base g c ops x o v hE hS (w.setCell ⟨l,1,none⟩ (.int .i64 u)) u live last := by
 have hk : Kp (· = l) w (w.setCell ⟨l,1,none⟩ (.int .i64 u)) := (Kp.refl (· = l) w).setCell (p := ⟨l,1,none⟩) (fun _ => rfl) _
 have hs : ∀ k,S k → k < w.heap.size → ¬ k = l := fun k hk _ e => h.s0 (e ▸ hk)
 exact ⟨Blk.set h.blk 1 _,h.live.kept hk (fun e => h.n01 e.symm) hs,h.last.kept hk (fun e => h.n02 e.symm) hs,h.own.kept hk hs (fun k hk e => by
  have : g = k := by simpa [Value.ownBlock] using hk
  exact h.gl.1 (this.trans e)),h.box.kept hk (fun e => h.xl.1 e.symm),Rp.str.slice.kept h.rd hk hs,h.n12,h.n01,h.n02,h.gl,h.xl,h.s0,h.s1,h.s2⟩
theorem keptNo (h : TSt l rest b1 b2 S base g c ops x o v hE hS w us live last) (hk : Kp No w w') : TSt l rest b1 b2 S base g c ops x o v hE hS w' us live last :=
 ⟨h.blk.kept hk (fun x => x),h.live.keptNo hk,h.last.keptNo hk,h.own.keptNo hk,h.box.kept hk (fun x => x),Rp.str.slice.keptNo h.rd hk,h.n12,h.n01,h.n02,h.gl,h.xl,h.s0,h.s1,h.s2⟩
theorem drew (h : TSt l rest b1 b2 S base g c ops x o v hE hS w us live last) : TSt l rest b1 b2 S base g c ops x o v hE hS w.drew us live last := h.keptNo ((Kp.refl _ _).drew)
theorem setLive (h : TSt l rest b1 b2 S base g c ops x o v hE hS w us live last) {live' : Sheets} (hk : Kp (· = b1) w w') (hm : MapRp Rp.sht w' S b1 Value.string live') : TSt l rest b1 b2 S base g c ops x o v hE hS w' us live' last := by
 have hs : ∀ k,S k → k < w.heap.size → ¬ k = b1 := fun k hk _ e => h.s1 (e ▸ hk)
 exact ⟨h.blk.kept hk h.n01,hm,h.last.kept hk (fun e => h.n12 e.symm) hs,h.own.kept hk hs (fun k hk e => by
  have : g = k := by simpa [Value.ownBlock] using hk
  exact h.gl.2.1 (this.trans e)),h.box.kept hk (fun e => h.xl.2.1 e.symm),Rp.str.slice.kept h.rd hk hs,h.n12,h.n01,h.n02,h.gl,h.xl,h.s0,h.s1,h.s2⟩
theorem setLast (h : TSt l rest b1 b2 S base g c ops x o v hE hS w us live last) {last' : List (Int × OpL)} (hk : Kp (· = b2) w w') (hm : MapRp Rp.opl w' S b2 (Value.int .i64) last') : TSt l rest b1 b2 S base g c ops x o v hE hS w' us live last' := by
 have hs : ∀ k,S k → k < w.heap.size → ¬ k = b2 := fun k hk _ e => h.s2 (e ▸ hk)
 exact ⟨h.blk.kept hk h.n02,h.live.kept hk h.n12 hs,hm,h.own.kept hk hs (fun k hk e => by
  have : g = k := by simpa [Value.ownBlock] using hk
  exact h.gl.2.2 (this.trans e)),h.box.kept hk (fun e => h.xl.2.2 e.symm),Rp.str.slice.kept h.rd hk hs,h.n12,h.n01,h.n02,h.gl,h.xl,h.s0,h.s1,h.s2⟩
theorem fat (h : TSt l rest b1 b2 S base g c ops x o v hE hS w us live last) (hu : us = sumS live) : FAt w l rest b1 b2 S ⟨live,last,hE,hS⟩ :=
 ⟨by subst hu;exact h.blk,h.live,h.last,h.n12,h.s0,h.s1,h.s2⟩
theorem delete (h : TSt l rest b1 b2 S base g c ops x o v hE hS w us live last) (n : ByteArray) :
 ∃ w',(Builtin.delete_ #[82,9] 0 #[.map (some b1),.string n]).run Tryz.prog w = .ok (.tuple #[]) w' ∧ TSt l rest b1 b2 S base g c ops x o v hE hS w' us (mdel n live) last ∧ Kp (· = b1) w w' := by
 obtain ⟨w',h1,h2,h3⟩ := h.live.delete (P := Tryz.prog) key_name Tryz.underlying82 h.s1 n 9 0
 exact ⟨w',h1,h.setLive h3 h2,h3⟩
theorem putLive (h : TSt l rest b1 b2 S base g c ops x o v hE hS w us live last) (hn : o.nums) (n : ByteArray) :
 ∃ w',(Instr.mapUpdate 82 (.map (some b1)) (.string n) (.agg #[.int .i64 o.size,v])).run Tryz.prog w = .ok () w' ∧ TSt l rest b1 b2 S base g c ops x o v hE hS w' us (mput n (o.size,o.hashes) live) last ∧ Kp (· = b1) w w' := by
 obtain ⟨w',h1,h2,h3⟩ := h.live.update (P := Tryz.prog) key_name Tryz.underlying82 h.s1 n (cs := [.int .i64 o.size,v]) (a := (o.size,o.hashes)) ⟨v,rfl,hn.2.2.2.2.2.2.2,h.rd⟩
 exact ⟨w',h1,h.setLive h3 h2,h3⟩
theorem putLast (h : TSt l rest b1 b2 S base g c ops x o v hE hS w us live last) (hn : o.nums) :
 ∃ w',(Instr.mapUpdate 83 (.map (some b2)) (.int .i64 o.client) (.agg (o.cells v).toArray)).run Tryz.prog w = .ok () w' ∧ TSt l rest b1 b2 S base g c ops x o v hE hS w' us live (mput o.client o last) ∧ Kp (· = b2) w w' := by
 obtain ⟨w',h1,h2,h3⟩ := h.last.update (P := Tryz.prog) key_cl Tryz.underlying83 h.s2 o.client (cs := o.cells v) (a := o) ⟨v,rfl,hn,h.rd⟩
 exact ⟨w',h1,h.setLast h3 h2,h3⟩
end TSt
end
section
open Go.RowKit Go.ChangeShapes Go.WideShapes Go.ChangeAt
set_option maxRecDepth 100000 in
theorem l_failed (x : Int) (w : World) : Calls Tryz.prog 32 #[.int .i64 x] w fun e w' => e = .returned (.agg #[.int .i64 x,.int .i64 0,.int .i64 0]) ∧ Kp No w w' := by
 go_enter Tryz.func32,Tryz.ntmps32
 go_wp2_with fail
 have hb : Blk (w.alloc (.cells #[.int .i64 x,.int .i64 0,.int .i64 0] 44)) w.heap.size 44 [.int .i64 x,.int .i64 0,.int .i64 0] := Blk.new w _ _
 exact bodyPost_ret (results_cell_row rfl _ _ w.heap.size _ _ _ _ rfl hb Tryz.underlying44 rfl (by kernel_rfl)) rfl ⟨rfl,(Kp.refl _ _).alloc _⟩
set_option maxRecDepth 100000 in
theorem l_spot (o : OpL) (v : Value) (w : World) : Calls Tryz.prog 94 #[opV o v] w fun e w' => e = .returned (.agg #[.int .i64 o.n,.int .i64 o.epoch]) ∧ Kp No w w' := by
 unfold opV
 obtain ⟨n,ep,k,st,cl,sq,nm,sz,hs⟩ := o
 simp only
 go_enter Tryz.func94,Tryz.ntmps94
 go_wp2_with fail
 obtain ⟨w1,hw1⟩ : ∃ w1,w.alloc (.cells #[.int .i64 n,.int .i64 ep,.int .i64 k,.int .i64 st,.int .i64 cl,.int .i64 sq,.string nm,.int .i64 sz,v] 36) = w1 := ⟨_,rfl⟩
 have hk : Kp No w w1 := by rw [← hw1];exact (Kp.refl _ _).alloc _
 have hsz : w.heap.size + 1 = w1.heap.size := by rw [← hw1];simp
 rw [hw1,hsz]
 have hb : Blk (w1.alloc (.cells #[.int .i64 n,.int .i64 ep] 42)) w1.heap.size 42 [.int .i64 n,.int .i64 ep] := Blk.new w1 _ _
 exact bodyPost_ret (results_cell_row rfl _ _ w1.heap.size _ _ _ _ rfl hb Tryz.underlying42 rfl (by kernel_rfl)) rfl ⟨rfl,hk.alloc _⟩
end
section
open Go.RowKit Go.ChangeShapes Go.WideShapes Go.ChangeAt
theorem Rp.none_ {α : Type} (E : Rp α) (w : World) (S : Nat → Prop) : E.slice.R w S [.slice none 0 0] [] := ⟨none,0,rfl,Nat.le_refl _,by simp,fun h => absurd h (by simp)⟩
theorem wpList_litW {P : Program} {ops : Array Oper} {rest : List Oper} {o : Oper} {a : Act} {w w' : World} {Q : Exit → Act → World → Prop} (hw : Region.wanted o (yielded ops a.tmps) = true) (t : TypeId) (x : Operand) (ho : o.op = .buildSlice t 1 #[(0,x)]) (v u : Value) (he : a.eval x = v)
 (hr : (Instr.buildSlice t 1 #[(0,v)]).run P w = .ok u w')
 (h : wpList P ops Q rest (a.put o.dst u) w') : wpList P ops Q (o :: rest) a w := by
 refine wpList_step fun K hK => ?_
 rw [if_pos hw]
 have e : (#[(0,x)] : Array (Nat × Operand)).map (fun (i,x) => (i,a.eval x)) = #[(0,v)] := by simp [he]
 unfold Oper.wp execOp
 simp only [ho,Sem.run_bind,e,hr,Result.andThen_ok]
 exact hK _ _ h
theorem run_lit_opl (w : World) (o : OpL) (v : Value) : (Instr.buildSlice 37 1 #[(0,.agg (o.cells v).toArray)]).run Tryz.prog w = .ok (.slice (some ⟨w.heap.size,0,none⟩) 1 1) (w.alloc (.cells (o.cells v).toArray 36)) := by
 unfold OpL.cells
 go_simp
structure Upd (F : Nat → Prop) (w w' : World) (F' : Nat → Prop) : Prop where
 kp : Kp F w w'
 foot : ∀ k,F' k → F k ∨ w.heap.size ≤ k
theorem Upd.refl (F : Nat → Prop) (w : World) : Upd F w w F := ⟨Kp.refl _ _,fun _ h => .inl h⟩
theorem Upd.trans {F F' F'' : Nat → Prop} {a b c : World} (h : Upd F a b F') (k : Upd F' b c F'') : Upd F a c F'' :=
 ⟨h.kp.trans k.kp (fun i hi hf => by rcases h.foot i hf with h | h;exact h;omega),fun i hi => by
  rcases k.foot i hi with h1 | h1
  · exact h.foot i h1
  · exact .inr (Nat.le_trans h.kp.size h1)⟩
end
section
open Go.RowKit Go.ChangeShapes Go.WideShapes Go.ChangeAt
def NewX (w0 w : World) (v : Value) : Nat → Prop := fun k => w0.heap.size ≤ k ∧ k < w.heap.size ∧ v.ownBlock ≠ some k
theorem opl_lit (w : World) (o : OpL) (hv : Value) (S : Nat → Prop) (hS : S w.heap.size) (hn : o.nums) (hr : Rp.str.slice.R w S [hv] o.hashes) :
 Rp.opl.slice.R (w.alloc (.cells (o.cells hv).toArray 36)) S [.slice (some ⟨w.heap.size,0,none⟩) 1 1] [o] := by
 refine ⟨_,_,rfl,Nat.le_refl _,by unfold maxLen;omega,fun _ => ⟨_,rfl,hS,fun i a hi => ?_⟩⟩
 obtain rfl : i = 0 := by have := (List.getElem?_eq_some_iff.1 hi).1;simp at this;exact this
 injection hi with hi
 subst hi
 refine ⟨o.cells hv,fun j u hu => ?_,hv,rfl,hn,Rp.str.slice.keptNo hr ((Kp.refl _ _).alloc _)⟩
 rw [Addr.add_lit,Addr.add_lit]
 have hb : Blk (w.alloc (.cells (o.cells hv).toArray 36)) w.heap.size 36 (o.cells hv) := Blk.new w (o.cells hv) _
 have h2 := hb.cell hu
 simpa using h2
theorem opl_litF (w : World) (o : OpL) (hv : Value) (S : Nat → Prop) (hS : S w.heap.size) (hn : o.nums) (hr : Rp.str.slice.R w S [hv] o.hashes) (hf : Soft w S hv o.hashes.length) :
 Rp.oplF.slice.R (w.alloc (.cells (o.cells hv).toArray 36)) S [.slice (some ⟨w.heap.size,0,none⟩) 1 1] [o] := by
 refine ⟨_,_,rfl,Nat.le_refl _,by unfold maxLen;omega,fun _ => ⟨_,rfl,hS,fun i a hi => ?_⟩⟩
 obtain rfl : i = 0 := by have := (List.getElem?_eq_some_iff.1 hi).1;simp at this;exact this
 injection hi with hi
 subst hi
 refine ⟨o.cells hv,fun j u hu => ?_,hv,rfl,hn,Rp.str.slice.keptNo hr ((Kp.refl _ _).alloc _),hf.kept (T := No) ((Kp.refl _ _).alloc _) (fun _ _ _ x => x)⟩
 rw [Addr.add_lit,Addr.add_lit]
 have hb : Blk (w.alloc (.cells (o.cells hv).toArray 36)) w.heap.size 36 (o.cells hv) := Blk.new w (o.cells hv) _
 have h2 := hb.cell hu
 simpa using h2
set_option maxRecDepth 100000 in
set_option maxHeartbeats 2000000 in
theorem r_ownopsF (l : List OpL) (A : Option Addr) (c : Nat) (w : World) (S : Nat → Prop) (hl : Rp.opl.slice.R w S [.slice A l.length c] l) (hll : l.length ≤ 1000000) (hsm : ∀ o ∈ l,o.hashes.length ≤ 1000000) :
 Calls Tryz.prog 31 #[.slice A l.length c] w fun e w' => ∃ A' c',e = .returned (.slice A' l.length c') ∧ Own Rp.oplF w' (NewX w w' (.slice A' l.length c')) w.heap.size 36 (.slice A' l.length c') l ∧ Kp No w w' := by
 have HL := Lib.hid hl
 have HSM := Lib.hid hsm
 clear hl hsm
 go_enter Tryz.func31,Tryz.ntmps31
 go_wp2_with fail
 go_loopw [3,4] (fun ov iv wr => ∃ i : Nat,i ≤ l.length ∧ iv = .int .i64 (i : Int) ∧ Hid (Own Rp.oplF wr (NewX w wr ov) w.heap.size 36 ov (l.take i)) ∧ Hid (Kp No w wr)) (fun _ iv _ => l.length - (intOf iv).toNat)
 case atStart => exact ⟨0,Nat.zero_le _,rfl,Lib.hid (Own.nil _ _ _ _ _),Lib.hid (Kp.refl _ _)⟩
 case round =>
  obtain ⟨i,hi,rfl,HO,HK⟩ := hrel
  obtain ⟨Av,cv,rfl⟩ := HO.out.shape
  have hDi : (l.take i).length = i := by rw [List.length_take];omega
  by_cases hlt : i < l.length
  · have hli : (i : Int) < (l.length : Int) := by omega
    obtain ⟨o,ho⟩ : ∃ o,l[i]? = some o := ⟨_,List.getElem?_eq_getElem hlt⟩
    have hst : l.take (i + 1) = l.take i ++ [o] := by
     obtain ⟨e1,e2⟩ := List.getElem?_eq_some_iff.1 ho
     rw [List.take_succ_eq_append_getElem e1,e2]
    have hos := HSM.out o (List.mem_of_getElem? ho)
    obtain ⟨ad,A',c',rfl,_,hcell,hnum,hrd⟩ := Rp.at_opl (Rp.opl.slice.keptNo HL.out HK.out) ho
    obtain ⟨z0,z1,z2,z3,z4,z5,z6,z7,z8⟩ := opl_cells hcell
    have HNUM := Lib.hid hnum
    have HRD := Lib.hid (Rp.str.slice.keptNo hrd ((Kp.refl No wr).alloc (.cells #[.int .i64 o.n,.int .i64 o.epoch,.int .i64 o.kind,.int .i64 o.site,.int .i64 o.client,.int .i64 o.seq,.string o.name,.int .i64 o.size,.slice A' o.hashes.length c'] 36)))
    have HBO := Lib.hid (Blk.new wr [.int .i64 o.n,.int .i64 o.epoch,.int .i64 o.kind,.int .i64 o.site,.int .i64 o.client,.int .i64 o.seq,.string o.name,.int .i64 o.size,.slice A' o.hashes.length c'] 36)
    have hsz : (wr.alloc (.cells #[.int .i64 o.n,.int .i64 o.epoch,.int .i64 o.kind,.int .i64 o.site,.int .i64 o.client,.int .i64 o.seq,.string o.name,.int .i64 o.size,.slice A' o.hashes.length c'] 36)).heap.size = wr.heap.size + 1 := by simp
    have HGE := Lib.hid (Nat.le_of_eq hsz)
    have HNW : Hid (((wr.alloc (.cells #[.int .i64 o.n,.int .i64 o.epoch,.int .i64 o.kind,.int .i64 o.site,.int .i64 o.client,.int .i64 o.seq,.string o.name,.int .i64 o.size,.slice A' o.hashes.length c'] 36)).alloc (.cells #[] 9)).heap[wr.heap.size + 1]? = some (.cells #[] 9 (0,0))) := Lib.hid (by rw [← hsz];exact heap_alloc_new _ _)
    clear hsz
    obtain ⟨E,hE⟩ : ∃ E,l.take i = E := ⟨_,rfl⟩
    rw [hE] at HO hst hDi
    rw [hE]
    have HST := Lib.hid hst
    have hEl : E.length ≤ 1000000 := by omega
    have HDI := Lib.hid hDi
    clear hDi
    clear ho hst hcell hnum hrd hE
    go_wp2_with (at_builtin;first
     | (refine wpList_copy_at (E := Rp.str) rfl (wr.alloc (.cells #[.int .i64 o.n,.int .i64 o.epoch,.int .i64 o.kind,.int .i64 o.site,.int .i64 o.client,.int .i64 o.seq,.string o.name,.int .i64 o.size,.slice A' o.hashes.length c'] 36)) _ (wr.heap.size + 1) (.tmp 16) (.tmp 19) 32 rfl 9 16 el_strL rfl HNW.out HGE.out ((Kp.refl _ _).alloc _) A' c' S o.hashes rfl HRD.out Rp.str_one (by omega) ?_
        intro A5 c5 w5 hown5 hk5
        have hb5 := Blk.kept HBO.out hk5 (fun x => x)
        have y0 : w5.cell? ⟨wr.heap.size,0,none⟩ = some _ := Blk.cell hb5 rfl
        have y1 : w5.cell? ⟨wr.heap.size,1,none⟩ = some _ := Blk.cell hb5 rfl
        have y2 : w5.cell? ⟨wr.heap.size,2,none⟩ = some _ := Blk.cell hb5 rfl
        have y3 : w5.cell? ⟨wr.heap.size,3,none⟩ = some _ := Blk.cell hb5 rfl
        have y4 : w5.cell? ⟨wr.heap.size,4,none⟩ = some _ := Blk.cell hb5 rfl
        have y5 : w5.cell? ⟨wr.heap.size,5,none⟩ = some _ := Blk.cell hb5 rfl
        have y6 : w5.cell? ⟨wr.heap.size,6,none⟩ = some _ := Blk.cell hb5 rfl
        have y7 : w5.cell? ⟨wr.heap.size,7,none⟩ = some _ := Blk.cell hb5 rfl
        have y8 : w5.cell? ⟨wr.heap.size,8,none⟩ = some _ := Blk.cell hb5 rfl
        have g8 := Blk.fr hb5 8
        have hb6 := Blk.set hb5 8 (.slice A5 o.hashes.length c5)
        have hk6 : Kp No wr (w5.setCell ⟨wr.heap.size,8,none⟩ (.slice A5 o.hashes.length c5)) := (((Kp.refl No wr).alloc _).trans' hk5).trans ((Kp.refl (· = wr.heap.size) w5).setCell (p := ⟨wr.heap.size,8,none⟩) (fun _ => rfl) _) (fun k hk e => absurd hk (by omega))
        have hsz6 : (w5.setCell ⟨wr.heap.size,8,none⟩ (.slice A5 o.hashes.length c5)).heap.size = w5.heap.size := by simp
        have hw5 : wr.heap.size < w5.heap.size := Blk.lt hb5
        have hr6 : Rp.str.slice.R (w5.setCell ⟨wr.heap.size,8,none⟩ (.slice A5 o.hashes.length c5)) (fun k => wr.heap.size < k ∧ k < w5.heap.size) [.slice A5 o.hashes.length c5] o.hashes := by
         have h := (hown5.str_any (fun k => wr.heap.size < k ∧ k < w5.heap.size)).read (fun k hk => ⟨by have := (hown5.lt k hk).1;omega,(hown5.lt k hk).2⟩)
         exact Rp.str.slice.kept h ((Kp.refl (· = wr.heap.size) w5).setCell (p := ⟨wr.heap.size,8,none⟩) (fun _ => rfl) _) (fun k hk _ e => by have := hk.1;omega)
        have hf5 : Soft w5 (fun k => wr.heap.size < k ∧ k < w5.heap.size) (.slice A5 o.hashes.length c5) o.hashes.length := by
         rcases hown5.soft with h | ⟨g,c,cs,h1,h2,h3,h4⟩
         · exact .inl h
         · exact .inr ⟨g,c,cs,h1,⟨by omega,(Array.getElem?_eq_some_iff.1 h3).1⟩,h3,h4⟩
        have hf6 := hf5.kept ((Kp.refl (· = wr.heap.size) w5).setCell (p := ⟨wr.heap.size,8,none⟩) (fun _ => rfl) (.slice A5 o.hashes.length c5)) (fun k hk _ e => by have := hk.1;omega)
        have hsrc := opl_litF (w5.setCell ⟨wr.heap.size,8,none⟩ (.slice A5 o.hashes.length c5)) o (.slice A5 o.hashes.length c5) (fun k => w.heap.size ≤ k ∧ k < w5.heap.size + 1 ∧ (Value.slice Av E.length cv).ownBlock ≠ some k) (by
         rw [hsz6]
         refine ⟨by have := HK.out.size;omega,by omega,fun h => ?_⟩
         have := (HO.out.lt _ h).2
         omega) HNUM.out (Rp.str.slice.more hr6 (fun k hk => ⟨by have := HK.out.size;omega,by omega,fun h => by have := (HO.out.lt _ h).2;omega⟩)) (hf6.keep (fun k hk => ⟨by have := HK.out.size;omega,by omega,fun h => by have := (HO.out.lt _ h).2;omega⟩) (fun _ _ => rfl))
        rw [hsz6] at hsrc
        have HSRC := Lib.hid hsrc
        have HOW : Hid (Own Rp.oplF ((w5.setCell ⟨wr.heap.size,8,none⟩ (.slice A5 o.hashes.length c5)).alloc (.cells (o.cells (.slice A5 o.hashes.length c5)).toArray 36)) (fun k => w.heap.size ≤ k ∧ k < w5.heap.size + 1 ∧ (Value.slice Av E.length cv).ownBlock ≠ some k) w.heap.size 36 (.slice Av E.length cv) E) := Lib.hid ((HO.out.keptNo (hk6.alloc _)).mono (Nat.le_refl _) (fun k hk => ⟨hk.1,by have := hk.2.1;omega,hk.2.2⟩))
        have HK6 := Lib.hid (hk6.alloc (.cells (o.cells (.slice A5 o.hashes.length c5)).toArray 36))
        have HSZ7 : Hid (((w5.setCell ⟨wr.heap.size,8,none⟩ (.slice A5 o.hashes.length c5)).alloc (.cells (o.cells (.slice A5 o.hashes.length c5)).toArray 36)).heap.size = w5.heap.size + 1) := Lib.hid (by simp)
        have HLTO := Lib.hid HO.out.lt
        clear hown5 hk5 hb5 hb6 hk6 hsz6 hr6 hf5 hf6 hsrc z0 z1 z2 z3 z4 z5 z6 z7 z8)
     | (refine wpList_append_rp (E := Rp.oplF) rfl _ (.tmp 23) (.tmp 25) 37 rfl w.heap.size 36 96 el_op (fun k => w.heap.size ≤ k ∧ k < w5.heap.size + 1 ∧ (Value.slice Av E.length cv).ownBlock ≠ some k) (.slice Av E.length cv) E rfl HOW.out (some ⟨w5.heap.size,0,none⟩) 1 (fun k => w.heap.size ≤ k ∧ k < w5.heap.size + 1 ∧ (Value.slice Av E.length cv).ownBlock ≠ some k) [o] rfl HSRC.out Rp.oplF_one ?hcap ?hby ?hbase (fun _ h => h) (fun k hk h => h.2.2 hk) ?_
        case hcap => simp [maxLen];omega
        case hby => simp;omega
        case hbase => have h1 := HK.out.size;have h2 := HK6.out.size;exact Nat.le_trans h1 h2
        intro v9 w9 hown9 hg9 hbl9
        obtain ⟨A9,c9,rfl⟩ := hown9.shape
        have hk9 : Kp No w w9 := (HK.out.trans' HK6.out).grown hg9 (fun k hk hlt => by have := (HLTO.out k hk).1;omega)
        have hs9 : w5.heap.size + 1 ≤ w9.heap.size := Nat.le_trans (Nat.le_of_eq HSZ7.out.symm) ((Kp.refl (fun _ => True) _).grown hg9 (fun _ _ _ => trivial)).size
        have hbl9 : (Value.slice A9 (E ++ [o]).length c9).ownBlock = (Value.slice Av E.length cv).ownBlock ∨ (Value.slice A9 (E ++ [o]).length c9).ownBlock = some (w5.heap.size + 1) := hbl9.imp id (fun h => h.trans (congrArg some HSZ7.out))
        have HO9 : Hid (Own Rp.oplF w9 (NewX w w9 (.slice A9 (E ++ [o]).length c9)) w.heap.size 36 (.slice A9 (E ++ [o]).length c9) (E ++ [o])) := Lib.hid (hown9.mono (Nat.le_refl _) (fun k hk => ⟨hk.1,by have := hk.2.1;omega,fun h => by
         rcases hbl9 with h2 | h2
         · exact hk.2.2 (h2 ▸ h)
         · rw [h2] at h;injection h with h;have := hk.2.1;omega⟩))
        have HK9 := Lib.hid hk9
        clear hown9 hg9 hbl9 hk9 hs9 HOW HSRC HK6 y0 y1 y2 y3 y4 y5 y6 y7 y8 g8))
    have hle : (E ++ [o]).length = E.length + 1 := by simp
    rw [hle,← HST.out] at HO9
    go_roundw
    case rel => exact ⟨i + 1,by omega,by go_num,HO9,HK9⟩
    case measure => simp [intOf];omega
  · obtain rfl : i = l.length := by omega
    have hall : l.take l.length = l := List.take_length
    rw [hall] at HO
    have HO2 := HO
    have hle : (l.take l.length).length = l.length := by rw [hall]
    clear hDi
    go_wp2_with fail
    go_ret
    refine ⟨_,_,?_,HO2.out,HK.out⟩
    rw [hle]
    rfl
theorem r_ownops (l : List OpL) (A : Option Addr) (c : Nat) (w : World) (S : Nat → Prop) (hl : Rp.opl.slice.R w S [.slice A l.length c] l) (hll : l.length ≤ 1000000) (hsm : ∀ o ∈ l,o.hashes.length ≤ 1000000) :
 Calls Tryz.prog 31 #[.slice A l.length c] w fun e w' => ∃ A' c',e = .returned (.slice A' l.length c') ∧ Own Rp.opl w' (NewX w w' (.slice A' l.length c')) w.heap.size 36 (.slice A' l.length c') l ∧ Kp No w w' :=
 (r_ownopsF l A c w S hl hll hsm).mono fun _ _ ⟨A',c',h1,h2,h3⟩ => ⟨A',c',h1,h2.opl_of,h3⟩
end
end Go.Proofs.YtjlbacfedfkilaaGreat
