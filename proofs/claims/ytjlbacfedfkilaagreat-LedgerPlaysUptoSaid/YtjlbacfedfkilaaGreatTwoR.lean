/-
  A ledger and the document's that has the same, side by side; rows whose cells turn.
-/
import Derived.Test.YtjlbacfedfkilaaGreatRlL
import Derived.Test.YtjlbacfedfkilaaGreatGO
namespace Go.Proofs.YtjlbacfedfkilaaGreat
open Go.RowKit Go.ChangeShapes Go.WideShapes Go.ChangeAt
structure Both (w0 w : World) (l r : Nat) (L : LV) : Prop where
 ex : ∃ F FR SR,LAt w l L F ∧ RLAt w r L FR SR ∧ (∀ k,F k ∨ FR k ∨ SR k → w0.heap.size ≤ k) ∧ ∀ k,F k → ¬ (FR k ∨ SR k)
 kp : Kp No w0 w
theorem Both.keptNo {w0 w w' : World} {l r : Nat} {L : LV} (h : Both w0 w l r L) (hk : Kp No w w') : Both w0 w' l r L := by
 obtain ⟨F,FR,SR,h1,h2,h3,h4⟩ := h.ex
 exact ⟨⟨F,FR,SR,h1.keptNo hk,h2.keptNo hk,h3,h4⟩,h.kp.trans' hk⟩
theorem Both.kept {w0 w w' : World} {l r : Nat} {L : LV} {a b : Nat} (h : ∃ F FR SR,LAt w l L F ∧ RLAt w r L FR SR ∧ (∀ k,F k ∨ FR k ∨ SR k → w0.heap.size ≤ k ∧ (k < a ∨ b ≤ k)) ∧ ∀ k,F k → ¬ (FR k ∨ SR k)) (hk0 : Kp No w0 w) (ha : w0.heap.size ≤ a) (hk : Kp (fun k => a ≤ k ∧ k < b) w w') : Both w0 w' l r L := by
 obtain ⟨F,FR,SR,h1,h2,h3,h4⟩ := h
 refine ⟨⟨F,FR,SR,h1.kept hk (fun k hF hT => ?_),h2.kept hk (fun k hF hT => ?_),fun k hF => (h3 k hF).1,h4⟩,hk0.trans hk (fun i hi hT => ?_)⟩
 · have := (h3 k (.inl hF)).2
   have h5 : a ≤ k ∧ k < b := hT
   omega
 · have := (h3 k (.inr hF)).2
   have h5 : a ≤ k ∧ k < b := hT
   omega
 · have h5 : a ≤ i ∧ i < b := hT
   omega
theorem LAt.ltF {w : World} {l : Nat} {L : LV} {F : Nat → Prop} (h : LAt w l L F) : ∀ k,F k → k < w.heap.size := fun k hk => h.lt k hk
theorem Both.step {w0 wr w5 w6 w7 : World} {l r : Nat} {L L' : LV} {F FR SR F' FR' SR' : Nat → Prop} (hl : LAt wr l L F) (hr : RLAt wr r L FR SR) (hge : ∀ k,F k ∨ FR k ∨ SR k → w0.heap.size ≤ k) (hap : ∀ k,F k → ¬ (FR k ∨ SR k)) (hk0 : Kp No w0 wr) (hk : Kp No wr w5)
 (hl6 : LAt w6 l L' F') (hu : Upd F w5 w6 F') (hr7 : RLAt w7 r L' FR' SR') (hus : UpdS FR SR w6 w7 FR' SR') :
 (∃ F FR SR,LAt w7 l L' F ∧ RLAt w7 r L' FR SR ∧ (∀ k,F k ∨ FR k ∨ SR k → w0.heap.size ≤ k ∧ (k < wr.heap.size ∨ w5.heap.size ≤ k)) ∧ ∀ k,F k → ¬ (FR k ∨ SR k)) ∧ Kp No w0 w7 := by
 have h0 := hk0.size
 have h1 := hk.size
 have h2 := hu.kp.size
 have hlF := hl.ltF
 have hlR : ∀ k,FR k ∨ SR k → k < wr.heap.size := fun k h => hr.lt h
 have hF' : ∀ k,F' k → F k ∨ w5.heap.size ≤ k := hu.foot
 have hl6' := hl6.ltF
 refine ⟨⟨F',FR',SR',hl6.kept hus.kp (fun k hk hT => ?_),hr7,fun k hk => ?_,fun k hk hR => ?_⟩,((hk0.trans' hk).trans hu.kp (fun i hi hF => ?_)).trans hus.kp (fun i hi hF => ?_)⟩
 · rcases hF' k hk with h | h
   · exact hap k h (.inl hT)
   · have := hlR k (.inl hT);omega
 · rcases hk with hk | hk | hk
   · rcases hF' k hk with h | h
     · exact ⟨hge k (.inl h),.inl (hlF k h)⟩
     · exact ⟨by omega,.inr h⟩
   · rcases hus.foot k hk with h | h
     · exact ⟨hge k (.inr (.inl h)),.inl (hlR k (.inl h))⟩
     · exact ⟨by omega,.inr (by omega)⟩
   · rcases hus.sfoot k hk with (h | h) | h
     · exact ⟨hge k (.inr (.inr h)),.inl (hlR k (.inr h))⟩
     · exact ⟨hge k (.inr (.inl h)),.inl (hlR k (.inl h))⟩
     · exact ⟨by omega,.inr (by omega)⟩
 · have h6 := hl6' k hk
   have hold : FR k ∨ SR k := by
    rcases hR with hR | hR
    · rcases hus.foot k hR with h | h
      · exact .inl h
      · omega
    · rcases hus.sfoot k hR with (h | h) | h
      · exact .inr h
      · exact .inl h
      · omega
   rcases hF' k hk with h | h
   · exact hap k h hold
   · have := hlR k hold;omega
 · have := hge i (.inl hF);omega
 · have := hge i (.inr (.inl hF));omega
def Turns (w : World) (g m : Nat) : Prop := ∃ cs,Blk w g 36 cs ∧ cs.length = m
theorem Turns.set {w : World} {g m : Nat} (h : Turns w g m) (i : Nat) (u : Value) : Turns (w.setCell ⟨g,i,none⟩ u) g m := by
 obtain ⟨cs,h1,h2⟩ := h
 exact ⟨_,Blk.set h1 i u,by rw [List.length_set];exact h2⟩
theorem Turns.at_ {w : World} {g m : Nat} (h : Turns w g m) {i : Nat} (hi : i < m) : ∃ u,w.cell? ⟨g,i,none⟩ = some u ∧ w.frozen? ⟨g,i,none⟩ = false := by
 obtain ⟨cs,h1,h2⟩ := h
 exact ⟨_,Blk.cell h1 (List.getElem?_eq_getElem (by omega)),Blk.fr h1 i⟩
theorem Own.turns {w : World} {S : Nat → Prop} {b : Nat} {A : Option Addr} {c : Nat} {l : List OpL} (h : Own Rp.oplF w S b 36 (.slice A l.length c) l) (h0 : 0 < l.length) : ∃ g m,A = some ⟨g,0,none⟩ ∧ b ≤ g ∧ g < w.heap.size ∧ Turns w g m ∧ l.length * 9 ≤ m := by
 obtain ⟨xs,⟨_,h1⟩,_⟩ := h
 rcases h1 with ⟨_,h1⟩ | ⟨g,cap,cur,he,hb,hg,hn,_,hc,_⟩
 · omega
 · injection he with he _ he2
   subst he
   have hc2 : cur.size = cap * 9 := hc
   refine ⟨g,cap * 9,rfl,hb,(Array.getElem?_eq_some_iff.1 hg).1,⟨cur.toList,by unfold Blk;rw [hg],by rw [Array.length_toList];exact hc2⟩,Nat.mul_le_mul_right 9 hn⟩
theorem Soft.at_ {w : World} {S : Nat → Prop} {v : Value} {n : Nat} (h : Soft w S v n) (h0 : 0 < n) : ∃ g c,v = .slice (some ⟨g,0,none⟩) n c ∧ S g ∧ g < w.heap.size ∧ ∀ i,i < n → ∃ u,w.cell? ⟨g,i,none⟩ = some u ∧ w.frozen? ⟨g,i,none⟩ = false := by
 rcases h with h | ⟨g,c,cs,h1,h2,h3,h4⟩
 · omega
 · have hb : Blk w g 9 cs.toList := by unfold Blk;rw [h3]
   exact ⟨g,c,h1,h2,(Array.getElem?_eq_some_iff.1 h3).1,fun i hi => ⟨_,Blk.cell hb (List.getElem?_eq_getElem (by rw [Array.length_toList];omega)),Blk.fr hb i⟩⟩
theorem Soft.set {w : World} {S S' : Nat → Prop} {v v' : Value} {n n' g c i : Nat} (h : Soft w S v n) (h' : Soft w S' v' n') (hv : v' = .slice (some ⟨g,0,none⟩) n' c) (h0 : 0 < n') (u : Value) : Soft (w.setCell ⟨g,i,none⟩ u) S v n := by
 rcases h' with h' | ⟨g',c',cs',e1,e2,e3,e4⟩
 · omega
 rw [hv] at e1
 injection e1 with e1 _ _
 injection e1 with e1
 injection e1 with e1
 subst e1
 have hb : Blk w g 9 cs'.toList := by unfold Blk;rw [e3]
 have hb2 := Blk.set hb i u
 rcases h with h | ⟨g2,c2,cs,f1,f2,f3,f4⟩
 · exact .inl h
 · by_cases hg : g2 = g
   · subst hg
     rw [e3] at f3
     injection f3 with f3
     injection f3 with f3 _ _
     subst f3
     exact .inr ⟨g2,c2,(cs'.toList.set i u).toArray,f1,f2,hb2,by simpa using f4⟩
   · have hlt := (Array.getElem?_eq_some_iff.1 f3).1
     exact .inr ⟨g2,c2,cs,f1,f2,(((Kp.refl (· = g) w).setCell (p := ⟨g,i,none⟩) (fun _ => rfl) u).block g2 hlt hg).trans f3,f4⟩
theorem Soft.bnd {w : World} {S : Nat → Prop} {v : Value} {n : Nat} (h : Soft w S v n) : Soft w (fun k => S k ∧ k < w.heap.size) v n := by
 rcases h with h | ⟨g,c,cs,h1,h2,h3,h4⟩
 · exact .inl h
 · exact .inr ⟨g,c,cs,h1,⟨h2,(Array.getElem?_eq_some_iff.1 h3).1⟩,h3,h4⟩
theorem Soft.ne_blk {w : World} {S : Nat → Prop} {v : Value} {n g c k : Nat} {T : TypeId} {vs : List Value} (h : Soft w S v n) (hv : v = .slice (some ⟨g,0,none⟩) n c) (h0 : 0 < n) (hb : Blk w k T vs) (hT : T ≠ 9) : ¬ k = g := by
 rintro rfl
 rcases h with h | ⟨g',c',cs,e1,_,e3,_⟩
 · omega
 · rw [hv] at e1
   injection e1 with e1 _ _
   injection e1 with e1
   injection e1 with e1
   subst e1
   unfold Blk at hb
   rw [hb] at e3
   injection e3 with e3
   injection e3 with _ e3
   exact hT e3
theorem Soft.turned {w : World} {S : Nat → Prop} {v : Value} {n g m : Nat} (h : Soft w S v n) (ht : Turns w g m) (i : Nat) (u : Value) : Soft (w.setCell ⟨g,i,none⟩ u) S v n := by
 obtain ⟨vs,hb,_⟩ := ht
 rcases h with h | ⟨g',c',cs,e1,e2,e3,e4⟩
 · exact .inl h
 · have hne : g' ≠ g := by
    rintro rfl
    unfold Blk at hb
    rw [hb] at e3
    injection e3 with e3
    injection e3 with _ e3
    exact absurd e3 (by decide)
   have hlt := (Array.getElem?_eq_some_iff.1 e3).1
   exact .inr ⟨g',c',cs,e1,e2,(((Kp.refl (· = g) w).setCell (p := ⟨g,i,none⟩) (fun _ => rfl) u).block g' hlt hne).trans e3,e4⟩
theorem Turns.kept {w w' : World} {g m : Nat} {T : Nat → Prop} (h : Turns w g m) (hk : Kp T w w') (hg : ¬ T g) : Turns w' g m := by
 obtain ⟨cs,h1,h2⟩ := h
 exact ⟨cs,h1.kept hk hg,h2⟩
def RowF (w : World) (b g : Nat) (O : List OpL) : Prop := (∃ cs,w.heap[g]? = some (.cells cs 36 (0,0))) ∧ ∀ (j : Nat) o,O[j]? = some o → ∃ A' c',(∀ (q : Nat) u,(o.cells (.slice A' o.hashes.length c'))[q]? = some u → w.cell? ⟨g,j * 9 + q,none⟩ = some u) ∧ Soft w (fun k => b ≤ k) (.slice A' o.hashes.length c') o.hashes.length
theorem Own.rowF {w : World} {b : Nat} {A : Option Addr} {c : Nat} {O : List OpL} (h : Own Rp.oplF w (fun k => b ≤ k) b 36 (.slice A O.length c) O) (h0 : 0 < O.length) : ∃ g,A = some ⟨g,0,none⟩ ∧ b ≤ g ∧ RowF w b g O := by
 obtain ⟨xs,⟨_,h1⟩,_,h3⟩ := h
 rcases h1 with ⟨_,h1⟩ | ⟨g,cap,cur,he,hb,hg,hn,_,hc,ht⟩
 · omega
 · injection he with he _ _
   subst he
   refine ⟨g,rfl,hb,⟨cur,hg⟩,fun j o hj => ?_⟩
   obtain ⟨v,e1,e2,e3,e4⟩ := h3 j o hj
   obtain ⟨A',c',hv,_⟩ := id e3
   simp only [List.cons.injEq,and_true] at hv
   subst hv
   refine ⟨A',c',fun q u hu => ?_,e4⟩
   have hlt := (List.getElem?_eq_some_iff.1 hj).1
   have hq : q < 9 := by have := (List.getElem?_eq_some_iff.1 hu).1;simpa [OpL.cells] using this
   have e1' : (xs.drop (j * 9)).take 9 = o.cells (.slice A' o.hashes.length c') := e1
   rw [← e1',List.getElem?_take_of_lt hq,List.getElem?_drop] at hu
   have hlt2 : j * 9 + q < O.length * 9 := by omega
   rw [← ht,List.getElem?_take_of_lt (by exact hlt2),Array.getElem?_toList] at hu
   simp [World.cell?,hg,hu]
theorem RowF.keptNo {w w' : World} {b g : Nat} {O : List OpL} (h : RowF w b g O) (hk : Kp No w w') : RowF w' b g O := by
 obtain ⟨⟨cs,h1⟩,h2⟩ := h
 have hg := (Array.getElem?_eq_some_iff.1 h1).1
 refine ⟨⟨cs,(hk.block g hg (fun x => x)).trans h1⟩,fun j o hj => ?_⟩
 obtain ⟨A',c',h3,h4⟩ := h2 j o hj
 exact ⟨A',c',fun q u hu => (hk.cell (p := ⟨g,j * 9 + q,none⟩) hg (fun x => x)).trans (h3 q u hu),h4.kept hk (fun _ _ _ x => x)⟩
theorem RowF.set {w : World} {b g : Nat} {O : List OpL} {S' : Nat → Prop} {v' : Value} {n' g' c i : Nat} (h : RowF w b g O) (h' : Soft w S' v' n') (hv : v' = .slice (some ⟨g',0,none⟩) n' c) (h0 : 0 < n') (u : Value) : RowF (w.setCell ⟨g',i,none⟩ u) b g O := by
 obtain ⟨⟨cs,h1⟩,h2⟩ := h
 have hg := (Array.getElem?_eq_some_iff.1 h1).1
 have hne : g ≠ g' := by
  rintro rfl
  rcases id h' with h' | ⟨g2,c',cs',e1,e2,e3,e4⟩
  · omega
  rw [hv] at e1
  injection e1 with e1 _ _
  injection e1 with e1
  injection e1 with e1
  subst e1
  rw [h1] at e3
  injection e3 with e3
  injection e3 with _ e3
  exact absurd e3 (by decide)
 have hk : Kp (· = g') w (w.setCell ⟨g',i,none⟩ u) := (Kp.refl (· = g') w).setCell (p := ⟨g',i,none⟩) (fun _ => rfl) u
 refine ⟨⟨cs,(hk.block g hg hne).trans h1⟩,fun j o hj => ?_⟩
 obtain ⟨A',c',h3,h4⟩ := h2 j o hj
 exact ⟨A',c',fun q u hu => (hk.cell (p := ⟨g,j * 9 + q,none⟩) hg hne).trans (h3 q u hu),h4.set h' hv h0 u⟩
end Go.Proofs.YtjlbacfedfkilaaGreat
