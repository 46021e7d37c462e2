/-
  The document's operations: zero, RightOp.
-/
import Derived.Test.YtjlbacfedfkilaaGreatGC
import Derived.Test.YtjlbacfedfkilaaGreatH10L
namespace Go.Proofs.YtjlbacfedfkilaaGreat
open Go.RowKit Go.ChangeShapes Go.WideShapes Go.ChangeAt
set_option maxRecDepth 100000 in
set_option maxHeartbeats 2000000 in
theorem r_zero (o : OpL) (A : Option Addr) (c : Nat) (w : World) : Calls Tryz.prog 99 #[opV o (.slice A o.hashes.length c)] w fun x w' => x = .returned (.bool (decide (blankP o))) ∧ Kp No w w' := by
 obtain ⟨R,hR⟩ : ∃ R,decide (blankP o) = R := ⟨_,rfl⟩
 rw [hR]
 have HR := Lib.hid hR
 clear hR
 unfold opV blankP bareP at *
 obtain ⟨n,ep,k,st,cl,sq,nm,sz,hs⟩ := o
 simp only at *
 have HK : Hid (Kp No w (w.alloc (.cells #[.int .i64 n,.int .i64 ep,.int .i64 k,.int .i64 st,.int .i64 cl,.int .i64 sq,.string nm,.int .i64 sz,.slice A hs.length c] 36))) := Lib.hid ((Kp.refl _ _).alloc _)
 by_cases h1 : cl = 0
 case neg =>
  have f : (cl == 0) = false := beq_eq_false_iff_ne.2 h1
  have HF : Hid (R = false) := Lib.hid (by rw [← HR.out];exact decide_eq_false (fun h => h1 h.1))
  go_enter Tryz.func99,Tryz.ntmps99
  go_wp2_with fail
  go_ret
  exact ⟨by rw [HF.out];rfl,HK.out⟩
 subst h1
 by_cases h2 : sq = 0
 case neg =>
  have f : (sq == 0) = false := beq_eq_false_iff_ne.2 h2
  have HF : Hid (R = false) := Lib.hid (by rw [← HR.out];exact decide_eq_false (fun h => h2 h.2.1))
  go_enter Tryz.func99,Tryz.ntmps99
  go_wp2_with fail
  go_ret
  exact ⟨by rw [HF.out];rfl,HK.out⟩
 subst h2
 by_cases h3 : nm.size = 0
 case neg =>
  obtain ⟨f1,f2⟩ := size_ne h3
  have HF : Hid (R = false) := Lib.hid (by rw [← HR.out];exact decide_eq_false (fun h => h3 h.2.2.1))
  clear h3
  go_enter Tryz.func99,Tryz.ntmps99
  go_wp2_with fail
  go_ret
  exact ⟨by rw [HF.out];rfl,HK.out⟩
 obtain rfl := size_eq h3
 by_cases h4 : sz = 0
 case neg =>
  have f : (sz == 0) = false := beq_eq_false_iff_ne.2 h4
  have HF : Hid (R = false) := Lib.hid (by rw [← HR.out];exact decide_eq_false (fun h => h4 h.2.2.2.1))
  clear h3
  go_enter Tryz.func99,Tryz.ntmps99
  go_wp2_with fail
  go_ret
  exact ⟨by rw [HF.out];rfl,HK.out⟩
 subst h4
 by_cases h5 : hs.length = 0
 case neg =>
  have f : ((hs.length : Int) == 0) = false := beq_eq_false_iff_ne.2 (by omega)
  have HF : Hid (R = false) := Lib.hid (by rw [← HR.out];exact decide_eq_false (fun h => h5 h.2.2.2.2))
  clear h3 h5
  go_enter Tryz.func99,Tryz.ntmps99
  go_wp2_with fail
  go_ret
  exact ⟨by rw [HF.out];rfl,HK.out⟩
 have f : ((hs.length : Int) == 0) = true := by simp [h5]
 have HF : Hid (R = true) := Lib.hid (by rw [← HR.out];exact decide_eq_true ⟨rfl,rfl,h3,rfl,h5⟩)
 clear h3 h5
 go_enter Tryz.func99,Tryz.ntmps99
 go_wp2_with fail
 go_ret
 exact ⟨by rw [HF.out];rfl,HK.out⟩
set_option maxRecDepth 100000 in
set_option maxHeartbeats 2000000 in
theorem r_rightop (o : OpL) (A : Option Addr) (c : Nat) (w : World) (S : Nat → Prop) (hl : Rp.str.slice.R w S [.slice A o.hashes.length c] o.hashes) (hsz : -9223372036854775808 ≤ o.size ∧ o.size < 9223372036854775808) (hll : o.hashes.length ≤ 1000000) :
 Calls Tryz.prog 100 #[opV o (.slice A o.hashes.length c)] w fun x w' => x = .returned (.bool (okOp o)) ∧ Kp No w w' := by
 have hze := fun w1 => r_zero o A c w1
 have hch := fun w1 (hk : Kp No w w1) => r_right o.size o.hashes A c w1 S (Rp.str.slice.keptNo hl hk) hsz.1 hsz.2 hll
 have HZE := Lib.hid hze
 have HCH := Lib.hid hch
 obtain ⟨R,hR⟩ : ∃ R,okOp o = R := ⟨_,rfl⟩
 rw [hR]
 have HR := Lib.hid hR
 clear hR hze hch hl
 unfold okOp okP opV placeP reignP someP bareP at *
 obtain ⟨n,ep,k,st,cl,sq,nm,sz,hs⟩ := o
 simp only at *
 have HK : Hid (Kp No w (w.alloc (.cells #[.int .i64 n,.int .i64 ep,.int .i64 k,.int .i64 st,.int .i64 cl,.int .i64 sq,.string nm,.int .i64 sz,.slice A hs.length c] 36))) := Lib.hid ((Kp.refl _ _).alloc _)
 by_cases a1 : n < 1
 · have HF : Hid (R = false) := Lib.hid (by rw [← HR.out];exact decide_eq_false (fun h => by have := h.1;omega))
   go_enter Tryz.func100,Tryz.ntmps100
   go_wp2_with fail
   go_ret
   exact ⟨by rw [HF.out];rfl,HK.out⟩
 by_cases a2 : 80 < n
 · have HF : Hid (R = false) := Lib.hid (by rw [← HR.out];exact decide_eq_false (fun h => by have := h.1;omega))
   go_enter Tryz.func100,Tryz.ntmps100
   go_wp2_with fail
   go_ret
   exact ⟨by rw [HF.out];rfl,HK.out⟩
 by_cases a3 : ep < 1
 · have HF : Hid (R = false) := Lib.hid (by rw [← HR.out];exact decide_eq_false (fun h => by have := h.1;omega))
   go_enter Tryz.func100,Tryz.ntmps100
   go_wp2_with fail
   go_ret
   exact ⟨by rw [HF.out];rfl,HK.out⟩
 by_cases a4 : 16 < ep
 · have HF : Hid (R = false) := Lib.hid (by rw [← HR.out];exact decide_eq_false (fun h => by have := h.1;omega))
   go_enter Tryz.func100,Tryz.ntmps100
   go_wp2_with fail
   go_ret
   exact ⟨by rw [HF.out];rfl,HK.out⟩
 by_cases a5 : st < 0
 · have HF : Hid (R = false) := Lib.hid (by rw [← HR.out];exact decide_eq_false (fun h => by have := h.1;omega))
   go_enter Tryz.func100,Tryz.ntmps100
   go_wp2_with fail
   go_ret
   exact ⟨by rw [HF.out];rfl,HK.out⟩
 by_cases a6 : 1 < st
 · have HF : Hid (R = false) := Lib.hid (by rw [← HR.out];exact decide_eq_false (fun h => by have := h.1;omega))
   go_enter Tryz.func100,Tryz.ntmps100
   go_wp2_with fail
   go_ret
   exact ⟨by rw [HF.out];rfl,HK.out⟩
 by_cases k3 : k = 3
 · subst k3
   obtain ⟨Q,hQ⟩ : ∃ Q,decide (blankP ⟨n,ep,3,st,cl,sq,nm,sz,hs⟩) = Q := ⟨_,rfl⟩
   have hRQ : R = Q := by
    rw [← HR.out,← hQ]
    exact decide_eq_decide.2 ⟨fun h => by rcases h.2 with h | h | h;exact absurd h.1 (by omega);exact absurd h.1 (by omega);exact h.2,fun h => ⟨by omega,.inr (.inr ⟨rfl,h⟩)⟩⟩
   rw [hQ] at HZE
   have HRQ := Lib.hid hRQ
   clear hQ hRQ HR
   go_enter Tryz.func100,Tryz.ntmps100
   go_wp2_with fail
   refine (HZE.out _).mono ?_
   rintro x w2 ⟨rfl,hk⟩
   have HK2 := Lib.hid (HK.out.trans' hk)
   clear hk
   go_wp2_with fail
   go_ret
   exact ⟨by rw [HRQ.out];rfl,HK2.out⟩
 have k3b : (k == 3) = false := beq_eq_false_iff_ne.2 k3
 have hso : ∀ (P : Prop),((k = 1 ∧ P ∧ okSheet sz hs = true) ∨ (k = 2 ∧ P ∧ sz = 0 ∧ hs.length = 0) ∨ (k = 3 ∧ blankP ⟨n,ep,k,st,cl,sq,nm,sz,hs⟩)) → P := by
  rintro P (h | h | h)
  · exact h.2.1
  · exact h.2.1
  · exact absurd h.1 k3
 have HSO := Lib.hid hso
 clear hso
 by_cases b1 : cl < 0
 · have HF : Hid (R = false) := Lib.hid (by rw [← HR.out];exact decide_eq_false (fun h => by have := HSO.out _ h.2;omega))
   go_enter Tryz.func100,Tryz.ntmps100
   go_wp2_with fail
   go_ret
   exact ⟨by rw [HF.out];rfl,HK.out⟩
 by_cases b2 : 7 < cl
 · have HF : Hid (R = false) := Lib.hid (by rw [← HR.out];exact decide_eq_false (fun h => by have := HSO.out _ h.2;omega))
   go_enter Tryz.func100,Tryz.ntmps100
   go_wp2_with fail
   go_ret
   exact ⟨by rw [HF.out];rfl,HK.out⟩
 by_cases b3 : sq < 1
 · have HF : Hid (R = false) := Lib.hid (by rw [← HR.out];exact decide_eq_false (fun h => by have := HSO.out _ h.2;omega))
   go_enter Tryz.func100,Tryz.ntmps100
   go_wp2_with fail
   go_ret
   exact ⟨by rw [HF.out];rfl,HK.out⟩
 by_cases b4 : 1099511627776 < sq
 · have HF : Hid (R = false) := Lib.hid (by rw [← HR.out];exact decide_eq_false (fun h => by have := HSO.out _ h.2;omega))
   go_enter Tryz.func100,Tryz.ntmps100
   go_wp2_with fail
   go_ret
   exact ⟨by rw [HF.out];rfl,HK.out⟩
 by_cases b5 : (nm.size : Int) < 1
 · have HF : Hid (R = false) := Lib.hid (by rw [← HR.out];exact decide_eq_false (fun h => by have := HSO.out _ h.2;omega))
   go_enter Tryz.func100,Tryz.ntmps100
   go_wp2_with fail
   go_ret
   exact ⟨by rw [HF.out];rfl,HK.out⟩
 by_cases b6 : (16 : Int) < nm.size
 · have HF : Hid (R = false) := Lib.hid (by rw [← HR.out];exact decide_eq_false (fun h => by have := HSO.out _ h.2;omega))
   go_enter Tryz.func100,Tryz.ntmps100
   go_wp2_with fail
   go_ret
   exact ⟨by rw [HF.out];rfl,HK.out⟩
 by_cases k1 : k = 1
 · subst k1
   obtain ⟨Q,hQ⟩ : ∃ Q,okSheet sz hs = Q := ⟨_,rfl⟩
   have hRQ : R = Q := by
    rw [← HR.out]
    cases Q with
    | true => exact decide_eq_true ⟨by omega,.inl ⟨rfl,by omega,hQ⟩⟩
    | false => exact decide_eq_false (fun h => by rcases h.2 with h | h | h;exact absurd h.2.2 (by rw [hQ];simp);exact absurd h.1 (by omega);exact absurd h.1 (by omega))
   rw [hQ] at HCH
   have HRQ := Lib.hid hRQ
   clear hQ hRQ HR HSO
   cases Q
   all_goals
    go_enter Tryz.func100,Tryz.ntmps100
    go_wp2_with fail
    refine (HCH.out _ HK.out).mono ?_
    rintro x w2 ⟨rfl,hk⟩
    have y2 : w2.cell? ⟨w.heap.size,2,none⟩ = some (.int .i64 1) := Blk.cell (Blk.kept (Blk.new w [.int .i64 n,.int .i64 ep,.int .i64 1,.int .i64 st,.int .i64 cl,.int .i64 sq,.string nm,.int .i64 sz,.slice A hs.length c] 36) hk (fun x => x)) rfl
    have HK2 := Lib.hid (HK.out.trans' hk)
    clear hk
    go_wp2_with fail
    go_ret
    exact ⟨by rw [HRQ.out];rfl,HK2.out⟩
 have k1b : (k == 1) = false := beq_eq_false_iff_ne.2 k1
 by_cases k2 : k = 2
 · subst k2
   by_cases c1 : sz = 0
   · subst c1
     by_cases c2 : hs.length = 0
     · have f : ((hs.length : Int) == 0) = true := by simp [c2]
       have HF : Hid (R = true) := Lib.hid (by rw [← HR.out];exact decide_eq_true ⟨by omega,.inr (.inl ⟨rfl,by omega,rfl,c2⟩)⟩)
       clear c2 HR HSO
       go_enter Tryz.func100,Tryz.ntmps100
       go_wp2_with fail
       go_ret
       exact ⟨by rw [HF.out];rfl,HK.out⟩
     · have f : ((hs.length : Int) == 0) = false := beq_eq_false_iff_ne.2 (by omega)
       have HF : Hid (R = false) := Lib.hid (by rw [← HR.out];exact decide_eq_false (fun h => by rcases h.2 with h | h | h;exact absurd h.1 (by omega);exact c2 h.2.2.2;exact absurd h.1 (by omega)))
       clear c2 HR HSO
       go_enter Tryz.func100,Tryz.ntmps100
       go_wp2_with fail
       go_ret
       exact ⟨by rw [HF.out];rfl,HK.out⟩
   · have f : (sz == 0) = false := beq_eq_false_iff_ne.2 c1
     have HF : Hid (R = false) := Lib.hid (by rw [← HR.out];exact decide_eq_false (fun h => by rcases h.2 with h | h | h;exact absurd h.1 (by omega);exact c1 h.2.2.1;exact absurd h.1 (by omega)))
     clear HR HSO
     go_enter Tryz.func100,Tryz.ntmps100
     go_wp2_with fail
     go_ret
     exact ⟨by rw [HF.out];rfl,HK.out⟩
 · have k2b : (k == 2) = false := beq_eq_false_iff_ne.2 k2
   have HF : Hid (R = false) := Lib.hid (by rw [← HR.out];exact decide_eq_false (fun h => by rcases h.2 with h | h | h;exact k1 h.1;exact k2 h.1;exact k3 h.1))
   clear HR HSO
   go_enter Tryz.func100,Tryz.ntmps100
   go_wp2_with fail
   go_ret
   exact ⟨by rw [HF.out];rfl,HK.out⟩
end Go.Proofs.YtjlbacfedfkilaaGreat
