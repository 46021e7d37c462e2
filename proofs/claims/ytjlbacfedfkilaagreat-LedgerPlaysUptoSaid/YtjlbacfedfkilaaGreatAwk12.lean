/-
  redoubtlaw12.awake. (Printed by wip/tools/awk12.py.)
-/
import Derived.Test.YtjlbacfedfkilaaGreatGO
import Derived.Test.YtjlbacfedfkilaaGreatGI
import Derived.Test.YtjlbacfedfkilaaGreatRegT
import Derived.Deep.DeepCutAuto
namespace Go.Proofs.YtjlbacfedfkilaaGreat
open Go.RowKit Go.ChangeShapes Go.WideShapes Go.ChangeAt
def opNo : OpL := ⟨0,0,0,0,0,0,⟨#[]⟩,0,[]⟩
def cReign : CmdL := ⟨4,1,0,opNo,0,0,[],0⟩
def opDo (q : Int) : OpL := ⟨0,0,1,0,2,q,⟨#[97]⟩,0,[]⟩
def cDo (q : Int) : CmdL := ⟨1,1,0,opDo q,0,0,[],0⟩
def opSh : OpL := ⟨2,2,3,1,0,0,⟨#[]⟩,0,[]⟩
def cShip : CmdL := ⟨3,2,1,opNo,1,1,[opSh],0⟩
def aw0 : LV := newL 100 9
def aw1 : LV := ⟨[reignOp.placed 1 1 0],[],1,0,100,9⟩
def aw2 : LV := ⟨[reignOp.placed 1 1 0,(opDo 1).placed 2 1 0],[],1,0,100,9⟩
def aw3 : LV := ⟨[reignOp.placed 1 1 0,opSh],[((opDo 1).placed 2 1 0).stripped],2,2,100,9⟩
theorem aw_1 : applyL cReign aw0 = ((0,1,1),aw1) := by kernel_rfl
theorem aw_2 : applyL (cDo 1) aw1 = ((0,2,1),aw2) := by kernel_rfl
theorem aw_3 : applyL (cDo 1) aw2 = ((0,2,1),aw2) := by kernel_rfl
theorem aw_4 : applyL (cDo 2) aw2 = ((122,0,0),aw2) := by kernel_rfl
theorem aw_5 : applyL cShip aw2 = ((0,2,2),aw3) := by kernel_rfl
theorem aw_6 : applyL (cDo 2) aw3 = ((120,0,0),aw3) := by kernel_rfl
theorem aw_names : namesL aw2 = [⟨#[97]⟩] := by
 show sortedN ([⟨#[97]⟩] : List ByteArray) = [⟨#[97]⟩]
 exact sortedN_eq (List.Perm.refl _) (List.pairwise_singleton _ _)
theorem aw_ok0 : OkL 0 aw0 := newL_ok (by decide)
theorem ok_step {B : Nat} {L L' : LV} {c : CmdL} {d : Done3} (h : OkL B L) (e : applyL c L = (d,L')) : OkL (B + 80) L' := by
 have := apply_ok h c
 rw [e] at this;exact this
theorem aw_ok1 : OkL 80 aw1 := ok_step aw_ok0 aw_1
theorem aw_ok2 : OkL 160 aw2 := ok_step aw_ok1 aw_2
theorem aw_ok3 : OkL 240 aw3 := ok_step aw_ok2 aw_5
theorem Side.start {w0 w : World} {l : Nat} {L : LV} {F : Nat → Prop} (h : LAt w l L F) (hF : ∀ k,F k → w0.heap.size ≤ k) (hk : Kp No w0 w) : Side w0 w l L [] :=
 ⟨⟨F,h,hF,fun _ hb => absurd hb List.not_mem_nil⟩,fun _ hb => absurd hb List.not_mem_nil,fun _ hb => absurd hb List.not_mem_nil,List.nodup_nil,hk⟩
theorem Side.lost {w0 w : World} {l : Nat} {L : LV} {bs : List (Nat × TypeId × List Value)} {B : Nat} (h : Side w0 w l L bs) (hok : OkL B L) (hB : B ≤ 800000) :
 Calls Tryz.prog 29 #[.pointer (some ⟨l,0,none⟩)] w fun x w' => ∃ A c,x = .returned (.slice A L.lost.length c) ∧ Side w0 w' l L bs := by
 obtain ⟨F,h1,h2,h3⟩ := h.ex
 refine (a_lost l L F w h1 (by have := hok.lost;omega) hok.hashesLost).mono ?_
 rintro x w' ⟨A,c,rfl,_,hk⟩
 exact ⟨A,c,rfl,h.keptNo hk⟩
theorem Side.holder {w0 w : World} {l : Nat} {L : LV} {bs : List (Nat × TypeId × List Value)} (h : Side w0 w l L bs) :
 Calls Tryz.prog 30 #[.pointer (some ⟨l,0,none⟩)] w fun x w' => x = .returned (.agg #[.int .i64 L.fold.hE,.int .i64 L.fold.hS]) ∧ Side w0 w' l L bs := by
 obtain ⟨F,h1,h2,h3⟩ := h.ex
 refine (a_holder l L F w h1).mono ?_
 rintro x w' ⟨rfl,hk⟩
 exact ⟨rfl,h.keptNo hk⟩
theorem Side.name1 {w0 w : World} {l : Nat} {L : LV} {bs : List (Nat × TypeId × List Value)} {B : Nat} (h : Side w0 w l L bs) (hok : OkL B L) {n : ByteArray} (hn : namesL L = [n]) :
 Calls Tryz.prog 28 #[.pointer (some ⟨l,0,none⟩)] w fun x w' => ∃ g c cs,x = .returned (.slice (some ⟨g,0,none⟩) 1 c) ∧ Side w0 w' l L ((g,9,.string n :: cs) :: bs) := by
 obtain ⟨F,h1,h2,h3⟩ := h.ex
 refine (a_names B l L F w h1 hok).mono ?_
 rintro x w' ⟨A,c,rfl,hown,hk⟩
 rw [hn] at hown ⊢
 obtain ⟨ad,hA,_,hcell,_⟩ := Rp.at_str hown.readFrom (i := 0) rfl
 obtain ⟨xs,⟨_,hx⟩,_⟩ := id hown
 rcases hx with ⟨_,hx⟩ | ⟨g,cap,cur,he,hb,hg,_⟩
 · cases hx
 · injection he with he1 he2 he3
   subst he1
   injection hA with hA
   subst hA
   have hcur : cur.toList[0]? = some (.string n) := by
    have h5 : w'.cell? ⟨g,0,none⟩ = some (.string n) := hcell
    rw [cell_of_row w' g _ cur _ (0,0) hg] at h5
    rw [Array.getElem?_toList]
    exact h5
   obtain ⟨cs,hcs⟩ : ∃ cs,cur.toList = .string n :: cs := by
    cases hl : cur.toList with
    | nil => rw [hl] at hcur;cases hcur
    | cons a t => rw [hl] at hcur;injection hcur with hcur;exact ⟨t,by rw [hcur]⟩
   have hblk : Blk w' g 9 (.string n :: cs) := by
    unfold Blk
    rw [hg,← hcs]
   exact ⟨g,c,cs,rfl,h.grew hk hblk hb⟩
theorem wpList_build6 {P : Program} {ops : Array Oper} {rest : List Oper} {o : Oper} {a : Act} {w w' : World} {Q : Exit → Act → World → Prop} (hw : Region.wanted o (yielded ops a.tmps) = true) (t : TypeId) (i0 i1 i2 i3 i4 i5 : Nat) (x0 x1 x2 x3 x4 x5 : Operand)
 (ho : o.op = .build t #[(i0,x0),(i1,x1),(i2,x2),(i3,x3),(i4,x4),(i5,x5)]) (v0 v1 v2 v3 v4 v5 u : Value) (e0 : a.eval x0 = v0) (e1 : a.eval x1 = v1) (e2 : a.eval x2 = v2) (e3 : a.eval x3 = v3) (e4 : a.eval x4 = v4) (e5 : a.eval x5 = v5)
 (hr : (Instr.build t #[(i0,v0),(i1,v1),(i2,v2),(i3,v3),(i4,v4),(i5,v5)]).run P w = .ok u w')
 (h : wpList P ops Q rest (a.put o.dst u) w') : wpList P ops Q (o :: rest) a w := by
 refine wpList_step fun K hK => ?_
 rw [if_pos hw]
 have e : (#[(i0,x0),(i1,x1),(i2,x2),(i3,x3),(i4,x4),(i5,x5)] : Array (Nat × Operand)).map (fun (i,x) => (i,a.eval x)) = #[(i0,v0),(i1,v1),(i2,v2),(i3,v3),(i4,v4),(i5,v5)] := by simp [e0,e1,e2,e3,e4,e5]
 unfold Oper.wp execOp
 simp only [ho,Sem.run_bind,e,hr,Result.andThen_ok]
 exact hK _ _ h
set_option maxRecDepth 100000 in
theorem run_ship (w : World) (b : Nat) : (Instr.build 39 #[(0,.int .i64 3),(1,.int .i64 2),(2,.int .i64 1),(4,.int .i64 1),(5,.int .i64 1),(6,.slice (some ⟨b,0,none⟩) 1 1)]).run Tryz.prog w = .ok (.agg #[.int .i64 3,.int .i64 2,.int .i64 1,.int .i64 0,.int .i64 0,.int .i64 0,.int .i64 0,.int .i64 0,.int .i64 0,.string { data := #[] },.int .i64 0,.slice none 0 0,.int .i64 1,.int .i64 1,.slice (some ⟨b,0,none⟩) 1 1,.int .i64 0]) w := by
 go_simp
theorem Side.doC {w0 w : World} {l : Nat} {L L' : LV} {bs : List (Nat × TypeId × List Value)} {B : Nat} {d : Done3} (h : Side w0 w l L bs) (hok : OkL B L) (hB : B ≤ 800000) (c : CmdL) (hh : c.op.hashes = []) (ho : c.ops = []) (hsz : -9223372036854775808 ≤ c.op.size ∧ c.op.size < 9223372036854775808) (he : applyL c L = (d,L')) :
 Calls Tryz.prog 12 #[.pointer (some ⟨l,0,none⟩),cmdV c (.slice none 0 0) (.slice none 0 0)] w fun x w' => x = .returned (doneV d) ∧ Side w0 w' l L' bs := by
 have h1 := h.apply hok hB c none none 0 0 (fun _ => False) (fun _ hk => hk.elim) (by rw [hh];exact Rp.none_ _ _ _) (by rw [ho];exact Rp.none_ _ _ _) hsz (by rw [hh];simp) (by rw [ho];simp) (fun o hm => by rw [ho] at hm;cases hm)
 rw [he,hh,ho] at h1
 exact h1
set_option maxRecDepth 100000 in
set_option maxHeartbeats 40000000 in
theorem h_awake12 (w : World) : Calls Tryz.prog 9 #[] w fun e w' => e = .returned (.bool true) ∧ Kp No w w' := by
 have hnew := a_new 100 9 w (by decide)
 go_enter Tryz.func9,Tryz.ntmps9
 go_wp2_with fail
 refine hnew.mono ?_
 rintro e w1 ⟨l,F,rfl,hl,hF,hk⟩
 have HS0 : Hid (Side w w1 l aw0 []) := Lib.hid (Side.start hl hF hk)
 clear hl hF hk hnew
 have hs := HS0.out.alloc [.int .i64 1,.int .i64 1,.int .i64 0,.int .i64 0,.int .i64 0,.int .i64 1,.int .i64 0,.int .i64 2,.int .i64 1,.string { data := #[97] },.int .i64 0,.slice none 0 0,.int .i64 0,.int .i64 0,.slice none 0 0,.int .i64 0] 39
 obtain ⟨x3,hx3⟩ : ∃ x,w1.heap.size = x := ⟨_,rfl⟩
 have es : ([.int .i64 1,.int .i64 1,.int .i64 0,.int .i64 0,.int .i64 0,.int .i64 1,.int .i64 0,.int .i64 2,.int .i64 1,.string { data := #[97] },.int .i64 0,.slice none 0 0,.int .i64 0,.int .i64 0,.slice none 0 0,.int .i64 0] : List Value).toArray = #[.int .i64 1,.int .i64 1,.int .i64 0,.int .i64 0,.int .i64 0,.int .i64 1,.int .i64 0,.int .i64 2,.int .i64 1,.string { data := #[97] },.int .i64 0,.slice none 0 0,.int .i64 0,.int .i64 0,.slice none 0 0,.int .i64 0] := rfl
 rw [hx3,es] at hs
 have HS1 := Lib.hid hs
 clear hs es
 clear HS0
 go_upto_region 5 with fail
 generalize w1.alloc (.cells #[.int .i64 1,.int .i64 1,.int .i64 0,.int .i64 0,.int .i64 0,.int .i64 1,.int .i64 0,.int .i64 2,.int .i64 1,.string { data := #[97] },.int .i64 0,.slice none 0 0,.int .i64 0,.int .i64 0,.slice none 0 0,.int .i64 0] 39) = wa at HS1 ⊢
 clear hx3
 go_cut [4] (fun b wx => ∃ x4 : Nat,b = .pointer (some ⟨x4,0,none⟩) ∧ Hid (Side w wx l aw1 [(x4,44,[.int .i64 0,.int .i64 1,.int .i64 1]),(x3,39,[.int .i64 1,.int .i64 1,.int .i64 0,.int .i64 0,.int .i64 0,.int .i64 1,.int .i64 0,.int .i64 2,.int .i64 1,.string { data := #[97] },.int .i64 0,.slice none 0 0,.int .i64 0,.int .i64 0,.slice none 0 0,.int .i64 0])]))
 case first =>
  have hc : Calls Tryz.prog 12 #[.pointer (some ⟨l,0,none⟩),.agg #[.int .i64 4,.int .i64 1,.int .i64 0,.int .i64 0,.int .i64 0,.int .i64 0,.int .i64 0,.int .i64 0,.int .i64 0,.string { data := #[] },.int .i64 0,.slice none 0 0,.int .i64 0,.int .i64 0,.slice none 0 0,.int .i64 0]] wa fun x w' => x = .returned (.agg #[.int .i64 0,.int .i64 1,.int .i64 1]) ∧ Side w w' l aw1 [(x3,39,[.int .i64 1,.int .i64 1,.int .i64 0,.int .i64 0,.int .i64 0,.int .i64 1,.int .i64 0,.int .i64 2,.int .i64 1,.string { data := #[97] },.int .i64 0,.slice none 0 0,.int .i64 0,.int .i64 0,.slice none 0 0,.int .i64 0])] := HS1.out.doC aw_ok0 (by decide) cReign rfl rfl (by decide) aw_1
  have HC := Lib.hid hc
  clear hc HS1
  go_wp2_with fail
  refine HC.out.mono ?_
  rintro e w2 ⟨rfl,hs1⟩
  have HS1 := Lib.hid hs1
  clear HC hs1
  have hs := HS1.out.alloc [.int .i64 0,.int .i64 1,.int .i64 1] 44
  obtain ⟨x4,hx4⟩ : ∃ x,w2.heap.size = x := ⟨_,rfl⟩
  have es : ([.int .i64 0,.int .i64 1,.int .i64 1] : List Value).toArray = #[.int .i64 0,.int .i64 1,.int .i64 1] := rfl
  rw [hx4,es] at hs
  have HS2 := Lib.hid hs
  clear hs es
  clear HS1
  go_wp2_with fail
  go_meet
  exact ⟨x4,rfl,HS2⟩
 obtain ⟨x4,rfl,HS2⟩ := hcut
 clear HS1
 go_upto_region 6 with fail
 go_cut [5,6] (fun b5 b6 wx => ∃ x5 x6 : Nat,b5 = .pointer (some ⟨x5,0,none⟩) ∧ b6 = .pointer (some ⟨x6,0,none⟩) ∧ Hid (Side w wx l aw2 [(x6,44,[.int .i64 0,.int .i64 2,.int .i64 1]),(x5,44,[.int .i64 0,.int .i64 2,.int .i64 1]),(x4,44,[.int .i64 0,.int .i64 1,.int .i64 1]),(x3,39,[.int .i64 1,.int .i64 1,.int .i64 0,.int .i64 0,.int .i64 0,.int .i64 1,.int .i64 0,.int .i64 2,.int .i64 1,.string { data := #[97] },.int .i64 0,.slice none 0 0,.int .i64 0,.int .i64 0,.slice none 0 0,.int .i64 0])]))
 case first =>
  rename_i y0 y1 y2 y3 y4 y5 y6
  revert y0
  as_aux_lemma =>
   intro y0
   intros
   have HSa := Lib.hid HS2.out.drew
   obtain ⟨v0,hv0⟩ : ∃ v,wc.drew = v := ⟨_,rfl⟩
   rw [hv0] at HSa
   have hbz := HSa.out.blk _ (List.mem_cons_of_mem _ List.mem_cons_self)
   have z0 : v0.cell? ⟨x3,0,none⟩ = some _ := Blk.cell hbz rfl
   have z1 : v0.cell? ⟨x3,1,none⟩ = some _ := Blk.cell hbz rfl
   have z2 : v0.cell? ⟨x3,2,none⟩ = some _ := Blk.cell hbz rfl
   have z3 : v0.cell? ⟨x3,3,none⟩ = some _ := Blk.cell hbz rfl
   have z4 : v0.cell? ⟨x3,4,none⟩ = some _ := Blk.cell hbz rfl
   have z5 : v0.cell? ⟨x3,5,none⟩ = some _ := Blk.cell hbz rfl
   have z6 : v0.cell? ⟨x3,6,none⟩ = some _ := Blk.cell hbz rfl
   have z7 : v0.cell? ⟨x3,7,none⟩ = some _ := Blk.cell hbz rfl
   have z8 : v0.cell? ⟨x3,8,none⟩ = some _ := Blk.cell hbz rfl
   have z9 : v0.cell? ⟨x3,9,none⟩ = some _ := Blk.cell hbz rfl
   have z10 : v0.cell? ⟨x3,10,none⟩ = some _ := Blk.cell hbz rfl
   have z11 : v0.cell? ⟨x3,11,none⟩ = some _ := Blk.cell hbz rfl
   have z12 : v0.cell? ⟨x3,12,none⟩ = some _ := Blk.cell hbz rfl
   have z13 : v0.cell? ⟨x3,13,none⟩ = some _ := Blk.cell hbz rfl
   have z14 : v0.cell? ⟨x3,14,none⟩ = some _ := Blk.cell hbz rfl
   have z15 : v0.cell? ⟨x3,15,none⟩ = some _ := Blk.cell hbz rfl
   clear hbz
   clear HS2
   refine Reg.wp_region_tree (.look 0 (.look 1 (.look 3 (.look 4 (.three 2 [4] (.three 5 [] (.two 6 [] (.one 7 [] (.one 8 [] (.one 9 [] (.done)))) 7 [] (.one 6 [] (.one 8 [] (.one 9 [] (.done))))) 6 [4] (.two 5 [] (.one 7 [] (.one 8 [] (.one 9 [] (.done)))) 7 [4] (.one 5 [] (.one 8 [] (.one 9 [] (.done))))) 7 [4] (.two 5 [] (.one 6 [] (.one 8 [] (.one 9 [] (.done)))) 6 [4] (.one 5 [] (.one 8 [] (.one 9 [] (.done)))))) 6 [1,4] (.two 2 [4] (.two 5 [] (.one 7 [] (.one 8 [] (.one 9 [] (.done)))) 7 [4] (.one 5 [] (.one 8 [] (.one 9 [] (.done))))) 7 [1,4] (.one 2 [4] (.one 5 [] (.one 8 [] (.one 9 [] (.done)))))) 7 [1,4] (.two 2 [4] (.two 5 [] (.one 6 [] (.one 8 [] (.one 9 [] (.done)))) 6 [4] (.one 5 [] (.one 8 [] (.one 9 [] (.done))))) 6 [1,4] (.one 2 [4] (.one 5 [] (.one 8 [] (.one 9 [] (.done))))))))))) [2,5,6,7,8,9] rfl (by kernel_rfl) ?_
   rw [hv0]
   clear hv0
   repeat (first | (refine Reg.lookT rfl rfl rfl (by go_simp;rfl) rfl ?_;go_simp))
   refine Reg.threeT rfl rfl rfl ?_ ?_ ?_
   · revert y0
     as_aux_lemma =>
      intro y0
      intros
      have hc : Calls Tryz.prog 12 #[.pointer (some ⟨l,0,none⟩),.agg #[.int .i64 1,.int .i64 1,.int .i64 0,.int .i64 0,.int .i64 0,.int .i64 1,.int .i64 0,.int .i64 2,.int .i64 1,.string { data := #[97] },.int .i64 0,.slice none 0 0,.int .i64 0,.int .i64 0,.slice none 0 0,.int .i64 0]] v0 fun x w' => x = .returned (.agg #[.int .i64 0,.int .i64 2,.int .i64 1]) ∧ Side w w' l aw2 [(x4,44,[.int .i64 0,.int .i64 1,.int .i64 1]),(x3,39,[.int .i64 1,.int .i64 1,.int .i64 0,.int .i64 0,.int .i64 0,.int .i64 1,.int .i64 0,.int .i64 2,.int .i64 1,.string { data := #[97] },.int .i64 0,.slice none 0 0,.int .i64 0,.int .i64 0,.slice none 0 0,.int .i64 0])] := HSa.out.doC aw_ok1 (by decide) (cDo 1) rfl rfl (by decide) aw_2
      have HC := Lib.hid hc
      clear hc HSa
      go_wp2_with fail
      refine HC.out.mono ?_
      rintro e v1 ⟨rfl,hs1⟩
      have HS1_ := Lib.hid hs1
      clear HC hs1 z0 z1 z2 z3 z4 z5 z6 z7 z8 z9 z10 z11 z12 z13 z14 z15
      have hbz := HS1_.out.blk _ (List.mem_cons_of_mem _ List.mem_cons_self)
      have z0 : v1.cell? ⟨x3,0,none⟩ = some _ := Blk.cell hbz rfl
      have z1 : v1.cell? ⟨x3,1,none⟩ = some _ := Blk.cell hbz rfl
      have z2 : v1.cell? ⟨x3,2,none⟩ = some _ := Blk.cell hbz rfl
      have z3 : v1.cell? ⟨x3,3,none⟩ = some _ := Blk.cell hbz rfl
      have z4 : v1.cell? ⟨x3,4,none⟩ = some _ := Blk.cell hbz rfl
      have z5 : v1.cell? ⟨x3,5,none⟩ = some _ := Blk.cell hbz rfl
      have z6 : v1.cell? ⟨x3,6,none⟩ = some _ := Blk.cell hbz rfl
      have z7 : v1.cell? ⟨x3,7,none⟩ = some _ := Blk.cell hbz rfl
      have z8 : v1.cell? ⟨x3,8,none⟩ = some _ := Blk.cell hbz rfl
      have z9 : v1.cell? ⟨x3,9,none⟩ = some _ := Blk.cell hbz rfl
      have z10 : v1.cell? ⟨x3,10,none⟩ = some _ := Blk.cell hbz rfl
      have z11 : v1.cell? ⟨x3,11,none⟩ = some _ := Blk.cell hbz rfl
      have z12 : v1.cell? ⟨x3,12,none⟩ = some _ := Blk.cell hbz rfl
      have z13 : v1.cell? ⟨x3,13,none⟩ = some _ := Blk.cell hbz rfl
      have z14 : v1.cell? ⟨x3,14,none⟩ = some _ := Blk.cell hbz rfl
      have z15 : v1.cell? ⟨x3,15,none⟩ = some _ := Blk.cell hbz rfl
      clear hbz
      go_wp2_with fail
      (refine ⟨?anew,?_⟩;case anew => ((repeat (refine Reg.anew_cons rfl rfl (fun _ => by go_simp) ?_));exact Reg.anew_nil))
      refine Reg.threeT rfl rfl rfl ?_ ?_ ?_
      · revert y0
        as_aux_lemma =>
         intro y0
         intros
         have hc : Calls Tryz.prog 12 #[.pointer (some ⟨l,0,none⟩),.agg #[.int .i64 1,.int .i64 1,.int .i64 0,.int .i64 0,.int .i64 0,.int .i64 1,.int .i64 0,.int .i64 2,.int .i64 1,.string { data := #[97] },.int .i64 0,.slice none 0 0,.int .i64 0,.int .i64 0,.slice none 0 0,.int .i64 0]] v1 fun x w' => x = .returned (.agg #[.int .i64 0,.int .i64 2,.int .i64 1]) ∧ Side w w' l aw2 [(x4,44,[.int .i64 0,.int .i64 1,.int .i64 1]),(x3,39,[.int .i64 1,.int .i64 1,.int .i64 0,.int .i64 0,.int .i64 0,.int .i64 1,.int .i64 0,.int .i64 2,.int .i64 1,.string { data := #[97] },.int .i64 0,.slice none 0 0,.int .i64 0,.int .i64 0,.slice none 0 0,.int .i64 0])] := HS1_.out.doC aw_ok2 (by decide) (cDo 1) rfl rfl (by decide) aw_3
         have HC := Lib.hid hc
         clear hc HS1_
         go_wp2_with fail
         refine HC.out.mono ?_
         rintro e v2 ⟨rfl,hs1⟩
         have HS2_ := Lib.hid hs1
         clear HC hs1 z0 z1 z2 z3 z4 z5 z6 z7 z8 z9 z10 z11 z12 z13 z14 z15
         go_wp2_with fail
         (refine ⟨?anew,?_⟩;case anew => ((repeat (refine Reg.anew_cons rfl rfl (fun _ => by go_simp) ?_));exact Reg.anew_nil))
         refine Reg.twoT rfl rfl ?_ ?_
         · revert y0
           as_aux_lemma =>
            intro y0
            intros
            have hs := HS2_.out.alloc [.int .i64 0,.int .i64 0,.int .i64 0] 44
            obtain ⟨y6,hy6⟩ : ∃ x,v2.heap.size = x := ⟨_,rfl⟩
            obtain ⟨v3,hv3⟩ : ∃ x,v2.alloc (.cells #[.int .i64 0,.int .i64 0,.int .i64 0] 44) = x := ⟨_,rfl⟩
            have ev3 : ([.int .i64 0,.int .i64 0,.int .i64 0] : List Value).toArray = #[.int .i64 0,.int .i64 0,.int .i64 0] := rfl
            rw [hy6,ev3,hv3] at hs
            have HS3_ := Lib.hid hs
            clear hs ev3
            clear HS2_
            go_wp2_with fail
            clear hv3 hy6
            (refine ⟨?anew,?_⟩;case anew => ((repeat (refine Reg.anew_cons rfl rfl (fun _ => by go_simp) ?_));exact Reg.anew_nil))
            refine Reg.oneT rfl ?_
            have hs := HS3_.out.alloc [.int .i64 0,.int .i64 0,.int .i64 0] 44
            obtain ⟨y7,hy7⟩ : ∃ x,v3.heap.size = x := ⟨_,rfl⟩
            obtain ⟨v4,hv4⟩ : ∃ x,v3.alloc (.cells #[.int .i64 0,.int .i64 0,.int .i64 0] 44) = x := ⟨_,rfl⟩
            have ev4 : ([.int .i64 0,.int .i64 0,.int .i64 0] : List Value).toArray = #[.int .i64 0,.int .i64 0,.int .i64 0] := rfl
            rw [hy7,ev4,hv4] at hs
            have HS4_ := Lib.hid hs
            clear hs ev4
            clear HS3_
            go_wp2_with fail
            clear hv4 hy7
            (refine ⟨?anew,?_⟩;case anew => ((repeat (refine Reg.anew_cons rfl rfl (fun _ => by go_simp) ?_));exact Reg.anew_nil))
            refine Reg.oneT rfl ?_
            have hbt := HS4_.out.blk _ (List.mem_cons_of_mem _ List.mem_cons_self)
            have t0 : v4.cell? ⟨y6,0,none⟩ = some _ := Blk.cell hbt rfl
            have t1 : v4.cell? ⟨y6,1,none⟩ = some _ := Blk.cell hbt rfl
            have t2 : v4.cell? ⟨y6,2,none⟩ = some _ := Blk.cell hbt rfl
            clear hbt
            have g0 := Blk.fr (HS4_.out.blk _ (List.mem_cons_of_mem _ List.mem_cons_self)) 0
            have g1 := Blk.fr (HS4_.out.blk _ (List.mem_cons_of_mem _ List.mem_cons_self)) 1
            have g2 := Blk.fr (HS4_.out.blk _ (List.mem_cons_of_mem _ List.mem_cons_self)) 2
            have hst := (Side.store (pre := [(y7,44,[.int .i64 0,.int .i64 0,.int .i64 0])]) HS4_.out (.int .i64 0) (.int .i64 2) (.int .i64 1))
            have HST := Lib.hid hst
            clear hst HS4_
            go_wp2_with fail
            (refine ⟨?anew,?_⟩;case anew => ((repeat (refine Reg.anew_cons rfl rfl (fun _ => by go_simp) ?_));exact Reg.anew_nil))
            clear t0 t1 t2 g0 g1 g2
            generalize (((v4.setCell ⟨y6,0,none⟩ (.int .i64 0)).setCell ⟨y6,1,none⟩ (.int .i64 2)).setCell ⟨y6,2,none⟩ (.int .i64 1)) = vs at HST ⊢
            have hbu := HST.out.blk _ List.mem_cons_self
            have u0 : vs.cell? ⟨y7,0,none⟩ = some _ := Blk.cell hbu rfl
            have u1 : vs.cell? ⟨y7,1,none⟩ = some _ := Blk.cell hbu rfl
            have u2 : vs.cell? ⟨y7,2,none⟩ = some _ := Blk.cell hbu rfl
            clear hbu
            have g0 := Blk.fr (HST.out.blk _ List.mem_cons_self) 0
            have g1 := Blk.fr (HST.out.blk _ List.mem_cons_self) 1
            have g2 := Blk.fr (HST.out.blk _ List.mem_cons_self) 2
            have hst2 := (Side.store (pre := []) HST.out (.int .i64 0) (.int .i64 2) (.int .i64 1))
            have HST2 := Lib.hid hst2
            clear hst2 HST
            refine Reg.oneT rfl ?_
            go_wp2_with fail
            (refine ⟨?anew,?_⟩;case anew => ((repeat (refine Reg.anew_cons rfl rfl (fun _ => by go_simp) ?_));exact Reg.anew_nil))
            clear u0 u1 u2 g0 g1 g2
            refine Reg.doneT ?_
            simp only [Exit.then]
            go_wp2_with fail
            go_meet
            exact ⟨y6,y7,rfl,rfl,HST2⟩
         · revert y0
           as_aux_lemma =>
            intro y0
            intros
            have hs := HS2_.out.alloc [.int .i64 0,.int .i64 0,.int .i64 0] 44
            obtain ⟨y7,hy7⟩ : ∃ x,v2.heap.size = x := ⟨_,rfl⟩
            obtain ⟨v5,hv5⟩ : ∃ x,v2.alloc (.cells #[.int .i64 0,.int .i64 0,.int .i64 0] 44) = x := ⟨_,rfl⟩
            have ev5 : ([.int .i64 0,.int .i64 0,.int .i64 0] : List Value).toArray = #[.int .i64 0,.int .i64 0,.int .i64 0] := rfl
            rw [hy7,ev5,hv5] at hs
            have HS5_ := Lib.hid hs
            clear hs ev5
            clear HS2_
            go_wp2_with fail
            clear hv5 hy7
            (refine ⟨?anew,?_⟩;case anew => ((repeat (refine Reg.anew_cons rfl rfl (fun _ => by go_simp) ?_));exact Reg.anew_nil))
            refine Reg.oneT rfl ?_
            have hs := HS5_.out.alloc [.int .i64 0,.int .i64 0,.int .i64 0] 44
            obtain ⟨y6,hy6⟩ : ∃ x,v5.heap.size = x := ⟨_,rfl⟩
            obtain ⟨v6,hv6⟩ : ∃ x,v5.alloc (.cells #[.int .i64 0,.int .i64 0,.int .i64 0] 44) = x := ⟨_,rfl⟩
            have ev6 : ([.int .i64 0,.int .i64 0,.int .i64 0] : List Value).toArray = #[.int .i64 0,.int .i64 0,.int .i64 0] := rfl
            rw [hy6,ev6,hv6] at hs
            have HS6_ := Lib.hid hs
            clear hs ev6
            clear HS5_
            go_wp2_with fail
            clear hv6 hy6
            (refine ⟨?anew,?_⟩;case anew => ((repeat (refine Reg.anew_cons rfl rfl (fun _ => by go_simp) ?_));exact Reg.anew_nil))
            refine Reg.oneT rfl ?_
            have hsw := Lib.hid HS6_.out.swap
            clear HS6_
            have hbt := hsw.out.blk _ (List.mem_cons_of_mem _ List.mem_cons_self)
            have t0 : v6.cell? ⟨y6,0,none⟩ = some _ := Blk.cell hbt rfl
            have t1 : v6.cell? ⟨y6,1,none⟩ = some _ := Blk.cell hbt rfl
            have t2 : v6.cell? ⟨y6,2,none⟩ = some _ := Blk.cell hbt rfl
            clear hbt
            have g0 := Blk.fr (hsw.out.blk _ (List.mem_cons_of_mem _ List.mem_cons_self)) 0
            have g1 := Blk.fr (hsw.out.blk _ (List.mem_cons_of_mem _ List.mem_cons_self)) 1
            have g2 := Blk.fr (hsw.out.blk _ (List.mem_cons_of_mem _ List.mem_cons_self)) 2
            have hst := (Side.store (pre := [(y7,44,[.int .i64 0,.int .i64 0,.int .i64 0])]) hsw.out (.int .i64 0) (.int .i64 2) (.int .i64 1))
            have HST := Lib.hid hst
            clear hst hsw
            go_wp2_with fail
            (refine ⟨?anew,?_⟩;case anew => ((repeat (refine Reg.anew_cons rfl rfl (fun _ => by go_simp) ?_));exact Reg.anew_nil))
            clear t0 t1 t2 g0 g1 g2
            generalize (((v6.setCell ⟨y6,0,none⟩ (.int .i64 0)).setCell ⟨y6,1,none⟩ (.int .i64 2)).setCell ⟨y6,2,none⟩ (.int .i64 1)) = vs at HST ⊢
            have hbu := HST.out.blk _ List.mem_cons_self
            have u0 : vs.cell? ⟨y7,0,none⟩ = some _ := Blk.cell hbu rfl
            have u1 : vs.cell? ⟨y7,1,none⟩ = some _ := Blk.cell hbu rfl
            have u2 : vs.cell? ⟨y7,2,none⟩ = some _ := Blk.cell hbu rfl
            clear hbu
            have g0 := Blk.fr (HST.out.blk _ List.mem_cons_self) 0
            have g1 := Blk.fr (HST.out.blk _ List.mem_cons_self) 1
            have g2 := Blk.fr (HST.out.blk _ List.mem_cons_self) 2
            have hst2 := (Side.store (pre := []) HST.out (.int .i64 0) (.int .i64 2) (.int .i64 1))
            have HST2 := Lib.hid hst2
            clear hst2 HST
            refine Reg.oneT rfl ?_
            go_wp2_with fail
            (refine ⟨?anew,?_⟩;case anew => ((repeat (refine Reg.anew_cons rfl rfl (fun _ => by go_simp) ?_));exact Reg.anew_nil))
            clear u0 u1 u2 g0 g1 g2
            refine Reg.doneT ?_
            simp only [Exit.then]
            go_wp2_with fail
            go_meet
            exact ⟨y6,y7,rfl,rfl,HST2⟩
      · revert y0
        as_aux_lemma =>
         intro y0
         intros
         have hs := HS1_.out.alloc [.int .i64 0,.int .i64 0,.int .i64 0] 44
         obtain ⟨y6,hy6⟩ : ∃ x,v1.heap.size = x := ⟨_,rfl⟩
         obtain ⟨v7,hv7⟩ : ∃ x,v1.alloc (.cells #[.int .i64 0,.int .i64 0,.int .i64 0] 44) = x := ⟨_,rfl⟩
         have ev7 : ([.int .i64 0,.int .i64 0,.int .i64 0] : List Value).toArray = #[.int .i64 0,.int .i64 0,.int .i64 0] := rfl
         rw [hy6,ev7,hv7] at hs
         have HS7_ := Lib.hid hs
         clear hs ev7
         clear HS1_
         clear z0 z1 z2 z3 z4 z5 z6 z7 z8 z9 z10 z11 z12 z13 z14 z15
         have hbz := HS7_.out.blk _ (List.mem_cons_of_mem _ (List.mem_cons_of_mem _ List.mem_cons_self))
         have z0 : v7.cell? ⟨x3,0,none⟩ = some _ := Blk.cell hbz rfl
         have z1 : v7.cell? ⟨x3,1,none⟩ = some _ := Blk.cell hbz rfl
         have z2 : v7.cell? ⟨x3,2,none⟩ = some _ := Blk.cell hbz rfl
         have z3 : v7.cell? ⟨x3,3,none⟩ = some _ := Blk.cell hbz rfl
         have z4 : v7.cell? ⟨x3,4,none⟩ = some _ := Blk.cell hbz rfl
         have z5 : v7.cell? ⟨x3,5,none⟩ = some _ := Blk.cell hbz rfl
         have z6 : v7.cell? ⟨x3,6,none⟩ = some _ := Blk.cell hbz rfl
         have z7 : v7.cell? ⟨x3,7,none⟩ = some _ := Blk.cell hbz rfl
         have z8 : v7.cell? ⟨x3,8,none⟩ = some _ := Blk.cell hbz rfl
         have z9 : v7.cell? ⟨x3,9,none⟩ = some _ := Blk.cell hbz rfl
         have z10 : v7.cell? ⟨x3,10,none⟩ = some _ := Blk.cell hbz rfl
         have z11 : v7.cell? ⟨x3,11,none⟩ = some _ := Blk.cell hbz rfl
         have z12 : v7.cell? ⟨x3,12,none⟩ = some _ := Blk.cell hbz rfl
         have z13 : v7.cell? ⟨x3,13,none⟩ = some _ := Blk.cell hbz rfl
         have z14 : v7.cell? ⟨x3,14,none⟩ = some _ := Blk.cell hbz rfl
         have z15 : v7.cell? ⟨x3,15,none⟩ = some _ := Blk.cell hbz rfl
         clear hbz
         go_wp2_with fail
         clear hv7 hy6
         (refine ⟨?anew,?_⟩;case anew => ((repeat (refine Reg.anew_cons rfl rfl (fun _ => by go_simp) ?_));exact Reg.anew_nil))
         refine Reg.twoT rfl rfl ?_ ?_
         · revert y0
           as_aux_lemma =>
            intro y0
            intros
            have hc : Calls Tryz.prog 12 #[.pointer (some ⟨l,0,none⟩),.agg #[.int .i64 1,.int .i64 1,.int .i64 0,.int .i64 0,.int .i64 0,.int .i64 1,.int .i64 0,.int .i64 2,.int .i64 1,.string { data := #[97] },.int .i64 0,.slice none 0 0,.int .i64 0,.int .i64 0,.slice none 0 0,.int .i64 0]] v7 fun x w' => x = .returned (.agg #[.int .i64 0,.int .i64 2,.int .i64 1]) ∧ Side w w' l aw2 [(y6,44,[.int .i64 0,.int .i64 0,.int .i64 0]),(x4,44,[.int .i64 0,.int .i64 1,.int .i64 1]),(x3,39,[.int .i64 1,.int .i64 1,.int .i64 0,.int .i64 0,.int .i64 0,.int .i64 1,.int .i64 0,.int .i64 2,.int .i64 1,.string { data := #[97] },.int .i64 0,.slice none 0 0,.int .i64 0,.int .i64 0,.slice none 0 0,.int .i64 0])] := HS7_.out.doC aw_ok2 (by decide) (cDo 1) rfl rfl (by decide) aw_3
            have HC := Lib.hid hc
            clear hc HS7_
            go_wp2_with fail
            refine HC.out.mono ?_
            rintro e v8 ⟨rfl,hs1⟩
            have HS8_ := Lib.hid hs1
            clear HC hs1 z0 z1 z2 z3 z4 z5 z6 z7 z8 z9 z10 z11 z12 z13 z14 z15
            go_wp2_with fail
            (refine ⟨?anew,?_⟩;case anew => ((repeat (refine Reg.anew_cons rfl rfl (fun _ => by go_simp) ?_));exact Reg.anew_nil))
            refine Reg.oneT rfl ?_
            have hs := HS8_.out.alloc [.int .i64 0,.int .i64 0,.int .i64 0] 44
            obtain ⟨y7,hy7⟩ : ∃ x,v8.heap.size = x := ⟨_,rfl⟩
            obtain ⟨v9,hv9⟩ : ∃ x,v8.alloc (.cells #[.int .i64 0,.int .i64 0,.int .i64 0] 44) = x := ⟨_,rfl⟩
            have ev9 : ([.int .i64 0,.int .i64 0,.int .i64 0] : List Value).toArray = #[.int .i64 0,.int .i64 0,.int .i64 0] := rfl
            rw [hy7,ev9,hv9] at hs
            have HS9_ := Lib.hid hs
            clear hs ev9
            clear HS8_
            go_wp2_with fail
            clear hv9 hy7
            (refine ⟨?anew,?_⟩;case anew => ((repeat (refine Reg.anew_cons rfl rfl (fun _ => by go_simp) ?_));exact Reg.anew_nil))
            refine Reg.oneT rfl ?_
            have hbt := HS9_.out.blk _ (List.mem_cons_of_mem _ List.mem_cons_self)
            have t0 : v9.cell? ⟨y6,0,none⟩ = some _ := Blk.cell hbt rfl
            have t1 : v9.cell? ⟨y6,1,none⟩ = some _ := Blk.cell hbt rfl
            have t2 : v9.cell? ⟨y6,2,none⟩ = some _ := Blk.cell hbt rfl
            clear hbt
            have g0 := Blk.fr (HS9_.out.blk _ (List.mem_cons_of_mem _ List.mem_cons_self)) 0
            have g1 := Blk.fr (HS9_.out.blk _ (List.mem_cons_of_mem _ List.mem_cons_self)) 1
            have g2 := Blk.fr (HS9_.out.blk _ (List.mem_cons_of_mem _ List.mem_cons_self)) 2
            have hst := (Side.store (pre := [(y7,44,[.int .i64 0,.int .i64 0,.int .i64 0])]) HS9_.out (.int .i64 0) (.int .i64 2) (.int .i64 1))
            have HST := Lib.hid hst
            clear hst HS9_
            go_wp2_with fail
            (refine ⟨?anew,?_⟩;case anew => ((repeat (refine Reg.anew_cons rfl rfl (fun _ => by go_simp) ?_));exact Reg.anew_nil))
            clear t0 t1 t2 g0 g1 g2
            generalize (((v9.setCell ⟨y6,0,none⟩ (.int .i64 0)).setCell ⟨y6,1,none⟩ (.int .i64 2)).setCell ⟨y6,2,none⟩ (.int .i64 1)) = vs at HST ⊢
            have hbu := HST.out.blk _ List.mem_cons_self
            have u0 : vs.cell? ⟨y7,0,none⟩ = some _ := Blk.cell hbu rfl
            have u1 : vs.cell? ⟨y7,1,none⟩ = some _ := Blk.cell hbu rfl
            have u2 : vs.cell? ⟨y7,2,none⟩ = some _ := Blk.cell hbu rfl
            clear hbu
            have g0 := Blk.fr (HST.out.blk _ List.mem_cons_self) 0
            have g1 := Blk.fr (HST.out.blk _ List.mem_cons_self) 1
            have g2 := Blk.fr (HST.out.blk _ List.mem_cons_self) 2
            have hst2 := (Side.store (pre := []) HST.out (.int .i64 0) (.int .i64 2) (.int .i64 1))
            have HST2 := Lib.hid hst2
            clear hst2 HST
            refine Reg.oneT rfl ?_
            go_wp2_with fail
            (refine ⟨?anew,?_⟩;case anew => ((repeat (refine Reg.anew_cons rfl rfl (fun _ => by go_simp) ?_));exact Reg.anew_nil))
            clear u0 u1 u2 g0 g1 g2
            refine Reg.doneT ?_
            simp only [Exit.then]
            go_wp2_with fail
            go_meet
            exact ⟨y6,y7,rfl,rfl,HST2⟩
         · revert y0
           as_aux_lemma =>
            intro y0
            intros
            have hs := HS7_.out.alloc [.int .i64 0,.int .i64 0,.int .i64 0] 44
            obtain ⟨y7,hy7⟩ : ∃ x,v7.heap.size = x := ⟨_,rfl⟩
            obtain ⟨v10,hv10⟩ : ∃ x,v7.alloc (.cells #[.int .i64 0,.int .i64 0,.int .i64 0] 44) = x := ⟨_,rfl⟩
            have ev10 : ([.int .i64 0,.int .i64 0,.int .i64 0] : List Value).toArray = #[.int .i64 0,.int .i64 0,.int .i64 0] := rfl
            rw [hy7,ev10,hv10] at hs
            have HS10_ := Lib.hid hs
            clear hs ev10
            clear HS7_
            clear z0 z1 z2 z3 z4 z5 z6 z7 z8 z9 z10 z11 z12 z13 z14 z15
            have hbz := HS10_.out.blk _ (List.mem_cons_of_mem _ (List.mem_cons_of_mem _ (List.mem_cons_of_mem _ List.mem_cons_self)))
            have z0 : v10.cell? ⟨x3,0,none⟩ = some _ := Blk.cell hbz rfl
            have z1 : v10.cell? ⟨x3,1,none⟩ = some _ := Blk.cell hbz rfl
            have z2 : v10.cell? ⟨x3,2,none⟩ = some _ := Blk.cell hbz rfl
            have z3 : v10.cell? ⟨x3,3,none⟩ = some _ := Blk.cell hbz rfl
            have z4 : v10.cell? ⟨x3,4,none⟩ = some _ := Blk.cell hbz rfl
            have z5 : v10.cell? ⟨x3,5,none⟩ = some _ := Blk.cell hbz rfl
            have z6 : v10.cell? ⟨x3,6,none⟩ = some _ := Blk.cell hbz rfl
            have z7 : v10.cell? ⟨x3,7,none⟩ = some _ := Blk.cell hbz rfl
            have z8 : v10.cell? ⟨x3,8,none⟩ = some _ := Blk.cell hbz rfl
            have z9 : v10.cell? ⟨x3,9,none⟩ = some _ := Blk.cell hbz rfl
            have z10 : v10.cell? ⟨x3,10,none⟩ = some _ := Blk.cell hbz rfl
            have z11 : v10.cell? ⟨x3,11,none⟩ = some _ := Blk.cell hbz rfl
            have z12 : v10.cell? ⟨x3,12,none⟩ = some _ := Blk.cell hbz rfl
            have z13 : v10.cell? ⟨x3,13,none⟩ = some _ := Blk.cell hbz rfl
            have z14 : v10.cell? ⟨x3,14,none⟩ = some _ := Blk.cell hbz rfl
            have z15 : v10.cell? ⟨x3,15,none⟩ = some _ := Blk.cell hbz rfl
            clear hbz
            go_wp2_with fail
            clear hv10 hy7
            (refine ⟨?anew,?_⟩;case anew => ((repeat (refine Reg.anew_cons rfl rfl (fun _ => by go_simp) ?_));exact Reg.anew_nil))
            refine Reg.oneT rfl ?_
            have hc : Calls Tryz.prog 12 #[.pointer (some ⟨l,0,none⟩),.agg #[.int .i64 1,.int .i64 1,.int .i64 0,.int .i64 0,.int .i64 0,.int .i64 1,.int .i64 0,.int .i64 2,.int .i64 1,.string { data := #[97] },.int .i64 0,.slice none 0 0,.int .i64 0,.int .i64 0,.slice none 0 0,.int .i64 0]] v10 fun x w' => x = .returned (.agg #[.int .i64 0,.int .i64 2,.int .i64 1]) ∧ Side w w' l aw2 [(y7,44,[.int .i64 0,.int .i64 0,.int .i64 0]),(y6,44,[.int .i64 0,.int .i64 0,.int .i64 0]),(x4,44,[.int .i64 0,.int .i64 1,.int .i64 1]),(x3,39,[.int .i64 1,.int .i64 1,.int .i64 0,.int .i64 0,.int .i64 0,.int .i64 1,.int .i64 0,.int .i64 2,.int .i64 1,.string { data := #[97] },.int .i64 0,.slice none 0 0,.int .i64 0,.int .i64 0,.slice none 0 0,.int .i64 0])] := HS10_.out.doC aw_ok2 (by decide) (cDo 1) rfl rfl (by decide) aw_3
            have HC := Lib.hid hc
            clear hc HS10_
            go_wp2_with fail
            refine HC.out.mono ?_
            rintro e v11 ⟨rfl,hs1⟩
            have HS11_ := Lib.hid hs1
            clear HC hs1 z0 z1 z2 z3 z4 z5 z6 z7 z8 z9 z10 z11 z12 z13 z14 z15
            go_wp2_with fail
            (refine ⟨?anew,?_⟩;case anew => ((repeat (refine Reg.anew_cons rfl rfl (fun _ => by go_simp) ?_));exact Reg.anew_nil))
            refine Reg.oneT rfl ?_
            have hbt := HS11_.out.blk _ (List.mem_cons_of_mem _ List.mem_cons_self)
            have t0 : v11.cell? ⟨y6,0,none⟩ = some _ := Blk.cell hbt rfl
            have t1 : v11.cell? ⟨y6,1,none⟩ = some _ := Blk.cell hbt rfl
            have t2 : v11.cell? ⟨y6,2,none⟩ = some _ := Blk.cell hbt rfl
            clear hbt
            have g0 := Blk.fr (HS11_.out.blk _ (List.mem_cons_of_mem _ List.mem_cons_self)) 0
            have g1 := Blk.fr (HS11_.out.blk _ (List.mem_cons_of_mem _ List.mem_cons_self)) 1
            have g2 := Blk.fr (HS11_.out.blk _ (List.mem_cons_of_mem _ List.mem_cons_self)) 2
            have hst := (Side.store (pre := [(y7,44,[.int .i64 0,.int .i64 0,.int .i64 0])]) HS11_.out (.int .i64 0) (.int .i64 2) (.int .i64 1))
            have HST := Lib.hid hst
            clear hst HS11_
            go_wp2_with fail
            (refine ⟨?anew,?_⟩;case anew => ((repeat (refine Reg.anew_cons rfl rfl (fun _ => by go_simp) ?_));exact Reg.anew_nil))
            clear t0 t1 t2 g0 g1 g2
            generalize (((v11.setCell ⟨y6,0,none⟩ (.int .i64 0)).setCell ⟨y6,1,none⟩ (.int .i64 2)).setCell ⟨y6,2,none⟩ (.int .i64 1)) = vs at HST ⊢
            have hbu := HST.out.blk _ List.mem_cons_self
            have u0 : vs.cell? ⟨y7,0,none⟩ = some _ := Blk.cell hbu rfl
            have u1 : vs.cell? ⟨y7,1,none⟩ = some _ := Blk.cell hbu rfl
            have u2 : vs.cell? ⟨y7,2,none⟩ = some _ := Blk.cell hbu rfl
            clear hbu
            have g0 := Blk.fr (HST.out.blk _ List.mem_cons_self) 0
            have g1 := Blk.fr (HST.out.blk _ List.mem_cons_self) 1
            have g2 := Blk.fr (HST.out.blk _ List.mem_cons_self) 2
            have hst2 := (Side.store (pre := []) HST.out (.int .i64 0) (.int .i64 2) (.int .i64 1))
            have HST2 := Lib.hid hst2
            clear hst2 HST
            refine Reg.oneT rfl ?_
            go_wp2_with fail
            (refine ⟨?anew,?_⟩;case anew => ((repeat (refine Reg.anew_cons rfl rfl (fun _ => by go_simp) ?_));exact Reg.anew_nil))
            clear u0 u1 u2 g0 g1 g2
            refine Reg.doneT ?_
            simp only [Exit.then]
            go_wp2_with fail
            go_meet
            exact ⟨y6,y7,rfl,rfl,HST2⟩
      · revert y0
        as_aux_lemma =>
         intro y0
         intros
         have hs := HS1_.out.alloc [.int .i64 0,.int .i64 0,.int .i64 0] 44
         obtain ⟨y7,hy7⟩ : ∃ x,v1.heap.size = x := ⟨_,rfl⟩
         obtain ⟨v12,hv12⟩ : ∃ x,v1.alloc (.cells #[.int .i64 0,.int .i64 0,.int .i64 0] 44) = x := ⟨_,rfl⟩
         have ev12 : ([.int .i64 0,.int .i64 0,.int .i64 0] : List Value).toArray = #[.int .i64 0,.int .i64 0,.int .i64 0] := rfl
         rw [hy7,ev12,hv12] at hs
         have HS12_ := Lib.hid hs
         clear hs ev12
         clear HS1_
         clear z0 z1 z2 z3 z4 z5 z6 z7 z8 z9 z10 z11 z12 z13 z14 z15
         have hbz := HS12_.out.blk _ (List.mem_cons_of_mem _ (List.mem_cons_of_mem _ List.mem_cons_self))
         have z0 : v12.cell? ⟨x3,0,none⟩ = some _ := Blk.cell hbz rfl
         have z1 : v12.cell? ⟨x3,1,none⟩ = some _ := Blk.cell hbz rfl
         have z2 : v12.cell? ⟨x3,2,none⟩ = some _ := Blk.cell hbz rfl
         have z3 : v12.cell? ⟨x3,3,none⟩ = some _ := Blk.cell hbz rfl
         have z4 : v12.cell? ⟨x3,4,none⟩ = some _ := Blk.cell hbz rfl
         have z5 : v12.cell? ⟨x3,5,none⟩ = some _ := Blk.cell hbz rfl
         have z6 : v12.cell? ⟨x3,6,none⟩ = some _ := Blk.cell hbz rfl
         have z7 : v12.cell? ⟨x3,7,none⟩ = some _ := Blk.cell hbz rfl
         have z8 : v12.cell? ⟨x3,8,none⟩ = some _ := Blk.cell hbz rfl
         have z9 : v12.cell? ⟨x3,9,none⟩ = some _ := Blk.cell hbz rfl
         have z10 : v12.cell? ⟨x3,10,none⟩ = some _ := Blk.cell hbz rfl
         have z11 : v12.cell? ⟨x3,11,none⟩ = some _ := Blk.cell hbz rfl
         have z12 : v12.cell? ⟨x3,12,none⟩ = some _ := Blk.cell hbz rfl
         have z13 : v12.cell? ⟨x3,13,none⟩ = some _ := Blk.cell hbz rfl
         have z14 : v12.cell? ⟨x3,14,none⟩ = some _ := Blk.cell hbz rfl
         have z15 : v12.cell? ⟨x3,15,none⟩ = some _ := Blk.cell hbz rfl
         clear hbz
         go_wp2_with fail
         clear hv12 hy7
         (refine ⟨?anew,?_⟩;case anew => ((repeat (refine Reg.anew_cons rfl rfl (fun _ => by go_simp) ?_));exact Reg.anew_nil))
         refine Reg.twoT rfl rfl ?_ ?_
         · revert y0
           as_aux_lemma =>
            intro y0
            intros
            have hc : Calls Tryz.prog 12 #[.pointer (some ⟨l,0,none⟩),.agg #[.int .i64 1,.int .i64 1,.int .i64 0,.int .i64 0,.int .i64 0,.int .i64 1,.int .i64 0,.int .i64 2,.int .i64 1,.string { data := #[97] },.int .i64 0,.slice none 0 0,.int .i64 0,.int .i64 0,.slice none 0 0,.int .i64 0]] v12 fun x w' => x = .returned (.agg #[.int .i64 0,.int .i64 2,.int .i64 1]) ∧ Side w w' l aw2 [(y7,44,[.int .i64 0,.int .i64 0,.int .i64 0]),(x4,44,[.int .i64 0,.int .i64 1,.int .i64 1]),(x3,39,[.int .i64 1,.int .i64 1,.int .i64 0,.int .i64 0,.int .i64 0,.int .i64 1,.int .i64 0,.int .i64 2,.int .i64 1,.string { data := #[97] },.int .i64 0,.slice none 0 0,.int .i64 0,.int .i64 0,.slice none 0 0,.int .i64 0])] := HS12_.out.doC aw_ok2 (by decide) (cDo 1) rfl rfl (by decide) aw_3
            have HC := Lib.hid hc
            clear hc HS12_
            go_wp2_with fail
            refine HC.out.mono ?_
            rintro e v13 ⟨rfl,hs1⟩
            have HS13_ := Lib.hid hs1
            clear HC hs1 z0 z1 z2 z3 z4 z5 z6 z7 z8 z9 z10 z11 z12 z13 z14 z15
            go_wp2_with fail
            (refine ⟨?anew,?_⟩;case anew => ((repeat (refine Reg.anew_cons rfl rfl (fun _ => by go_simp) ?_));exact Reg.anew_nil))
            refine Reg.oneT rfl ?_
            have hs := HS13_.out.alloc [.int .i64 0,.int .i64 0,.int .i64 0] 44
            obtain ⟨y6,hy6⟩ : ∃ x,v13.heap.size = x := ⟨_,rfl⟩
            obtain ⟨v14,hv14⟩ : ∃ x,v13.alloc (.cells #[.int .i64 0,.int .i64 0,.int .i64 0] 44) = x := ⟨_,rfl⟩
            have ev14 : ([.int .i64 0,.int .i64 0,.int .i64 0] : List Value).toArray = #[.int .i64 0,.int .i64 0,.int .i64 0] := rfl
            rw [hy6,ev14,hv14] at hs
            have HS14_ := Lib.hid hs
            clear hs ev14
            clear HS13_
            go_wp2_with fail
            clear hv14 hy6
            (refine ⟨?anew,?_⟩;case anew => ((repeat (refine Reg.anew_cons rfl rfl (fun _ => by go_simp) ?_));exact Reg.anew_nil))
            refine Reg.oneT rfl ?_
            have hsw := Lib.hid HS14_.out.swap
            clear HS14_
            have hbt := hsw.out.blk _ (List.mem_cons_of_mem _ List.mem_cons_self)
            have t0 : v14.cell? ⟨y6,0,none⟩ = some _ := Blk.cell hbt rfl
            have t1 : v14.cell? ⟨y6,1,none⟩ = some _ := Blk.cell hbt rfl
            have t2 : v14.cell? ⟨y6,2,none⟩ = some _ := Blk.cell hbt rfl
            clear hbt
            have g0 := Blk.fr (hsw.out.blk _ (List.mem_cons_of_mem _ List.mem_cons_self)) 0
            have g1 := Blk.fr (hsw.out.blk _ (List.mem_cons_of_mem _ List.mem_cons_self)) 1
            have g2 := Blk.fr (hsw.out.blk _ (List.mem_cons_of_mem _ List.mem_cons_self)) 2
            have hst := (Side.store (pre := [(y7,44,[.int .i64 0,.int .i64 0,.int .i64 0])]) hsw.out (.int .i64 0) (.int .i64 2) (.int .i64 1))
            have HST := Lib.hid hst
            clear hst hsw
            go_wp2_with fail
            (refine ⟨?anew,?_⟩;case anew => ((repeat (refine Reg.anew_cons rfl rfl (fun _ => by go_simp) ?_));exact Reg.anew_nil))
            clear t0 t1 t2 g0 g1 g2
            generalize (((v14.setCell ⟨y6,0,none⟩ (.int .i64 0)).setCell ⟨y6,1,none⟩ (.int .i64 2)).setCell ⟨y6,2,none⟩ (.int .i64 1)) = vs at HST ⊢
            have hbu := HST.out.blk _ List.mem_cons_self
            have u0 : vs.cell? ⟨y7,0,none⟩ = some _ := Blk.cell hbu rfl
            have u1 : vs.cell? ⟨y7,1,none⟩ = some _ := Blk.cell hbu rfl
            have u2 : vs.cell? ⟨y7,2,none⟩ = some _ := Blk.cell hbu rfl
            clear hbu
            have g0 := Blk.fr (HST.out.blk _ List.mem_cons_self) 0
            have g1 := Blk.fr (HST.out.blk _ List.mem_cons_self) 1
            have g2 := Blk.fr (HST.out.blk _ List.mem_cons_self) 2
            have hst2 := (Side.store (pre := []) HST.out (.int .i64 0) (.int .i64 2) (.int .i64 1))
            have HST2 := Lib.hid hst2
            clear hst2 HST
            refine Reg.oneT rfl ?_
            go_wp2_with fail
            (refine ⟨?anew,?_⟩;case anew => ((repeat (refine Reg.anew_cons rfl rfl (fun _ => by go_simp) ?_));exact Reg.anew_nil))
            clear u0 u1 u2 g0 g1 g2
            refine Reg.doneT ?_
            simp only [Exit.then]
            go_wp2_with fail
            go_meet
            exact ⟨y6,y7,rfl,rfl,HST2⟩
         · revert y0
           as_aux_lemma =>
            intro y0
            intros
            have hs := HS12_.out.alloc [.int .i64 0,.int .i64 0,.int .i64 0] 44
            obtain ⟨y6,hy6⟩ : ∃ x,v12.heap.size = x := ⟨_,rfl⟩
            obtain ⟨v15,hv15⟩ : ∃ x,v12.alloc (.cells #[.int .i64 0,.int .i64 0,.int .i64 0] 44) = x := ⟨_,rfl⟩
            have ev15 : ([.int .i64 0,.int .i64 0,.int .i64 0] : List Value).toArray = #[.int .i64 0,.int .i64 0,.int .i64 0] := rfl
            rw [hy6,ev15,hv15] at hs
            have HS15_ := Lib.hid hs
            clear hs ev15
            clear HS12_
            clear z0 z1 z2 z3 z4 z5 z6 z7 z8 z9 z10 z11 z12 z13 z14 z15
            have hbz := HS15_.out.blk _ (List.mem_cons_of_mem _ (List.mem_cons_of_mem _ (List.mem_cons_of_mem _ List.mem_cons_self)))
            have z0 : v15.cell? ⟨x3,0,none⟩ = some _ := Blk.cell hbz rfl
            have z1 : v15.cell? ⟨x3,1,none⟩ = some _ := Blk.cell hbz rfl
            have z2 : v15.cell? ⟨x3,2,none⟩ = some _ := Blk.cell hbz rfl
            have z3 : v15.cell? ⟨x3,3,none⟩ = some _ := Blk.cell hbz rfl
            have z4 : v15.cell? ⟨x3,4,none⟩ = some _ := Blk.cell hbz rfl
            have z5 : v15.cell? ⟨x3,5,none⟩ = some _ := Blk.cell hbz rfl
            have z6 : v15.cell? ⟨x3,6,none⟩ = some _ := Blk.cell hbz rfl
            have z7 : v15.cell? ⟨x3,7,none⟩ = some _ := Blk.cell hbz rfl
            have z8 : v15.cell? ⟨x3,8,none⟩ = some _ := Blk.cell hbz rfl
            have z9 : v15.cell? ⟨x3,9,none⟩ = some _ := Blk.cell hbz rfl
            have z10 : v15.cell? ⟨x3,10,none⟩ = some _ := Blk.cell hbz rfl
            have z11 : v15.cell? ⟨x3,11,none⟩ = some _ := Blk.cell hbz rfl
            have z12 : v15.cell? ⟨x3,12,none⟩ = some _ := Blk.cell hbz rfl
            have z13 : v15.cell? ⟨x3,13,none⟩ = some _ := Blk.cell hbz rfl
            have z14 : v15.cell? ⟨x3,14,none⟩ = some _ := Blk.cell hbz rfl
            have z15 : v15.cell? ⟨x3,15,none⟩ = some _ := Blk.cell hbz rfl
            clear hbz
            go_wp2_with fail
            clear hv15 hy6
            (refine ⟨?anew,?_⟩;case anew => ((repeat (refine Reg.anew_cons rfl rfl (fun _ => by go_simp) ?_));exact Reg.anew_nil))
            refine Reg.oneT rfl ?_
            have hc : Calls Tryz.prog 12 #[.pointer (some ⟨l,0,none⟩),.agg #[.int .i64 1,.int .i64 1,.int .i64 0,.int .i64 0,.int .i64 0,.int .i64 1,.int .i64 0,.int .i64 2,.int .i64 1,.string { data := #[97] },.int .i64 0,.slice none 0 0,.int .i64 0,.int .i64 0,.slice none 0 0,.int .i64 0]] v15 fun x w' => x = .returned (.agg #[.int .i64 0,.int .i64 2,.int .i64 1]) ∧ Side w w' l aw2 [(y6,44,[.int .i64 0,.int .i64 0,.int .i64 0]),(y7,44,[.int .i64 0,.int .i64 0,.int .i64 0]),(x4,44,[.int .i64 0,.int .i64 1,.int .i64 1]),(x3,39,[.int .i64 1,.int .i64 1,.int .i64 0,.int .i64 0,.int .i64 0,.int .i64 1,.int .i64 0,.int .i64 2,.int .i64 1,.string { data := #[97] },.int .i64 0,.slice none 0 0,.int .i64 0,.int .i64 0,.slice none 0 0,.int .i64 0])] := HS15_.out.doC aw_ok2 (by decide) (cDo 1) rfl rfl (by decide) aw_3
            have HC := Lib.hid hc
            clear hc HS15_
            go_wp2_with fail
            refine HC.out.mono ?_
            rintro e v16 ⟨rfl,hs1⟩
            have HS16_ := Lib.hid hs1
            clear HC hs1 z0 z1 z2 z3 z4 z5 z6 z7 z8 z9 z10 z11 z12 z13 z14 z15
            go_wp2_with fail
            (refine ⟨?anew,?_⟩;case anew => ((repeat (refine Reg.anew_cons rfl rfl (fun _ => by go_simp) ?_));exact Reg.anew_nil))
            refine Reg.oneT rfl ?_
            have hsw := Lib.hid HS16_.out.swap
            clear HS16_
            have hbt := hsw.out.blk _ (List.mem_cons_of_mem _ List.mem_cons_self)
            have t0 : v16.cell? ⟨y6,0,none⟩ = some _ := Blk.cell hbt rfl
            have t1 : v16.cell? ⟨y6,1,none⟩ = some _ := Blk.cell hbt rfl
            have t2 : v16.cell? ⟨y6,2,none⟩ = some _ := Blk.cell hbt rfl
            clear hbt
            have g0 := Blk.fr (hsw.out.blk _ (List.mem_cons_of_mem _ List.mem_cons_self)) 0
            have g1 := Blk.fr (hsw.out.blk _ (List.mem_cons_of_mem _ List.mem_cons_self)) 1
            have g2 := Blk.fr (hsw.out.blk _ (List.mem_cons_of_mem _ List.mem_cons_self)) 2
            have hst := (Side.store (pre := [(y7,44,[.int .i64 0,.int .i64 0,.int .i64 0])]) hsw.out (.int .i64 0) (.int .i64 2) (.int .i64 1))
            have HST := Lib.hid hst
            clear hst hsw
            go_wp2_with fail
            (refine ⟨?anew,?_⟩;case anew => ((repeat (refine Reg.anew_cons rfl rfl (fun _ => by go_simp) ?_));exact Reg.anew_nil))
            clear t0 t1 t2 g0 g1 g2
            generalize (((v16.setCell ⟨y6,0,none⟩ (.int .i64 0)).setCell ⟨y6,1,none⟩ (.int .i64 2)).setCell ⟨y6,2,none⟩ (.int .i64 1)) = vs at HST ⊢
            have hbu := HST.out.blk _ List.mem_cons_self
            have u0 : vs.cell? ⟨y7,0,none⟩ = some _ := Blk.cell hbu rfl
            have u1 : vs.cell? ⟨y7,1,none⟩ = some _ := Blk.cell hbu rfl
            have u2 : vs.cell? ⟨y7,2,none⟩ = some _ := Blk.cell hbu rfl
            clear hbu
            have g0 := Blk.fr (HST.out.blk _ List.mem_cons_self) 0
            have g1 := Blk.fr (HST.out.blk _ List.mem_cons_self) 1
            have g2 := Blk.fr (HST.out.blk _ List.mem_cons_self) 2
            have hst2 := (Side.store (pre := []) HST.out (.int .i64 0) (.int .i64 2) (.int .i64 1))
            have HST2 := Lib.hid hst2
            clear hst2 HST
            refine Reg.oneT rfl ?_
            go_wp2_with fail
            (refine ⟨?anew,?_⟩;case anew => ((repeat (refine Reg.anew_cons rfl rfl (fun _ => by go_simp) ?_));exact Reg.anew_nil))
            clear u0 u1 u2 g0 g1 g2
            refine Reg.doneT ?_
            simp only [Exit.then]
            go_wp2_with fail
            go_meet
            exact ⟨y6,y7,rfl,rfl,HST2⟩
   · revert y0
     as_aux_lemma =>
      intro y0
      intros
      have hs := HSa.out.alloc [.int .i64 0,.int .i64 0,.int .i64 0] 44
      obtain ⟨y6,hy6⟩ : ∃ x,v0.heap.size = x := ⟨_,rfl⟩
      obtain ⟨v17,hv17⟩ : ∃ x,v0.alloc (.cells #[.int .i64 0,.int .i64 0,.int .i64 0] 44) = x := ⟨_,rfl⟩
      have ev17 : ([.int .i64 0,.int .i64 0,.int .i64 0] : List Value).toArray = #[.int .i64 0,.int .i64 0,.int .i64 0] := rfl
      rw [hy6,ev17,hv17] at hs
      have HS17_ := Lib.hid hs
      clear hs ev17
      clear HSa
      clear z0 z1 z2 z3 z4 z5 z6 z7 z8 z9 z10 z11 z12 z13 z14 z15
      have hbz := HS17_.out.blk _ (List.mem_cons_of_mem _ (List.mem_cons_of_mem _ List.mem_cons_self))
      have z0 : v17.cell? ⟨x3,0,none⟩ = some _ := Blk.cell hbz rfl
      have z1 : v17.cell? ⟨x3,1,none⟩ = some _ := Blk.cell hbz rfl
      have z2 : v17.cell? ⟨x3,2,none⟩ = some _ := Blk.cell hbz rfl
      have z3 : v17.cell? ⟨x3,3,none⟩ = some _ := Blk.cell hbz rfl
      have z4 : v17.cell? ⟨x3,4,none⟩ = some _ := Blk.cell hbz rfl
      have z5 : v17.cell? ⟨x3,5,none⟩ = some _ := Blk.cell hbz rfl
      have z6 : v17.cell? ⟨x3,6,none⟩ = some _ := Blk.cell hbz rfl
      have z7 : v17.cell? ⟨x3,7,none⟩ = some _ := Blk.cell hbz rfl
      have z8 : v17.cell? ⟨x3,8,none⟩ = some _ := Blk.cell hbz rfl
      have z9 : v17.cell? ⟨x3,9,none⟩ = some _ := Blk.cell hbz rfl
      have z10 : v17.cell? ⟨x3,10,none⟩ = some _ := Blk.cell hbz rfl
      have z11 : v17.cell? ⟨x3,11,none⟩ = some _ := Blk.cell hbz rfl
      have z12 : v17.cell? ⟨x3,12,none⟩ = some _ := Blk.cell hbz rfl
      have z13 : v17.cell? ⟨x3,13,none⟩ = some _ := Blk.cell hbz rfl
      have z14 : v17.cell? ⟨x3,14,none⟩ = some _ := Blk.cell hbz rfl
      have z15 : v17.cell? ⟨x3,15,none⟩ = some _ := Blk.cell hbz rfl
      clear hbz
      go_wp2_with fail
      clear hv17 hy6
      (refine ⟨?anew,?_⟩;case anew => ((repeat (refine Reg.anew_cons rfl rfl (fun _ => by go_simp) ?_));exact Reg.anew_nil))
      refine Reg.twoT rfl rfl ?_ ?_
      · revert y0
        as_aux_lemma =>
         intro y0
         intros
         have hc : Calls Tryz.prog 12 #[.pointer (some ⟨l,0,none⟩),.agg #[.int .i64 1,.int .i64 1,.int .i64 0,.int .i64 0,.int .i64 0,.int .i64 1,.int .i64 0,.int .i64 2,.int .i64 1,.string { data := #[97] },.int .i64 0,.slice none 0 0,.int .i64 0,.int .i64 0,.slice none 0 0,.int .i64 0]] v17 fun x w' => x = .returned (.agg #[.int .i64 0,.int .i64 2,.int .i64 1]) ∧ Side w w' l aw2 [(y6,44,[.int .i64 0,.int .i64 0,.int .i64 0]),(x4,44,[.int .i64 0,.int .i64 1,.int .i64 1]),(x3,39,[.int .i64 1,.int .i64 1,.int .i64 0,.int .i64 0,.int .i64 0,.int .i64 1,.int .i64 0,.int .i64 2,.int .i64 1,.string { data := #[97] },.int .i64 0,.slice none 0 0,.int .i64 0,.int .i64 0,.slice none 0 0,.int .i64 0])] := HS17_.out.doC aw_ok1 (by decide) (cDo 1) rfl rfl (by decide) aw_2
         have HC := Lib.hid hc
         clear hc HS17_
         go_wp2_with fail
         refine HC.out.mono ?_
         rintro e v18 ⟨rfl,hs1⟩
         have HS18_ := Lib.hid hs1
         clear HC hs1 z0 z1 z2 z3 z4 z5 z6 z7 z8 z9 z10 z11 z12 z13 z14 z15
         have hbz := HS18_.out.blk _ (List.mem_cons_of_mem _ (List.mem_cons_of_mem _ List.mem_cons_self))
         have z0 : v18.cell? ⟨x3,0,none⟩ = some _ := Blk.cell hbz rfl
         have z1 : v18.cell? ⟨x3,1,none⟩ = some _ := Blk.cell hbz rfl
         have z2 : v18.cell? ⟨x3,2,none⟩ = some _ := Blk.cell hbz rfl
         have z3 : v18.cell? ⟨x3,3,none⟩ = some _ := Blk.cell hbz rfl
         have z4 : v18.cell? ⟨x3,4,none⟩ = some _ := Blk.cell hbz rfl
         have z5 : v18.cell? ⟨x3,5,none⟩ = some _ := Blk.cell hbz rfl
         have z6 : v18.cell? ⟨x3,6,none⟩ = some _ := Blk.cell hbz rfl
         have z7 : v18.cell? ⟨x3,7,none⟩ = some _ := Blk.cell hbz rfl
         have z8 : v18.cell? ⟨x3,8,none⟩ = some _ := Blk.cell hbz rfl
         have z9 : v18.cell? ⟨x3,9,none⟩ = some _ := Blk.cell hbz rfl
         have z10 : v18.cell? ⟨x3,10,none⟩ = some _ := Blk.cell hbz rfl
         have z11 : v18.cell? ⟨x3,11,none⟩ = some _ := Blk.cell hbz rfl
         have z12 : v18.cell? ⟨x3,12,none⟩ = some _ := Blk.cell hbz rfl
         have z13 : v18.cell? ⟨x3,13,none⟩ = some _ := Blk.cell hbz rfl
         have z14 : v18.cell? ⟨x3,14,none⟩ = some _ := Blk.cell hbz rfl
         have z15 : v18.cell? ⟨x3,15,none⟩ = some _ := Blk.cell hbz rfl
         clear hbz
         go_wp2_with fail
         (refine ⟨?anew,?_⟩;case anew => ((repeat (refine Reg.anew_cons rfl rfl (fun _ => by go_simp) ?_));exact Reg.anew_nil))
         refine Reg.twoT rfl rfl ?_ ?_
         · revert y0
           as_aux_lemma =>
            intro y0
            intros
            have hc : Calls Tryz.prog 12 #[.pointer (some ⟨l,0,none⟩),.agg #[.int .i64 1,.int .i64 1,.int .i64 0,.int .i64 0,.int .i64 0,.int .i64 1,.int .i64 0,.int .i64 2,.int .i64 1,.string { data := #[97] },.int .i64 0,.slice none 0 0,.int .i64 0,.int .i64 0,.slice none 0 0,.int .i64 0]] v18 fun x w' => x = .returned (.agg #[.int .i64 0,.int .i64 2,.int .i64 1]) ∧ Side w w' l aw2 [(y6,44,[.int .i64 0,.int .i64 0,.int .i64 0]),(x4,44,[.int .i64 0,.int .i64 1,.int .i64 1]),(x3,39,[.int .i64 1,.int .i64 1,.int .i64 0,.int .i64 0,.int .i64 0,.int .i64 1,.int .i64 0,.int .i64 2,.int .i64 1,.string { data := #[97] },.int .i64 0,.slice none 0 0,.int .i64 0,.int .i64 0,.slice none 0 0,.int .i64 0])] := HS18_.out.doC aw_ok2 (by decide) (cDo 1) rfl rfl (by decide) aw_3
            have HC := Lib.hid hc
            clear hc HS18_
            go_wp2_with fail
            refine HC.out.mono ?_
            rintro e v19 ⟨rfl,hs1⟩
            have HS19_ := Lib.hid hs1
            clear HC hs1 z0 z1 z2 z3 z4 z5 z6 z7 z8 z9 z10 z11 z12 z13 z14 z15
            go_wp2_with fail
            (refine ⟨?anew,?_⟩;case anew => ((repeat (refine Reg.anew_cons rfl rfl (fun _ => by go_simp) ?_));exact Reg.anew_nil))
            refine Reg.oneT rfl ?_
            have hs := HS19_.out.alloc [.int .i64 0,.int .i64 0,.int .i64 0] 44
            obtain ⟨y7,hy7⟩ : ∃ x,v19.heap.size = x := ⟨_,rfl⟩
            obtain ⟨v20,hv20⟩ : ∃ x,v19.alloc (.cells #[.int .i64 0,.int .i64 0,.int .i64 0] 44) = x := ⟨_,rfl⟩
            have ev20 : ([.int .i64 0,.int .i64 0,.int .i64 0] : List Value).toArray = #[.int .i64 0,.int .i64 0,.int .i64 0] := rfl
            rw [hy7,ev20,hv20] at hs
            have HS20_ := Lib.hid hs
            clear hs ev20
            clear HS19_
            go_wp2_with fail
            clear hv20 hy7
            (refine ⟨?anew,?_⟩;case anew => ((repeat (refine Reg.anew_cons rfl rfl (fun _ => by go_simp) ?_));exact Reg.anew_nil))
            refine Reg.oneT rfl ?_
            have hbt := HS20_.out.blk _ (List.mem_cons_of_mem _ List.mem_cons_self)
            have t0 : v20.cell? ⟨y6,0,none⟩ = some _ := Blk.cell hbt rfl
            have t1 : v20.cell? ⟨y6,1,none⟩ = some _ := Blk.cell hbt rfl
            have t2 : v20.cell? ⟨y6,2,none⟩ = some _ := Blk.cell hbt rfl
            clear hbt
            have g0 := Blk.fr (HS20_.out.blk _ (List.mem_cons_of_mem _ List.mem_cons_self)) 0
            have g1 := Blk.fr (HS20_.out.blk _ (List.mem_cons_of_mem _ List.mem_cons_self)) 1
            have g2 := Blk.fr (HS20_.out.blk _ (List.mem_cons_of_mem _ List.mem_cons_self)) 2
            have hst := (Side.store (pre := [(y7,44,[.int .i64 0,.int .i64 0,.int .i64 0])]) HS20_.out (.int .i64 0) (.int .i64 2) (.int .i64 1))
            have HST := Lib.hid hst
            clear hst HS20_
            go_wp2_with fail
            (refine ⟨?anew,?_⟩;case anew => ((repeat (refine Reg.anew_cons rfl rfl (fun _ => by go_simp) ?_));exact Reg.anew_nil))
            clear t0 t1 t2 g0 g1 g2
            generalize (((v20.setCell ⟨y6,0,none⟩ (.int .i64 0)).setCell ⟨y6,1,none⟩ (.int .i64 2)).setCell ⟨y6,2,none⟩ (.int .i64 1)) = vs at HST ⊢
            have hbu := HST.out.blk _ List.mem_cons_self
            have u0 : vs.cell? ⟨y7,0,none⟩ = some _ := Blk.cell hbu rfl
            have u1 : vs.cell? ⟨y7,1,none⟩ = some _ := Blk.cell hbu rfl
            have u2 : vs.cell? ⟨y7,2,none⟩ = some _ := Blk.cell hbu rfl
            clear hbu
            have g0 := Blk.fr (HST.out.blk _ List.mem_cons_self) 0
            have g1 := Blk.fr (HST.out.blk _ List.mem_cons_self) 1
            have g2 := Blk.fr (HST.out.blk _ List.mem_cons_self) 2
            have hst2 := (Side.store (pre := []) HST.out (.int .i64 0) (.int .i64 2) (.int .i64 1))
            have HST2 := Lib.hid hst2
            clear hst2 HST
            refine Reg.oneT rfl ?_
            go_wp2_with fail
            (refine ⟨?anew,?_⟩;case anew => ((repeat (refine Reg.anew_cons rfl rfl (fun _ => by go_simp) ?_));exact Reg.anew_nil))
            clear u0 u1 u2 g0 g1 g2
            refine Reg.doneT ?_
            simp only [Exit.then]
            go_wp2_with fail
            go_meet
            exact ⟨y6,y7,rfl,rfl,HST2⟩
         · revert y0
           as_aux_lemma =>
            intro y0
            intros
            have hs := HS18_.out.alloc [.int .i64 0,.int .i64 0,.int .i64 0] 44
            obtain ⟨y7,hy7⟩ : ∃ x,v18.heap.size = x := ⟨_,rfl⟩
            obtain ⟨v21,hv21⟩ : ∃ x,v18.alloc (.cells #[.int .i64 0,.int .i64 0,.int .i64 0] 44) = x := ⟨_,rfl⟩
            have ev21 : ([.int .i64 0,.int .i64 0,.int .i64 0] : List Value).toArray = #[.int .i64 0,.int .i64 0,.int .i64 0] := rfl
            rw [hy7,ev21,hv21] at hs
            have HS21_ := Lib.hid hs
            clear hs ev21
            clear HS18_
            clear z0 z1 z2 z3 z4 z5 z6 z7 z8 z9 z10 z11 z12 z13 z14 z15
            have hbz := HS21_.out.blk _ (List.mem_cons_of_mem _ (List.mem_cons_of_mem _ (List.mem_cons_of_mem _ List.mem_cons_self)))
            have z0 : v21.cell? ⟨x3,0,none⟩ = some _ := Blk.cell hbz rfl
            have z1 : v21.cell? ⟨x3,1,none⟩ = some _ := Blk.cell hbz rfl
            have z2 : v21.cell? ⟨x3,2,none⟩ = some _ := Blk.cell hbz rfl
            have z3 : v21.cell? ⟨x3,3,none⟩ = some _ := Blk.cell hbz rfl
            have z4 : v21.cell? ⟨x3,4,none⟩ = some _ := Blk.cell hbz rfl
            have z5 : v21.cell? ⟨x3,5,none⟩ = some _ := Blk.cell hbz rfl
            have z6 : v21.cell? ⟨x3,6,none⟩ = some _ := Blk.cell hbz rfl
            have z7 : v21.cell? ⟨x3,7,none⟩ = some _ := Blk.cell hbz rfl
            have z8 : v21.cell? ⟨x3,8,none⟩ = some _ := Blk.cell hbz rfl
            have z9 : v21.cell? ⟨x3,9,none⟩ = some _ := Blk.cell hbz rfl
            have z10 : v21.cell? ⟨x3,10,none⟩ = some _ := Blk.cell hbz rfl
            have z11 : v21.cell? ⟨x3,11,none⟩ = some _ := Blk.cell hbz rfl
            have z12 : v21.cell? ⟨x3,12,none⟩ = some _ := Blk.cell hbz rfl
            have z13 : v21.cell? ⟨x3,13,none⟩ = some _ := Blk.cell hbz rfl
            have z14 : v21.cell? ⟨x3,14,none⟩ = some _ := Blk.cell hbz rfl
            have z15 : v21.cell? ⟨x3,15,none⟩ = some _ := Blk.cell hbz rfl
            clear hbz
            go_wp2_with fail
            clear hv21 hy7
            (refine ⟨?anew,?_⟩;case anew => ((repeat (refine Reg.anew_cons rfl rfl (fun _ => by go_simp) ?_));exact Reg.anew_nil))
            refine Reg.oneT rfl ?_
            have hc : Calls Tryz.prog 12 #[.pointer (some ⟨l,0,none⟩),.agg #[.int .i64 1,.int .i64 1,.int .i64 0,.int .i64 0,.int .i64 0,.int .i64 1,.int .i64 0,.int .i64 2,.int .i64 1,.string { data := #[97] },.int .i64 0,.slice none 0 0,.int .i64 0,.int .i64 0,.slice none 0 0,.int .i64 0]] v21 fun x w' => x = .returned (.agg #[.int .i64 0,.int .i64 2,.int .i64 1]) ∧ Side w w' l aw2 [(y7,44,[.int .i64 0,.int .i64 0,.int .i64 0]),(y6,44,[.int .i64 0,.int .i64 0,.int .i64 0]),(x4,44,[.int .i64 0,.int .i64 1,.int .i64 1]),(x3,39,[.int .i64 1,.int .i64 1,.int .i64 0,.int .i64 0,.int .i64 0,.int .i64 1,.int .i64 0,.int .i64 2,.int .i64 1,.string { data := #[97] },.int .i64 0,.slice none 0 0,.int .i64 0,.int .i64 0,.slice none 0 0,.int .i64 0])] := HS21_.out.doC aw_ok2 (by decide) (cDo 1) rfl rfl (by decide) aw_3
            have HC := Lib.hid hc
            clear hc HS21_
            go_wp2_with fail
            refine HC.out.mono ?_
            rintro e v22 ⟨rfl,hs1⟩
            have HS22_ := Lib.hid hs1
            clear HC hs1 z0 z1 z2 z3 z4 z5 z6 z7 z8 z9 z10 z11 z12 z13 z14 z15
            go_wp2_with fail
            (refine ⟨?anew,?_⟩;case anew => ((repeat (refine Reg.anew_cons rfl rfl (fun _ => by go_simp) ?_));exact Reg.anew_nil))
            refine Reg.oneT rfl ?_
            have hbt := HS22_.out.blk _ (List.mem_cons_of_mem _ List.mem_cons_self)
            have t0 : v22.cell? ⟨y6,0,none⟩ = some _ := Blk.cell hbt rfl
            have t1 : v22.cell? ⟨y6,1,none⟩ = some _ := Blk.cell hbt rfl
            have t2 : v22.cell? ⟨y6,2,none⟩ = some _ := Blk.cell hbt rfl
            clear hbt
            have g0 := Blk.fr (HS22_.out.blk _ (List.mem_cons_of_mem _ List.mem_cons_self)) 0
            have g1 := Blk.fr (HS22_.out.blk _ (List.mem_cons_of_mem _ List.mem_cons_self)) 1
            have g2 := Blk.fr (HS22_.out.blk _ (List.mem_cons_of_mem _ List.mem_cons_self)) 2
            have hst := (Side.store (pre := [(y7,44,[.int .i64 0,.int .i64 0,.int .i64 0])]) HS22_.out (.int .i64 0) (.int .i64 2) (.int .i64 1))
            have HST := Lib.hid hst
            clear hst HS22_
            go_wp2_with fail
            (refine ⟨?anew,?_⟩;case anew => ((repeat (refine Reg.anew_cons rfl rfl (fun _ => by go_simp) ?_));exact Reg.anew_nil))
            clear t0 t1 t2 g0 g1 g2
            generalize (((v22.setCell ⟨y6,0,none⟩ (.int .i64 0)).setCell ⟨y6,1,none⟩ (.int .i64 2)).setCell ⟨y6,2,none⟩ (.int .i64 1)) = vs at HST ⊢
            have hbu := HST.out.blk _ List.mem_cons_self
            have u0 : vs.cell? ⟨y7,0,none⟩ = some _ := Blk.cell hbu rfl
            have u1 : vs.cell? ⟨y7,1,none⟩ = some _ := Blk.cell hbu rfl
            have u2 : vs.cell? ⟨y7,2,none⟩ = some _ := Blk.cell hbu rfl
            clear hbu
            have g0 := Blk.fr (HST.out.blk _ List.mem_cons_self) 0
            have g1 := Blk.fr (HST.out.blk _ List.mem_cons_self) 1
            have g2 := Blk.fr (HST.out.blk _ List.mem_cons_self) 2
            have hst2 := (Side.store (pre := []) HST.out (.int .i64 0) (.int .i64 2) (.int .i64 1))
            have HST2 := Lib.hid hst2
            clear hst2 HST
            refine Reg.oneT rfl ?_
            go_wp2_with fail
            (refine ⟨?anew,?_⟩;case anew => ((repeat (refine Reg.anew_cons rfl rfl (fun _ => by go_simp) ?_));exact Reg.anew_nil))
            clear u0 u1 u2 g0 g1 g2
            refine Reg.doneT ?_
            simp only [Exit.then]
            go_wp2_with fail
            go_meet
            exact ⟨y6,y7,rfl,rfl,HST2⟩
      · revert y0
        as_aux_lemma =>
         intro y0
         intros
         have hs := HS17_.out.alloc [.int .i64 0,.int .i64 0,.int .i64 0] 44
         obtain ⟨y7,hy7⟩ : ∃ x,v17.heap.size = x := ⟨_,rfl⟩
         obtain ⟨v23,hv23⟩ : ∃ x,v17.alloc (.cells #[.int .i64 0,.int .i64 0,.int .i64 0] 44) = x := ⟨_,rfl⟩
         have ev23 : ([.int .i64 0,.int .i64 0,.int .i64 0] : List Value).toArray = #[.int .i64 0,.int .i64 0,.int .i64 0] := rfl
         rw [hy7,ev23,hv23] at hs
         have HS23_ := Lib.hid hs
         clear hs ev23
         clear HS17_
         clear z0 z1 z2 z3 z4 z5 z6 z7 z8 z9 z10 z11 z12 z13 z14 z15
         have hbz := HS23_.out.blk _ (List.mem_cons_of_mem _ (List.mem_cons_of_mem _ (List.mem_cons_of_mem _ List.mem_cons_self)))
         have z0 : v23.cell? ⟨x3,0,none⟩ = some _ := Blk.cell hbz rfl
         have z1 : v23.cell? ⟨x3,1,none⟩ = some _ := Blk.cell hbz rfl
         have z2 : v23.cell? ⟨x3,2,none⟩ = some _ := Blk.cell hbz rfl
         have z3 : v23.cell? ⟨x3,3,none⟩ = some _ := Blk.cell hbz rfl
         have z4 : v23.cell? ⟨x3,4,none⟩ = some _ := Blk.cell hbz rfl
         have z5 : v23.cell? ⟨x3,5,none⟩ = some _ := Blk.cell hbz rfl
         have z6 : v23.cell? ⟨x3,6,none⟩ = some _ := Blk.cell hbz rfl
         have z7 : v23.cell? ⟨x3,7,none⟩ = some _ := Blk.cell hbz rfl
         have z8 : v23.cell? ⟨x3,8,none⟩ = some _ := Blk.cell hbz rfl
         have z9 : v23.cell? ⟨x3,9,none⟩ = some _ := Blk.cell hbz rfl
         have z10 : v23.cell? ⟨x3,10,none⟩ = some _ := Blk.cell hbz rfl
         have z11 : v23.cell? ⟨x3,11,none⟩ = some _ := Blk.cell hbz rfl
         have z12 : v23.cell? ⟨x3,12,none⟩ = some _ := Blk.cell hbz rfl
         have z13 : v23.cell? ⟨x3,13,none⟩ = some _ := Blk.cell hbz rfl
         have z14 : v23.cell? ⟨x3,14,none⟩ = some _ := Blk.cell hbz rfl
         have z15 : v23.cell? ⟨x3,15,none⟩ = some _ := Blk.cell hbz rfl
         clear hbz
         go_wp2_with fail
         clear hv23 hy7
         (refine ⟨?anew,?_⟩;case anew => ((repeat (refine Reg.anew_cons rfl rfl (fun _ => by go_simp) ?_));exact Reg.anew_nil))
         refine Reg.oneT rfl ?_
         have hc : Calls Tryz.prog 12 #[.pointer (some ⟨l,0,none⟩),.agg #[.int .i64 1,.int .i64 1,.int .i64 0,.int .i64 0,.int .i64 0,.int .i64 1,.int .i64 0,.int .i64 2,.int .i64 1,.string { data := #[97] },.int .i64 0,.slice none 0 0,.int .i64 0,.int .i64 0,.slice none 0 0,.int .i64 0]] v23 fun x w' => x = .returned (.agg #[.int .i64 0,.int .i64 2,.int .i64 1]) ∧ Side w w' l aw2 [(y7,44,[.int .i64 0,.int .i64 0,.int .i64 0]),(y6,44,[.int .i64 0,.int .i64 0,.int .i64 0]),(x4,44,[.int .i64 0,.int .i64 1,.int .i64 1]),(x3,39,[.int .i64 1,.int .i64 1,.int .i64 0,.int .i64 0,.int .i64 0,.int .i64 1,.int .i64 0,.int .i64 2,.int .i64 1,.string { data := #[97] },.int .i64 0,.slice none 0 0,.int .i64 0,.int .i64 0,.slice none 0 0,.int .i64 0])] := HS23_.out.doC aw_ok1 (by decide) (cDo 1) rfl rfl (by decide) aw_2
         have HC := Lib.hid hc
         clear hc HS23_
         go_wp2_with fail
         refine HC.out.mono ?_
         rintro e v24 ⟨rfl,hs1⟩
         have HS24_ := Lib.hid hs1
         clear HC hs1 z0 z1 z2 z3 z4 z5 z6 z7 z8 z9 z10 z11 z12 z13 z14 z15
         have hbz := HS24_.out.blk _ (List.mem_cons_of_mem _ (List.mem_cons_of_mem _ (List.mem_cons_of_mem _ List.mem_cons_self)))
         have z0 : v24.cell? ⟨x3,0,none⟩ = some _ := Blk.cell hbz rfl
         have z1 : v24.cell? ⟨x3,1,none⟩ = some _ := Blk.cell hbz rfl
         have z2 : v24.cell? ⟨x3,2,none⟩ = some _ := Blk.cell hbz rfl
         have z3 : v24.cell? ⟨x3,3,none⟩ = some _ := Blk.cell hbz rfl
         have z4 : v24.cell? ⟨x3,4,none⟩ = some _ := Blk.cell hbz rfl
         have z5 : v24.cell? ⟨x3,5,none⟩ = some _ := Blk.cell hbz rfl
         have z6 : v24.cell? ⟨x3,6,none⟩ = some _ := Blk.cell hbz rfl
         have z7 : v24.cell? ⟨x3,7,none⟩ = some _ := Blk.cell hbz rfl
         have z8 : v24.cell? ⟨x3,8,none⟩ = some _ := Blk.cell hbz rfl
         have z9 : v24.cell? ⟨x3,9,none⟩ = some _ := Blk.cell hbz rfl
         have z10 : v24.cell? ⟨x3,10,none⟩ = some _ := Blk.cell hbz rfl
         have z11 : v24.cell? ⟨x3,11,none⟩ = some _ := Blk.cell hbz rfl
         have z12 : v24.cell? ⟨x3,12,none⟩ = some _ := Blk.cell hbz rfl
         have z13 : v24.cell? ⟨x3,13,none⟩ = some _ := Blk.cell hbz rfl
         have z14 : v24.cell? ⟨x3,14,none⟩ = some _ := Blk.cell hbz rfl
         have z15 : v24.cell? ⟨x3,15,none⟩ = some _ := Blk.cell hbz rfl
         clear hbz
         go_wp2_with fail
         (refine ⟨?anew,?_⟩;case anew => ((repeat (refine Reg.anew_cons rfl rfl (fun _ => by go_simp) ?_));exact Reg.anew_nil))
         refine Reg.oneT rfl ?_
         have hc : Calls Tryz.prog 12 #[.pointer (some ⟨l,0,none⟩),.agg #[.int .i64 1,.int .i64 1,.int .i64 0,.int .i64 0,.int .i64 0,.int .i64 1,.int .i64 0,.int .i64 2,.int .i64 1,.string { data := #[97] },.int .i64 0,.slice none 0 0,.int .i64 0,.int .i64 0,.slice none 0 0,.int .i64 0]] v24 fun x w' => x = .returned (.agg #[.int .i64 0,.int .i64 2,.int .i64 1]) ∧ Side w w' l aw2 [(y7,44,[.int .i64 0,.int .i64 0,.int .i64 0]),(y6,44,[.int .i64 0,.int .i64 0,.int .i64 0]),(x4,44,[.int .i64 0,.int .i64 1,.int .i64 1]),(x3,39,[.int .i64 1,.int .i64 1,.int .i64 0,.int .i64 0,.int .i64 0,.int .i64 1,.int .i64 0,.int .i64 2,.int .i64 1,.string { data := #[97] },.int .i64 0,.slice none 0 0,.int .i64 0,.int .i64 0,.slice none 0 0,.int .i64 0])] := HS24_.out.doC aw_ok2 (by decide) (cDo 1) rfl rfl (by decide) aw_3
         have HC := Lib.hid hc
         clear hc HS24_
         go_wp2_with fail
         refine HC.out.mono ?_
         rintro e v25 ⟨rfl,hs1⟩
         have HS25_ := Lib.hid hs1
         clear HC hs1 z0 z1 z2 z3 z4 z5 z6 z7 z8 z9 z10 z11 z12 z13 z14 z15
         go_wp2_with fail
         (refine ⟨?anew,?_⟩;case anew => ((repeat (refine Reg.anew_cons rfl rfl (fun _ => by go_simp) ?_));exact Reg.anew_nil))
         refine Reg.oneT rfl ?_
         have hbt := HS25_.out.blk _ (List.mem_cons_of_mem _ List.mem_cons_self)
         have t0 : v25.cell? ⟨y6,0,none⟩ = some _ := Blk.cell hbt rfl
         have t1 : v25.cell? ⟨y6,1,none⟩ = some _ := Blk.cell hbt rfl
         have t2 : v25.cell? ⟨y6,2,none⟩ = some _ := Blk.cell hbt rfl
         clear hbt
         have g0 := Blk.fr (HS25_.out.blk _ (List.mem_cons_of_mem _ List.mem_cons_self)) 0
         have g1 := Blk.fr (HS25_.out.blk _ (List.mem_cons_of_mem _ List.mem_cons_self)) 1
         have g2 := Blk.fr (HS25_.out.blk _ (List.mem_cons_of_mem _ List.mem_cons_self)) 2
         have hst := (Side.store (pre := [(y7,44,[.int .i64 0,.int .i64 0,.int .i64 0])]) HS25_.out (.int .i64 0) (.int .i64 2) (.int .i64 1))
         have HST := Lib.hid hst
         clear hst HS25_
         go_wp2_with fail
         (refine ⟨?anew,?_⟩;case anew => ((repeat (refine Reg.anew_cons rfl rfl (fun _ => by go_simp) ?_));exact Reg.anew_nil))
         clear t0 t1 t2 g0 g1 g2
         generalize (((v25.setCell ⟨y6,0,none⟩ (.int .i64 0)).setCell ⟨y6,1,none⟩ (.int .i64 2)).setCell ⟨y6,2,none⟩ (.int .i64 1)) = vs at HST ⊢
         have hbu := HST.out.blk _ List.mem_cons_self
         have u0 : vs.cell? ⟨y7,0,none⟩ = some _ := Blk.cell hbu rfl
         have u1 : vs.cell? ⟨y7,1,none⟩ = some _ := Blk.cell hbu rfl
         have u2 : vs.cell? ⟨y7,2,none⟩ = some _ := Blk.cell hbu rfl
         clear hbu
         have g0 := Blk.fr (HST.out.blk _ List.mem_cons_self) 0
         have g1 := Blk.fr (HST.out.blk _ List.mem_cons_self) 1
         have g2 := Blk.fr (HST.out.blk _ List.mem_cons_self) 2
         have hst2 := (Side.store (pre := []) HST.out (.int .i64 0) (.int .i64 2) (.int .i64 1))
         have HST2 := Lib.hid hst2
         clear hst2 HST
         refine Reg.oneT rfl ?_
         go_wp2_with fail
         (refine ⟨?anew,?_⟩;case anew => ((repeat (refine Reg.anew_cons rfl rfl (fun _ => by go_simp) ?_));exact Reg.anew_nil))
         clear u0 u1 u2 g0 g1 g2
         refine Reg.doneT ?_
         simp only [Exit.then]
         go_wp2_with fail
         go_meet
         exact ⟨y6,y7,rfl,rfl,HST2⟩
   · revert y0
     as_aux_lemma =>
      intro y0
      intros
      have hs := HSa.out.alloc [.int .i64 0,.int .i64 0,.int .i64 0] 44
      obtain ⟨y7,hy7⟩ : ∃ x,v0.heap.size = x := ⟨_,rfl⟩
      obtain ⟨v26,hv26⟩ : ∃ x,v0.alloc (.cells #[.int .i64 0,.int .i64 0,.int .i64 0] 44) = x := ⟨_,rfl⟩
      have ev26 : ([.int .i64 0,.int .i64 0,.int .i64 0] : List Value).toArray = #[.int .i64 0,.int .i64 0,.int .i64 0] := rfl
      rw [hy7,ev26,hv26] at hs
      have HS26_ := Lib.hid hs
      clear hs ev26
      clear HSa
      clear z0 z1 z2 z3 z4 z5 z6 z7 z8 z9 z10 z11 z12 z13 z14 z15
      have hbz := HS26_.out.blk _ (List.mem_cons_of_mem _ (List.mem_cons_of_mem _ List.mem_cons_self))
      have z0 : v26.cell? ⟨x3,0,none⟩ = some _ := Blk.cell hbz rfl
      have z1 : v26.cell? ⟨x3,1,none⟩ = some _ := Blk.cell hbz rfl
      have z2 : v26.cell? ⟨x3,2,none⟩ = some _ := Blk.cell hbz rfl
      have z3 : v26.cell? ⟨x3,3,none⟩ = some _ := Blk.cell hbz rfl
      have z4 : v26.cell? ⟨x3,4,none⟩ = some _ := Blk.cell hbz rfl
      have z5 : v26.cell? ⟨x3,5,none⟩ = some _ := Blk.cell hbz rfl
      have z6 : v26.cell? ⟨x3,6,none⟩ = some _ := Blk.cell hbz rfl
      have z7 : v26.cell? ⟨x3,7,none⟩ = some _ := Blk.cell hbz rfl
      have z8 : v26.cell? ⟨x3,8,none⟩ = some _ := Blk.cell hbz rfl
      have z9 : v26.cell? ⟨x3,9,none⟩ = some _ := Blk.cell hbz rfl
      have z10 : v26.cell? ⟨x3,10,none⟩ = some _ := Blk.cell hbz rfl
      have z11 : v26.cell? ⟨x3,11,none⟩ = some _ := Blk.cell hbz rfl
      have z12 : v26.cell? ⟨x3,12,none⟩ = some _ := Blk.cell hbz rfl
      have z13 : v26.cell? ⟨x3,13,none⟩ = some _ := Blk.cell hbz rfl
      have z14 : v26.cell? ⟨x3,14,none⟩ = some _ := Blk.cell hbz rfl
      have z15 : v26.cell? ⟨x3,15,none⟩ = some _ := Blk.cell hbz rfl
      clear hbz
      go_wp2_with fail
      clear hv26 hy7
      (refine ⟨?anew,?_⟩;case anew => ((repeat (refine Reg.anew_cons rfl rfl (fun _ => by go_simp) ?_));exact Reg.anew_nil))
      refine Reg.twoT rfl rfl ?_ ?_
      · revert y0
        as_aux_lemma =>
         intro y0
         intros
         have hc : Calls Tryz.prog 12 #[.pointer (some ⟨l,0,none⟩),.agg #[.int .i64 1,.int .i64 1,.int .i64 0,.int .i64 0,.int .i64 0,.int .i64 1,.int .i64 0,.int .i64 2,.int .i64 1,.string { data := #[97] },.int .i64 0,.slice none 0 0,.int .i64 0,.int .i64 0,.slice none 0 0,.int .i64 0]] v26 fun x w' => x = .returned (.agg #[.int .i64 0,.int .i64 2,.int .i64 1]) ∧ Side w w' l aw2 [(y7,44,[.int .i64 0,.int .i64 0,.int .i64 0]),(x4,44,[.int .i64 0,.int .i64 1,.int .i64 1]),(x3,39,[.int .i64 1,.int .i64 1,.int .i64 0,.int .i64 0,.int .i64 0,.int .i64 1,.int .i64 0,.int .i64 2,.int .i64 1,.string { data := #[97] },.int .i64 0,.slice none 0 0,.int .i64 0,.int .i64 0,.slice none 0 0,.int .i64 0])] := HS26_.out.doC aw_ok1 (by decide) (cDo 1) rfl rfl (by decide) aw_2
         have HC := Lib.hid hc
         clear hc HS26_
         go_wp2_with fail
         refine HC.out.mono ?_
         rintro e v27 ⟨rfl,hs1⟩
         have HS27_ := Lib.hid hs1
         clear HC hs1 z0 z1 z2 z3 z4 z5 z6 z7 z8 z9 z10 z11 z12 z13 z14 z15
         have hbz := HS27_.out.blk _ (List.mem_cons_of_mem _ (List.mem_cons_of_mem _ List.mem_cons_self))
         have z0 : v27.cell? ⟨x3,0,none⟩ = some _ := Blk.cell hbz rfl
         have z1 : v27.cell? ⟨x3,1,none⟩ = some _ := Blk.cell hbz rfl
         have z2 : v27.cell? ⟨x3,2,none⟩ = some _ := Blk.cell hbz rfl
         have z3 : v27.cell? ⟨x3,3,none⟩ = some _ := Blk.cell hbz rfl
         have z4 : v27.cell? ⟨x3,4,none⟩ = some _ := Blk.cell hbz rfl
         have z5 : v27.cell? ⟨x3,5,none⟩ = some _ := Blk.cell hbz rfl
         have z6 : v27.cell? ⟨x3,6,none⟩ = some _ := Blk.cell hbz rfl
         have z7 : v27.cell? ⟨x3,7,none⟩ = some _ := Blk.cell hbz rfl
         have z8 : v27.cell? ⟨x3,8,none⟩ = some _ := Blk.cell hbz rfl
         have z9 : v27.cell? ⟨x3,9,none⟩ = some _ := Blk.cell hbz rfl
         have z10 : v27.cell? ⟨x3,10,none⟩ = some _ := Blk.cell hbz rfl
         have z11 : v27.cell? ⟨x3,11,none⟩ = some _ := Blk.cell hbz rfl
         have z12 : v27.cell? ⟨x3,12,none⟩ = some _ := Blk.cell hbz rfl
         have z13 : v27.cell? ⟨x3,13,none⟩ = some _ := Blk.cell hbz rfl
         have z14 : v27.cell? ⟨x3,14,none⟩ = some _ := Blk.cell hbz rfl
         have z15 : v27.cell? ⟨x3,15,none⟩ = some _ := Blk.cell hbz rfl
         clear hbz
         go_wp2_with fail
         (refine ⟨?anew,?_⟩;case anew => ((repeat (refine Reg.anew_cons rfl rfl (fun _ => by go_simp) ?_));exact Reg.anew_nil))
         refine Reg.twoT rfl rfl ?_ ?_
         · revert y0
           as_aux_lemma =>
            intro y0
            intros
            have hc : Calls Tryz.prog 12 #[.pointer (some ⟨l,0,none⟩),.agg #[.int .i64 1,.int .i64 1,.int .i64 0,.int .i64 0,.int .i64 0,.int .i64 1,.int .i64 0,.int .i64 2,.int .i64 1,.string { data := #[97] },.int .i64 0,.slice none 0 0,.int .i64 0,.int .i64 0,.slice none 0 0,.int .i64 0]] v27 fun x w' => x = .returned (.agg #[.int .i64 0,.int .i64 2,.int .i64 1]) ∧ Side w w' l aw2 [(y7,44,[.int .i64 0,.int .i64 0,.int .i64 0]),(x4,44,[.int .i64 0,.int .i64 1,.int .i64 1]),(x3,39,[.int .i64 1,.int .i64 1,.int .i64 0,.int .i64 0,.int .i64 0,.int .i64 1,.int .i64 0,.int .i64 2,.int .i64 1,.string { data := #[97] },.int .i64 0,.slice none 0 0,.int .i64 0,.int .i64 0,.slice none 0 0,.int .i64 0])] := HS27_.out.doC aw_ok2 (by decide) (cDo 1) rfl rfl (by decide) aw_3
            have HC := Lib.hid hc
            clear hc HS27_
            go_wp2_with fail
            refine HC.out.mono ?_
            rintro e v28 ⟨rfl,hs1⟩
            have HS28_ := Lib.hid hs1
            clear HC hs1 z0 z1 z2 z3 z4 z5 z6 z7 z8 z9 z10 z11 z12 z13 z14 z15
            go_wp2_with fail
            (refine ⟨?anew,?_⟩;case anew => ((repeat (refine Reg.anew_cons rfl rfl (fun _ => by go_simp) ?_));exact Reg.anew_nil))
            refine Reg.oneT rfl ?_
            have hs := HS28_.out.alloc [.int .i64 0,.int .i64 0,.int .i64 0] 44
            obtain ⟨y6,hy6⟩ : ∃ x,v28.heap.size = x := ⟨_,rfl⟩
            obtain ⟨v29,hv29⟩ : ∃ x,v28.alloc (.cells #[.int .i64 0,.int .i64 0,.int .i64 0] 44) = x := ⟨_,rfl⟩
            have ev29 : ([.int .i64 0,.int .i64 0,.int .i64 0] : List Value).toArray = #[.int .i64 0,.int .i64 0,.int .i64 0] := rfl
            rw [hy6,ev29,hv29] at hs
            have HS29_ := Lib.hid hs
            clear hs ev29
            clear HS28_
            go_wp2_with fail
            clear hv29 hy6
            (refine ⟨?anew,?_⟩;case anew => ((repeat (refine Reg.anew_cons rfl rfl (fun _ => by go_simp) ?_));exact Reg.anew_nil))
            refine Reg.oneT rfl ?_
            have hsw := Lib.hid HS29_.out.swap
            clear HS29_
            have hbt := hsw.out.blk _ (List.mem_cons_of_mem _ List.mem_cons_self)
            have t0 : v29.cell? ⟨y6,0,none⟩ = some _ := Blk.cell hbt rfl
            have t1 : v29.cell? ⟨y6,1,none⟩ = some _ := Blk.cell hbt rfl
            have t2 : v29.cell? ⟨y6,2,none⟩ = some _ := Blk.cell hbt rfl
            clear hbt
            have g0 := Blk.fr (hsw.out.blk _ (List.mem_cons_of_mem _ List.mem_cons_self)) 0
            have g1 := Blk.fr (hsw.out.blk _ (List.mem_cons_of_mem _ List.mem_cons_self)) 1
            have g2 := Blk.fr (hsw.out.blk _ (List.mem_cons_of_mem _ List.mem_cons_self)) 2
            have hst := (Side.store (pre := [(y7,44,[.int .i64 0,.int .i64 0,.int .i64 0])]) hsw.out (.int .i64 0) (.int .i64 2) (.int .i64 1))
            have HST := Lib.hid hst
            clear hst hsw
            go_wp2_with fail
            (refine ⟨?anew,?_⟩;case anew => ((repeat (refine Reg.anew_cons rfl rfl (fun _ => by go_simp) ?_));exact Reg.anew_nil))
            clear t0 t1 t2 g0 g1 g2
            generalize (((v29.setCell ⟨y6,0,none⟩ (.int .i64 0)).setCell ⟨y6,1,none⟩ (.int .i64 2)).setCell ⟨y6,2,none⟩ (.int .i64 1)) = vs at HST ⊢
            have hbu := HST.out.blk _ List.mem_cons_self
            have u0 : vs.cell? ⟨y7,0,none⟩ = some _ := Blk.cell hbu rfl
            have u1 : vs.cell? ⟨y7,1,none⟩ = some _ := Blk.cell hbu rfl
            have u2 : vs.cell? ⟨y7,2,none⟩ = some _ := Blk.cell hbu rfl
            clear hbu
            have g0 := Blk.fr (HST.out.blk _ List.mem_cons_self) 0
            have g1 := Blk.fr (HST.out.blk _ List.mem_cons_self) 1
            have g2 := Blk.fr (HST.out.blk _ List.mem_cons_self) 2
            have hst2 := (Side.store (pre := []) HST.out (.int .i64 0) (.int .i64 2) (.int .i64 1))
            have HST2 := Lib.hid hst2
            clear hst2 HST
            refine Reg.oneT rfl ?_
            go_wp2_with fail
            (refine ⟨?anew,?_⟩;case anew => ((repeat (refine Reg.anew_cons rfl rfl (fun _ => by go_simp) ?_));exact Reg.anew_nil))
            clear u0 u1 u2 g0 g1 g2
            refine Reg.doneT ?_
            simp only [Exit.then]
            go_wp2_with fail
            go_meet
            exact ⟨y6,y7,rfl,rfl,HST2⟩
         · revert y0
           as_aux_lemma =>
            intro y0
            intros
            have hs := HS27_.out.alloc [.int .i64 0,.int .i64 0,.int .i64 0] 44
            obtain ⟨y6,hy6⟩ : ∃ x,v27.heap.size = x := ⟨_,rfl⟩
            obtain ⟨v30,hv30⟩ : ∃ x,v27.alloc (.cells #[.int .i64 0,.int .i64 0,.int .i64 0] 44) = x := ⟨_,rfl⟩
            have ev30 : ([.int .i64 0,.int .i64 0,.int .i64 0] : List Value).toArray = #[.int .i64 0,.int .i64 0,.int .i64 0] := rfl
            rw [hy6,ev30,hv30] at hs
            have HS30_ := Lib.hid hs
            clear hs ev30
            clear HS27_
            clear z0 z1 z2 z3 z4 z5 z6 z7 z8 z9 z10 z11 z12 z13 z14 z15
            have hbz := HS30_.out.blk _ (List.mem_cons_of_mem _ (List.mem_cons_of_mem _ (List.mem_cons_of_mem _ List.mem_cons_self)))
            have z0 : v30.cell? ⟨x3,0,none⟩ = some _ := Blk.cell hbz rfl
            have z1 : v30.cell? ⟨x3,1,none⟩ = some _ := Blk.cell hbz rfl
            have z2 : v30.cell? ⟨x3,2,none⟩ = some _ := Blk.cell hbz rfl
            have z3 : v30.cell? ⟨x3,3,none⟩ = some _ := Blk.cell hbz rfl
            have z4 : v30.cell? ⟨x3,4,none⟩ = some _ := Blk.cell hbz rfl
            have z5 : v30.cell? ⟨x3,5,none⟩ = some _ := Blk.cell hbz rfl
            have z6 : v30.cell? ⟨x3,6,none⟩ = some _ := Blk.cell hbz rfl
            have z7 : v30.cell? ⟨x3,7,none⟩ = some _ := Blk.cell hbz rfl
            have z8 : v30.cell? ⟨x3,8,none⟩ = some _ := Blk.cell hbz rfl
            have z9 : v30.cell? ⟨x3,9,none⟩ = some _ := Blk.cell hbz rfl
            have z10 : v30.cell? ⟨x3,10,none⟩ = some _ := Blk.cell hbz rfl
            have z11 : v30.cell? ⟨x3,11,none⟩ = some _ := Blk.cell hbz rfl
            have z12 : v30.cell? ⟨x3,12,none⟩ = some _ := Blk.cell hbz rfl
            have z13 : v30.cell? ⟨x3,13,none⟩ = some _ := Blk.cell hbz rfl
            have z14 : v30.cell? ⟨x3,14,none⟩ = some _ := Blk.cell hbz rfl
            have z15 : v30.cell? ⟨x3,15,none⟩ = some _ := Blk.cell hbz rfl
            clear hbz
            go_wp2_with fail
            clear hv30 hy6
            (refine ⟨?anew,?_⟩;case anew => ((repeat (refine Reg.anew_cons rfl rfl (fun _ => by go_simp) ?_));exact Reg.anew_nil))
            refine Reg.oneT rfl ?_
            have hc : Calls Tryz.prog 12 #[.pointer (some ⟨l,0,none⟩),.agg #[.int .i64 1,.int .i64 1,.int .i64 0,.int .i64 0,.int .i64 0,.int .i64 1,.int .i64 0,.int .i64 2,.int .i64 1,.string { data := #[97] },.int .i64 0,.slice none 0 0,.int .i64 0,.int .i64 0,.slice none 0 0,.int .i64 0]] v30 fun x w' => x = .returned (.agg #[.int .i64 0,.int .i64 2,.int .i64 1]) ∧ Side w w' l aw2 [(y6,44,[.int .i64 0,.int .i64 0,.int .i64 0]),(y7,44,[.int .i64 0,.int .i64 0,.int .i64 0]),(x4,44,[.int .i64 0,.int .i64 1,.int .i64 1]),(x3,39,[.int .i64 1,.int .i64 1,.int .i64 0,.int .i64 0,.int .i64 0,.int .i64 1,.int .i64 0,.int .i64 2,.int .i64 1,.string { data := #[97] },.int .i64 0,.slice none 0 0,.int .i64 0,.int .i64 0,.slice none 0 0,.int .i64 0])] := HS30_.out.doC aw_ok2 (by decide) (cDo 1) rfl rfl (by decide) aw_3
            have HC := Lib.hid hc
            clear hc HS30_
            go_wp2_with fail
            refine HC.out.mono ?_
            rintro e v31 ⟨rfl,hs1⟩
            have HS31_ := Lib.hid hs1
            clear HC hs1 z0 z1 z2 z3 z4 z5 z6 z7 z8 z9 z10 z11 z12 z13 z14 z15
            go_wp2_with fail
            (refine ⟨?anew,?_⟩;case anew => ((repeat (refine Reg.anew_cons rfl rfl (fun _ => by go_simp) ?_));exact Reg.anew_nil))
            refine Reg.oneT rfl ?_
            have hsw := Lib.hid HS31_.out.swap
            clear HS31_
            have hbt := hsw.out.blk _ (List.mem_cons_of_mem _ List.mem_cons_self)
            have t0 : v31.cell? ⟨y6,0,none⟩ = some _ := Blk.cell hbt rfl
            have t1 : v31.cell? ⟨y6,1,none⟩ = some _ := Blk.cell hbt rfl
            have t2 : v31.cell? ⟨y6,2,none⟩ = some _ := Blk.cell hbt rfl
            clear hbt
            have g0 := Blk.fr (hsw.out.blk _ (List.mem_cons_of_mem _ List.mem_cons_self)) 0
            have g1 := Blk.fr (hsw.out.blk _ (List.mem_cons_of_mem _ List.mem_cons_self)) 1
            have g2 := Blk.fr (hsw.out.blk _ (List.mem_cons_of_mem _ List.mem_cons_self)) 2
            have hst := (Side.store (pre := [(y7,44,[.int .i64 0,.int .i64 0,.int .i64 0])]) hsw.out (.int .i64 0) (.int .i64 2) (.int .i64 1))
            have HST := Lib.hid hst
            clear hst hsw
            go_wp2_with fail
            (refine ⟨?anew,?_⟩;case anew => ((repeat (refine Reg.anew_cons rfl rfl (fun _ => by go_simp) ?_));exact Reg.anew_nil))
            clear t0 t1 t2 g0 g1 g2
            generalize (((v31.setCell ⟨y6,0,none⟩ (.int .i64 0)).setCell ⟨y6,1,none⟩ (.int .i64 2)).setCell ⟨y6,2,none⟩ (.int .i64 1)) = vs at HST ⊢
            have hbu := HST.out.blk _ List.mem_cons_self
            have u0 : vs.cell? ⟨y7,0,none⟩ = some _ := Blk.cell hbu rfl
            have u1 : vs.cell? ⟨y7,1,none⟩ = some _ := Blk.cell hbu rfl
            have u2 : vs.cell? ⟨y7,2,none⟩ = some _ := Blk.cell hbu rfl
            clear hbu
            have g0 := Blk.fr (HST.out.blk _ List.mem_cons_self) 0
            have g1 := Blk.fr (HST.out.blk _ List.mem_cons_self) 1
            have g2 := Blk.fr (HST.out.blk _ List.mem_cons_self) 2
            have hst2 := (Side.store (pre := []) HST.out (.int .i64 0) (.int .i64 2) (.int .i64 1))
            have HST2 := Lib.hid hst2
            clear hst2 HST
            refine Reg.oneT rfl ?_
            go_wp2_with fail
            (refine ⟨?anew,?_⟩;case anew => ((repeat (refine Reg.anew_cons rfl rfl (fun _ => by go_simp) ?_));exact Reg.anew_nil))
            clear u0 u1 u2 g0 g1 g2
            refine Reg.doneT ?_
            simp only [Exit.then]
            go_wp2_with fail
            go_meet
            exact ⟨y6,y7,rfl,rfl,HST2⟩
      · revert y0
        as_aux_lemma =>
         intro y0
         intros
         have hs := HS26_.out.alloc [.int .i64 0,.int .i64 0,.int .i64 0] 44
         obtain ⟨y6,hy6⟩ : ∃ x,v26.heap.size = x := ⟨_,rfl⟩
         obtain ⟨v32,hv32⟩ : ∃ x,v26.alloc (.cells #[.int .i64 0,.int .i64 0,.int .i64 0] 44) = x := ⟨_,rfl⟩
         have ev32 : ([.int .i64 0,.int .i64 0,.int .i64 0] : List Value).toArray = #[.int .i64 0,.int .i64 0,.int .i64 0] := rfl
         rw [hy6,ev32,hv32] at hs
         have HS32_ := Lib.hid hs
         clear hs ev32
         clear HS26_
         clear z0 z1 z2 z3 z4 z5 z6 z7 z8 z9 z10 z11 z12 z13 z14 z15
         have hbz := HS32_.out.blk _ (List.mem_cons_of_mem _ (List.mem_cons_of_mem _ (List.mem_cons_of_mem _ List.mem_cons_self)))
         have z0 : v32.cell? ⟨x3,0,none⟩ = some _ := Blk.cell hbz rfl
         have z1 : v32.cell? ⟨x3,1,none⟩ = some _ := Blk.cell hbz rfl
         have z2 : v32.cell? ⟨x3,2,none⟩ = some _ := Blk.cell hbz rfl
         have z3 : v32.cell? ⟨x3,3,none⟩ = some _ := Blk.cell hbz rfl
         have z4 : v32.cell? ⟨x3,4,none⟩ = some _ := Blk.cell hbz rfl
         have z5 : v32.cell? ⟨x3,5,none⟩ = some _ := Blk.cell hbz rfl
         have z6 : v32.cell? ⟨x3,6,none⟩ = some _ := Blk.cell hbz rfl
         have z7 : v32.cell? ⟨x3,7,none⟩ = some _ := Blk.cell hbz rfl
         have z8 : v32.cell? ⟨x3,8,none⟩ = some _ := Blk.cell hbz rfl
         have z9 : v32.cell? ⟨x3,9,none⟩ = some _ := Blk.cell hbz rfl
         have z10 : v32.cell? ⟨x3,10,none⟩ = some _ := Blk.cell hbz rfl
         have z11 : v32.cell? ⟨x3,11,none⟩ = some _ := Blk.cell hbz rfl
         have z12 : v32.cell? ⟨x3,12,none⟩ = some _ := Blk.cell hbz rfl
         have z13 : v32.cell? ⟨x3,13,none⟩ = some _ := Blk.cell hbz rfl
         have z14 : v32.cell? ⟨x3,14,none⟩ = some _ := Blk.cell hbz rfl
         have z15 : v32.cell? ⟨x3,15,none⟩ = some _ := Blk.cell hbz rfl
         clear hbz
         go_wp2_with fail
         clear hv32 hy6
         (refine ⟨?anew,?_⟩;case anew => ((repeat (refine Reg.anew_cons rfl rfl (fun _ => by go_simp) ?_));exact Reg.anew_nil))
         refine Reg.oneT rfl ?_
         have hc : Calls Tryz.prog 12 #[.pointer (some ⟨l,0,none⟩),.agg #[.int .i64 1,.int .i64 1,.int .i64 0,.int .i64 0,.int .i64 0,.int .i64 1,.int .i64 0,.int .i64 2,.int .i64 1,.string { data := #[97] },.int .i64 0,.slice none 0 0,.int .i64 0,.int .i64 0,.slice none 0 0,.int .i64 0]] v32 fun x w' => x = .returned (.agg #[.int .i64 0,.int .i64 2,.int .i64 1]) ∧ Side w w' l aw2 [(y6,44,[.int .i64 0,.int .i64 0,.int .i64 0]),(y7,44,[.int .i64 0,.int .i64 0,.int .i64 0]),(x4,44,[.int .i64 0,.int .i64 1,.int .i64 1]),(x3,39,[.int .i64 1,.int .i64 1,.int .i64 0,.int .i64 0,.int .i64 0,.int .i64 1,.int .i64 0,.int .i64 2,.int .i64 1,.string { data := #[97] },.int .i64 0,.slice none 0 0,.int .i64 0,.int .i64 0,.slice none 0 0,.int .i64 0])] := HS32_.out.doC aw_ok1 (by decide) (cDo 1) rfl rfl (by decide) aw_2
         have HC := Lib.hid hc
         clear hc HS32_
         go_wp2_with fail
         refine HC.out.mono ?_
         rintro e v33 ⟨rfl,hs1⟩
         have HS33_ := Lib.hid hs1
         clear HC hs1 z0 z1 z2 z3 z4 z5 z6 z7 z8 z9 z10 z11 z12 z13 z14 z15
         have hbz := HS33_.out.blk _ (List.mem_cons_of_mem _ (List.mem_cons_of_mem _ (List.mem_cons_of_mem _ List.mem_cons_self)))
         have z0 : v33.cell? ⟨x3,0,none⟩ = some _ := Blk.cell hbz rfl
         have z1 : v33.cell? ⟨x3,1,none⟩ = some _ := Blk.cell hbz rfl
         have z2 : v33.cell? ⟨x3,2,none⟩ = some _ := Blk.cell hbz rfl
         have z3 : v33.cell? ⟨x3,3,none⟩ = some _ := Blk.cell hbz rfl
         have z4 : v33.cell? ⟨x3,4,none⟩ = some _ := Blk.cell hbz rfl
         have z5 : v33.cell? ⟨x3,5,none⟩ = some _ := Blk.cell hbz rfl
         have z6 : v33.cell? ⟨x3,6,none⟩ = some _ := Blk.cell hbz rfl
         have z7 : v33.cell? ⟨x3,7,none⟩ = some _ := Blk.cell hbz rfl
         have z8 : v33.cell? ⟨x3,8,none⟩ = some _ := Blk.cell hbz rfl
         have z9 : v33.cell? ⟨x3,9,none⟩ = some _ := Blk.cell hbz rfl
         have z10 : v33.cell? ⟨x3,10,none⟩ = some _ := Blk.cell hbz rfl
         have z11 : v33.cell? ⟨x3,11,none⟩ = some _ := Blk.cell hbz rfl
         have z12 : v33.cell? ⟨x3,12,none⟩ = some _ := Blk.cell hbz rfl
         have z13 : v33.cell? ⟨x3,13,none⟩ = some _ := Blk.cell hbz rfl
         have z14 : v33.cell? ⟨x3,14,none⟩ = some _ := Blk.cell hbz rfl
         have z15 : v33.cell? ⟨x3,15,none⟩ = some _ := Blk.cell hbz rfl
         clear hbz
         go_wp2_with fail
         (refine ⟨?anew,?_⟩;case anew => ((repeat (refine Reg.anew_cons rfl rfl (fun _ => by go_simp) ?_));exact Reg.anew_nil))
         refine Reg.oneT rfl ?_
         have hc : Calls Tryz.prog 12 #[.pointer (some ⟨l,0,none⟩),.agg #[.int .i64 1,.int .i64 1,.int .i64 0,.int .i64 0,.int .i64 0,.int .i64 1,.int .i64 0,.int .i64 2,.int .i64 1,.string { data := #[97] },.int .i64 0,.slice none 0 0,.int .i64 0,.int .i64 0,.slice none 0 0,.int .i64 0]] v33 fun x w' => x = .returned (.agg #[.int .i64 0,.int .i64 2,.int .i64 1]) ∧ Side w w' l aw2 [(y6,44,[.int .i64 0,.int .i64 0,.int .i64 0]),(y7,44,[.int .i64 0,.int .i64 0,.int .i64 0]),(x4,44,[.int .i64 0,.int .i64 1,.int .i64 1]),(x3,39,[.int .i64 1,.int .i64 1,.int .i64 0,.int .i64 0,.int .i64 0,.int .i64 1,.int .i64 0,.int .i64 2,.int .i64 1,.string { data := #[97] },.int .i64 0,.slice none 0 0,.int .i64 0,.int .i64 0,.slice none 0 0,.int .i64 0])] := HS33_.out.doC aw_ok2 (by decide) (cDo 1) rfl rfl (by decide) aw_3
         have HC := Lib.hid hc
         clear hc HS33_
         go_wp2_with fail
         refine HC.out.mono ?_
         rintro e v34 ⟨rfl,hs1⟩
         have HS34_ := Lib.hid hs1
         clear HC hs1 z0 z1 z2 z3 z4 z5 z6 z7 z8 z9 z10 z11 z12 z13 z14 z15
         go_wp2_with fail
         (refine ⟨?anew,?_⟩;case anew => ((repeat (refine Reg.anew_cons rfl rfl (fun _ => by go_simp) ?_));exact Reg.anew_nil))
         refine Reg.oneT rfl ?_
         have hsw := Lib.hid HS34_.out.swap
         clear HS34_
         have hbt := hsw.out.blk _ (List.mem_cons_of_mem _ List.mem_cons_self)
         have t0 : v34.cell? ⟨y6,0,none⟩ = some _ := Blk.cell hbt rfl
         have t1 : v34.cell? ⟨y6,1,none⟩ = some _ := Blk.cell hbt rfl
         have t2 : v34.cell? ⟨y6,2,none⟩ = some _ := Blk.cell hbt rfl
         clear hbt
         have g0 := Blk.fr (hsw.out.blk _ (List.mem_cons_of_mem _ List.mem_cons_self)) 0
         have g1 := Blk.fr (hsw.out.blk _ (List.mem_cons_of_mem _ List.mem_cons_self)) 1
         have g2 := Blk.fr (hsw.out.blk _ (List.mem_cons_of_mem _ List.mem_cons_self)) 2
         have hst := (Side.store (pre := [(y7,44,[.int .i64 0,.int .i64 0,.int .i64 0])]) hsw.out (.int .i64 0) (.int .i64 2) (.int .i64 1))
         have HST := Lib.hid hst
         clear hst hsw
         go_wp2_with fail
         (refine ⟨?anew,?_⟩;case anew => ((repeat (refine Reg.anew_cons rfl rfl (fun _ => by go_simp) ?_));exact Reg.anew_nil))
         clear t0 t1 t2 g0 g1 g2
         generalize (((v34.setCell ⟨y6,0,none⟩ (.int .i64 0)).setCell ⟨y6,1,none⟩ (.int .i64 2)).setCell ⟨y6,2,none⟩ (.int .i64 1)) = vs at HST ⊢
         have hbu := HST.out.blk _ List.mem_cons_self
         have u0 : vs.cell? ⟨y7,0,none⟩ = some _ := Blk.cell hbu rfl
         have u1 : vs.cell? ⟨y7,1,none⟩ = some _ := Blk.cell hbu rfl
         have u2 : vs.cell? ⟨y7,2,none⟩ = some _ := Blk.cell hbu rfl
         clear hbu
         have g0 := Blk.fr (HST.out.blk _ List.mem_cons_self) 0
         have g1 := Blk.fr (HST.out.blk _ List.mem_cons_self) 1
         have g2 := Blk.fr (HST.out.blk _ List.mem_cons_self) 2
         have hst2 := (Side.store (pre := []) HST.out (.int .i64 0) (.int .i64 2) (.int .i64 1))
         have HST2 := Lib.hid hst2
         clear hst2 HST
         refine Reg.oneT rfl ?_
         go_wp2_with fail
         (refine ⟨?anew,?_⟩;case anew => ((repeat (refine Reg.anew_cons rfl rfl (fun _ => by go_simp) ?_));exact Reg.anew_nil))
         clear u0 u1 u2 g0 g1 g2
         refine Reg.doneT ?_
         simp only [Exit.then]
         go_wp2_with fail
         go_meet
         exact ⟨y6,y7,rfl,rfl,HST2⟩
 case rest =>
  rename_i y0
  revert y0
  as_aux_lemma =>
   intro y0
   intros
   rename_i hcut
   obtain ⟨x5,x6,rfl,rfl,HS3⟩ := hcut
   clear HS2
   have hbz := HS3.out.blk _ (List.mem_cons_of_mem _ (List.mem_cons_of_mem _ (List.mem_cons_of_mem _ List.mem_cons_self)))
   have z0 : wc.cell? ⟨x3,0,none⟩ = some _ := Blk.cell hbz rfl
   have z1 : wc.cell? ⟨x3,1,none⟩ = some _ := Blk.cell hbz rfl
   have z2 : wc.cell? ⟨x3,2,none⟩ = some _ := Blk.cell hbz rfl
   have z3 : wc.cell? ⟨x3,3,none⟩ = some _ := Blk.cell hbz rfl
   have z4 : wc.cell? ⟨x3,4,none⟩ = some _ := Blk.cell hbz rfl
   have z5 : wc.cell? ⟨x3,5,none⟩ = some _ := Blk.cell hbz rfl
   have z6 : wc.cell? ⟨x3,6,none⟩ = some _ := Blk.cell hbz rfl
   have z7 : wc.cell? ⟨x3,7,none⟩ = some _ := Blk.cell hbz rfl
   have z8 : wc.cell? ⟨x3,8,none⟩ = some _ := Blk.cell hbz rfl
   have z9 : wc.cell? ⟨x3,9,none⟩ = some _ := Blk.cell hbz rfl
   have z10 : wc.cell? ⟨x3,10,none⟩ = some _ := Blk.cell hbz rfl
   have z11 : wc.cell? ⟨x3,11,none⟩ = some _ := Blk.cell hbz rfl
   have z12 : wc.cell? ⟨x3,12,none⟩ = some _ := Blk.cell hbz rfl
   have z13 : wc.cell? ⟨x3,13,none⟩ = some _ := Blk.cell hbz rfl
   have z14 : wc.cell? ⟨x3,14,none⟩ = some _ := Blk.cell hbz rfl
   have z15 : wc.cell? ⟨x3,15,none⟩ = some _ := Blk.cell hbz rfl
   clear hbz
   have g8 := Blk.fr (HS3.out.blk _ (List.mem_cons_of_mem _ (List.mem_cons_of_mem _ (List.mem_cons_of_mem _ List.mem_cons_self)))) 8
   have HS4 : Hid (Side w (wc.setCell ⟨x3,8,none⟩ (.int .i64 2)) l aw2 [(x6,44,[.int .i64 0,.int .i64 2,.int .i64 1]),(x5,44,[.int .i64 0,.int .i64 2,.int .i64 1]),(x4,44,[.int .i64 0,.int .i64 1,.int .i64 1]),(x3,39,[.int .i64 1,.int .i64 1,.int .i64 0,.int .i64 0,.int .i64 0,.int .i64 1,.int .i64 0,.int .i64 2,.int .i64 2,.string { data := #[97] },.int .i64 0,.slice none 0 0,.int .i64 0,.int .i64 0,.slice none 0 0,.int .i64 0])]) := Lib.hid (Side.set (pre := [(x6,44,[.int .i64 0,.int .i64 2,.int .i64 1]),(x5,44,[.int .i64 0,.int .i64 2,.int .i64 1]),(x4,44,[.int .i64 0,.int .i64 1,.int .i64 1])]) HS3.out 8 (.int .i64 2))
   go_upto_region 8 with fail
   clear g8 HS3 z0 z1 z2 z3 z4 z5 z6 z7 z8 z9 z10 z11 z12 z13 z14 z15
   generalize wc.setCell ⟨x3,8,none⟩ (.int .i64 2) = wd at HS4 ⊢
   have hbz := HS4.out.blk _ (List.mem_cons_of_mem _ (List.mem_cons_of_mem _ (List.mem_cons_of_mem _ List.mem_cons_self)))
   have z0 : wd.cell? ⟨x3,0,none⟩ = some _ := Blk.cell hbz rfl
   have z1 : wd.cell? ⟨x3,1,none⟩ = some _ := Blk.cell hbz rfl
   have z2 : wd.cell? ⟨x3,2,none⟩ = some _ := Blk.cell hbz rfl
   have z3 : wd.cell? ⟨x3,3,none⟩ = some _ := Blk.cell hbz rfl
   have z4 : wd.cell? ⟨x3,4,none⟩ = some _ := Blk.cell hbz rfl
   have z5 : wd.cell? ⟨x3,5,none⟩ = some _ := Blk.cell hbz rfl
   have z6 : wd.cell? ⟨x3,6,none⟩ = some _ := Blk.cell hbz rfl
   have z7 : wd.cell? ⟨x3,7,none⟩ = some _ := Blk.cell hbz rfl
   have z8 : wd.cell? ⟨x3,8,none⟩ = some _ := Blk.cell hbz rfl
   have z9 : wd.cell? ⟨x3,9,none⟩ = some _ := Blk.cell hbz rfl
   have z10 : wd.cell? ⟨x3,10,none⟩ = some _ := Blk.cell hbz rfl
   have z11 : wd.cell? ⟨x3,11,none⟩ = some _ := Blk.cell hbz rfl
   have z12 : wd.cell? ⟨x3,12,none⟩ = some _ := Blk.cell hbz rfl
   have z13 : wd.cell? ⟨x3,13,none⟩ = some _ := Blk.cell hbz rfl
   have z14 : wd.cell? ⟨x3,14,none⟩ = some _ := Blk.cell hbz rfl
   have z15 : wd.cell? ⟨x3,15,none⟩ = some _ := Blk.cell hbz rfl
   clear hbz
   have hc : Calls Tryz.prog 12 #[.pointer (some ⟨l,0,none⟩),.agg #[.int .i64 1,.int .i64 1,.int .i64 0,.int .i64 0,.int .i64 0,.int .i64 1,.int .i64 0,.int .i64 2,.int .i64 2,.string { data := #[97] },.int .i64 0,.slice none 0 0,.int .i64 0,.int .i64 0,.slice none 0 0,.int .i64 0]] wd fun x w' => x = .returned (.agg #[.int .i64 122,.int .i64 0,.int .i64 0]) ∧ Side w w' l aw2 [(x6,44,[.int .i64 0,.int .i64 2,.int .i64 1]),(x5,44,[.int .i64 0,.int .i64 2,.int .i64 1]),(x4,44,[.int .i64 0,.int .i64 1,.int .i64 1]),(x3,39,[.int .i64 1,.int .i64 1,.int .i64 0,.int .i64 0,.int .i64 0,.int .i64 1,.int .i64 0,.int .i64 2,.int .i64 2,.string { data := #[97] },.int .i64 0,.slice none 0 0,.int .i64 0,.int .i64 0,.slice none 0 0,.int .i64 0])] := HS4.out.doC aw_ok2 (by decide) (cDo 2) rfl rfl (by decide) aw_4
   have HC := Lib.hid hc
   clear hc HS4
   go_wp2_with fail
   refine HC.out.mono ?_
   rintro e w4 ⟨rfl,hs1⟩
   have HS5 := Lib.hid hs1
   clear HC hs1 z0 z1 z2 z3 z4 z5 z6 z7 z8 z9 z10 z11 z12 z13 z14 z15
   have hs := HS5.out.alloc [.int .i64 122,.int .i64 0,.int .i64 0] 44
   obtain ⟨x7,hx7⟩ : ∃ x,w4.heap.size = x := ⟨_,rfl⟩
   have es : ([.int .i64 122,.int .i64 0,.int .i64 0] : List Value).toArray = #[.int .i64 122,.int .i64 0,.int .i64 0] := rfl
   rw [hx7,es] at hs
   have HS6 := Lib.hid hs
   clear hs es
   clear HS5
   go_upto_region 9 with fail
   generalize w4.alloc (.cells #[.int .i64 122,.int .i64 0,.int .i64 0] 44) = we at HS6 ⊢
   clear hx7
   have hc := HS6.out.name1 aw_ok2 aw_names
   have HC := Lib.hid hc
   clear hc HS6
   go_wp2_with fail
   refine HC.out.mono ?_
   rintro e w5 ⟨xg,cg,csg,rfl,hs1⟩
   have HS7 := Lib.hid hs1
   clear HC hs1
   have hs := HS7.out.alloc [.int .i64 2,.int .i64 2,.int .i64 3,.int .i64 1,.int .i64 0,.int .i64 0,.string { data := #[] },.int .i64 0,.slice none 0 0] 36
   obtain ⟨xb,hxb⟩ : ∃ x,w5.heap.size = x := ⟨_,rfl⟩
   have es : ([.int .i64 2,.int .i64 2,.int .i64 3,.int .i64 1,.int .i64 0,.int .i64 0,.string { data := #[] },.int .i64 0,.slice none 0 0] : List Value).toArray = #[.int .i64 2,.int .i64 2,.int .i64 3,.int .i64 1,.int .i64 0,.int .i64 0,.string { data := #[] },.int .i64 0,.slice none 0 0] := rfl
   rw [hxb,es] at hs
   have HS8 := Lib.hid hs
   clear hs es
   have hr : Rp.opl.slice.R (w5.alloc (.cells #[.int .i64 2,.int .i64 2,.int .i64 3,.int .i64 1,.int .i64 0,.int .i64 0,.string { data := #[] },.int .i64 0,.slice none 0 0] 36)) (fun k => k = xb) [.slice (some ⟨xb,0,none⟩) 1 1] [opSh] := by
    have h := Own.one w5 opSh (.slice none 0 0) (fun k => k = xb) ⟨rfl,rfl,rfl,rfl,rfl,rfl,Nat.zero_le _,rfl⟩ (Rp.none_ _ _ _) rfl
    rw [hxb] at h
    exact h.read (fun k hk => by injection hk with hk;exact hk.symm)
   have hc : Calls Tryz.prog 12 #[.pointer (some ⟨l,0,none⟩),.agg #[.int .i64 3,.int .i64 2,.int .i64 1,.int .i64 0,.int .i64 0,.int .i64 0,.int .i64 0,.int .i64 0,.int .i64 0,.string { data := #[] },.int .i64 0,.slice none 0 0,.int .i64 1,.int .i64 1,.slice (some ⟨xb,0,none⟩) 1 1,.int .i64 0]] (w5.alloc (.cells #[.int .i64 2,.int .i64 2,.int .i64 3,.int .i64 1,.int .i64 0,.int .i64 0,.string { data := #[] },.int .i64 0,.slice none 0 0] 36)) fun x w' => x = .returned (.agg #[.int .i64 0,.int .i64 2,.int .i64 2]) ∧ Side w w' l aw3 [(xb,36,[.int .i64 2,.int .i64 2,.int .i64 3,.int .i64 1,.int .i64 0,.int .i64 0,.string { data := #[] },.int .i64 0,.slice none 0 0]),(xg,9,.string ⟨#[97]⟩ :: csg),(x7,44,[.int .i64 122,.int .i64 0,.int .i64 0]),(x6,44,[.int .i64 0,.int .i64 2,.int .i64 1]),(x5,44,[.int .i64 0,.int .i64 2,.int .i64 1]),(x4,44,[.int .i64 0,.int .i64 1,.int .i64 1]),(x3,39,[.int .i64 1,.int .i64 1,.int .i64 0,.int .i64 0,.int .i64 0,.int .i64 1,.int .i64 0,.int .i64 2,.int .i64 2,.string { data := #[97] },.int .i64 0,.slice none 0 0,.int .i64 0,.int .i64 0,.slice none 0 0,.int .i64 0])] := by
    have h := HS8.out.apply aw_ok2 (by decide) cShip none (some ⟨xb,0,none⟩) 0 1 (fun k => k = xb) (fun k hk => by rw [hk];exact List.mem_cons_self) (Rp.none_ _ _ _) hr (by decide) (by decide) (by decide) (fun o ho => by rw [List.mem_singleton.1 ho];decide)
    rw [aw_5] at h
    exact h
   have HC := Lib.hid hc
   clear hc hr HS8 HS7
   have hlit : (Instr.buildSlice 37 1 #[(0,.agg #[.int .i64 2,.int .i64 2,.int .i64 3,.int .i64 1,.int .i64 0,.int .i64 0,.string { data := #[] },.int .i64 0,.slice none 0 0])]).run Tryz.prog w5 = .ok (.slice (some ⟨xb,0,none⟩) 1 1) (w5.alloc (.cells #[.int .i64 2,.int .i64 2,.int .i64 3,.int .i64 1,.int .i64 0,.int .i64 0,.string { data := #[] },.int .i64 0,.slice none 0 0] 36)) := by
    have h := run_lit_opl w5 opSh (.slice none 0 0)
    rw [hxb] at h
    exact h
   have HLIT := Lib.hid hlit
   clear hlit hxb
   go_wp2_with (first | (refine wpList_litW (by rfl) 37 _ rfl (.agg #[.int .i64 2,.int .i64 2,.int .i64 3,.int .i64 1,.int .i64 0,.int .i64 0,.string { data := #[] },.int .i64 0,.slice none 0 0]) _ (by go_simp) HLIT.out ?_;go_simp) | (refine wpList_build6 (by rfl) 39 _ _ _ _ _ _ _ _ _ _ _ _ rfl (.int .i64 3) (.int .i64 2) (.int .i64 1) (.int .i64 1) (.int .i64 1) (.slice (some ⟨xb,0,none⟩) 1 1) _ rfl rfl rfl rfl rfl (by go_simp) (run_ship _ xb) ?_;go_simp))
   clear HLIT
   refine HC.out.mono ?_
   rintro e w6 ⟨rfl,hs1⟩
   have HS9 := Lib.hid hs1
   clear HC hs1
   have hs := HS9.out.alloc [.int .i64 0,.int .i64 2,.int .i64 2] 44
   obtain ⟨x9,hx9⟩ : ∃ x,w6.heap.size = x := ⟨_,rfl⟩
   have es : ([.int .i64 0,.int .i64 2,.int .i64 2] : List Value).toArray = #[.int .i64 0,.int .i64 2,.int .i64 2] := rfl
   rw [hx9,es] at hs
   have HSA := Lib.hid hs
   clear hs es
   clear HS9
   go_upto_region 11 with fail
   generalize w6.alloc (.cells #[.int .i64 0,.int .i64 2,.int .i64 2] 44) = wf at HSA ⊢
   clear hx9
   have hbz := HSA.out.blk _ (List.mem_cons_of_mem _ (List.mem_cons_of_mem _ (List.mem_cons_of_mem _ (List.mem_cons_of_mem _ (List.mem_cons_of_mem _ (List.mem_cons_of_mem _ (List.mem_cons_of_mem _ List.mem_cons_self)))))))
   have z0 : wf.cell? ⟨x3,0,none⟩ = some _ := Blk.cell hbz rfl
   have z1 : wf.cell? ⟨x3,1,none⟩ = some _ := Blk.cell hbz rfl
   have z2 : wf.cell? ⟨x3,2,none⟩ = some _ := Blk.cell hbz rfl
   have z3 : wf.cell? ⟨x3,3,none⟩ = some _ := Blk.cell hbz rfl
   have z4 : wf.cell? ⟨x3,4,none⟩ = some _ := Blk.cell hbz rfl
   have z5 : wf.cell? ⟨x3,5,none⟩ = some _ := Blk.cell hbz rfl
   have z6 : wf.cell? ⟨x3,6,none⟩ = some _ := Blk.cell hbz rfl
   have z7 : wf.cell? ⟨x3,7,none⟩ = some _ := Blk.cell hbz rfl
   have z8 : wf.cell? ⟨x3,8,none⟩ = some _ := Blk.cell hbz rfl
   have z9 : wf.cell? ⟨x3,9,none⟩ = some _ := Blk.cell hbz rfl
   have z10 : wf.cell? ⟨x3,10,none⟩ = some _ := Blk.cell hbz rfl
   have z11 : wf.cell? ⟨x3,11,none⟩ = some _ := Blk.cell hbz rfl
   have z12 : wf.cell? ⟨x3,12,none⟩ = some _ := Blk.cell hbz rfl
   have z13 : wf.cell? ⟨x3,13,none⟩ = some _ := Blk.cell hbz rfl
   have z14 : wf.cell? ⟨x3,14,none⟩ = some _ := Blk.cell hbz rfl
   have z15 : wf.cell? ⟨x3,15,none⟩ = some _ := Blk.cell hbz rfl
   clear hbz
   have hc : Calls Tryz.prog 12 #[.pointer (some ⟨l,0,none⟩),.agg #[.int .i64 1,.int .i64 1,.int .i64 0,.int .i64 0,.int .i64 0,.int .i64 1,.int .i64 0,.int .i64 2,.int .i64 2,.string { data := #[97] },.int .i64 0,.slice none 0 0,.int .i64 0,.int .i64 0,.slice none 0 0,.int .i64 0]] wf fun x w' => x = .returned (.agg #[.int .i64 120,.int .i64 0,.int .i64 0]) ∧ Side w w' l aw3 [(x9,44,[.int .i64 0,.int .i64 2,.int .i64 2]),(xb,36,[.int .i64 2,.int .i64 2,.int .i64 3,.int .i64 1,.int .i64 0,.int .i64 0,.string { data := #[] },.int .i64 0,.slice none 0 0]),(xg,9,.string ⟨#[97]⟩ :: csg),(x7,44,[.int .i64 122,.int .i64 0,.int .i64 0]),(x6,44,[.int .i64 0,.int .i64 2,.int .i64 1]),(x5,44,[.int .i64 0,.int .i64 2,.int .i64 1]),(x4,44,[.int .i64 0,.int .i64 1,.int .i64 1]),(x3,39,[.int .i64 1,.int .i64 1,.int .i64 0,.int .i64 0,.int .i64 0,.int .i64 1,.int .i64 0,.int .i64 2,.int .i64 2,.string { data := #[97] },.int .i64 0,.slice none 0 0,.int .i64 0,.int .i64 0,.slice none 0 0,.int .i64 0])] := HSA.out.doC aw_ok3 (by decide) (cDo 2) rfl rfl (by decide) aw_6
   have HC := Lib.hid hc
   clear hc HSA
   go_wp2_with fail
   refine HC.out.mono ?_
   rintro e w7 ⟨rfl,hs1⟩
   have HSB := Lib.hid hs1
   clear HC hs1 z0 z1 z2 z3 z4 z5 z6 z7 z8 z9 z10 z11 z12 z13 z14 z15
   have hs := HSB.out.alloc [.int .i64 120,.int .i64 0,.int .i64 0] 44
   obtain ⟨xa,hxa⟩ : ∃ x,w7.heap.size = x := ⟨_,rfl⟩
   have es : ([.int .i64 120,.int .i64 0,.int .i64 0] : List Value).toArray = #[.int .i64 120,.int .i64 0,.int .i64 0] := rfl
   rw [hxa,es] at hs
   have HSD := Lib.hid hs
   clear hs es
   clear HSB
   go_upto_region 12 with fail
   generalize w7.alloc (.cells #[.int .i64 120,.int .i64 0,.int .i64 0] 44) = wg at HSD ⊢
   clear hxa
   have hba := HSD.out.blk _ List.mem_cons_self
   have a0 : wg.cell? ⟨xa,0,none⟩ = some _ := Blk.cell hba rfl
   have a1 : wg.cell? ⟨xa,1,none⟩ = some _ := Blk.cell hba rfl
   have a2 : wg.cell? ⟨xa,2,none⟩ = some _ := Blk.cell hba rfl
   clear hba
   have hbb := HSD.out.blk _ (List.mem_cons_of_mem _ List.mem_cons_self)
   have b0 : wg.cell? ⟨x9,0,none⟩ = some _ := Blk.cell hbb rfl
   have b1 : wg.cell? ⟨x9,1,none⟩ = some _ := Blk.cell hbb rfl
   have b2 : wg.cell? ⟨x9,2,none⟩ = some _ := Blk.cell hbb rfl
   clear hbb
   have hbc := HSD.out.blk _ (List.mem_cons_of_mem _ (List.mem_cons_of_mem _ (List.mem_cons_of_mem _ List.mem_cons_self)))
   have c0 : wg.cell? ⟨xg,0,none⟩ = some _ := Blk.cell hbc rfl
   clear hbc
   have hbd := HSD.out.blk _ (List.mem_cons_of_mem _ (List.mem_cons_of_mem _ (List.mem_cons_of_mem _ (List.mem_cons_of_mem _ List.mem_cons_self))))
   have d0 : wg.cell? ⟨x7,0,none⟩ = some _ := Blk.cell hbd rfl
   have d1 : wg.cell? ⟨x7,1,none⟩ = some _ := Blk.cell hbd rfl
   have d2 : wg.cell? ⟨x7,2,none⟩ = some _ := Blk.cell hbd rfl
   clear hbd
   have hbe := HSD.out.blk _ (List.mem_cons_of_mem _ (List.mem_cons_of_mem _ (List.mem_cons_of_mem _ (List.mem_cons_of_mem _ (List.mem_cons_of_mem _ List.mem_cons_self)))))
   have e0 : wg.cell? ⟨x6,0,none⟩ = some _ := Blk.cell hbe rfl
   have e1 : wg.cell? ⟨x6,1,none⟩ = some _ := Blk.cell hbe rfl
   have e2 : wg.cell? ⟨x6,2,none⟩ = some _ := Blk.cell hbe rfl
   clear hbe
   have hbf := HSD.out.blk _ (List.mem_cons_of_mem _ (List.mem_cons_of_mem _ (List.mem_cons_of_mem _ (List.mem_cons_of_mem _ (List.mem_cons_of_mem _ (List.mem_cons_of_mem _ List.mem_cons_self))))))
   have f0 : wg.cell? ⟨x5,0,none⟩ = some _ := Blk.cell hbf rfl
   have f1 : wg.cell? ⟨x5,1,none⟩ = some _ := Blk.cell hbf rfl
   have f2 : wg.cell? ⟨x5,2,none⟩ = some _ := Blk.cell hbf rfl
   clear hbf
   have hbg := HSD.out.blk _ (List.mem_cons_of_mem _ (List.mem_cons_of_mem _ (List.mem_cons_of_mem _ (List.mem_cons_of_mem _ (List.mem_cons_of_mem _ (List.mem_cons_of_mem _ (List.mem_cons_of_mem _ List.mem_cons_self)))))))
   have g0 : wg.cell? ⟨x4,0,none⟩ = some _ := Blk.cell hbg rfl
   have g1 : wg.cell? ⟨x4,1,none⟩ = some _ := Blk.cell hbg rfl
   have g2 : wg.cell? ⟨x4,2,none⟩ = some _ := Blk.cell hbg rfl
   clear hbg
   have hl := HSD.out.lost aw_ok3 (by decide)
   have HL := Lib.hid hl
   clear hl
   go_wp2_with fail
   refine HL.out.mono ?_
   rintro e w8 ⟨Al,cl,rfl,hs8⟩
   have HSE := Lib.hid hs8
   clear hs8 HL HSD a0 a1 a2 b0 b1 b2 c0 d0 d1 d2 e0 e1 e2 f0 f1 f2 g0 g1 g2
   have hln : aw3.lost.length = 1 := rfl
   rw [hln]
   clear hln
   have hh : Calls Tryz.prog 30 #[.pointer (some ⟨l,0,none⟩)] w8 fun x w' => x = .returned (.agg #[.int .i64 2,.int .i64 1]) ∧ Side w w' l aw3 _ := HSE.out.holder
   have HH := Lib.hid hh
   clear hh HSE
   go_wp2_with fail
   refine HH.out.mono ?_
   rintro e w9 ⟨rfl,hs9⟩
   have HSF := Lib.hid hs9.kp
   clear hs9 HH
   go_wp2_with fail
   go_ret
   exact ⟨rfl,HSF.out⟩
end Go.Proofs.YtjlbacfedfkilaaGreat
