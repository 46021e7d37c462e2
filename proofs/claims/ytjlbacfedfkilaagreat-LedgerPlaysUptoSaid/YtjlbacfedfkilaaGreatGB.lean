/-
  Put together: OpL, Clon, Map, MapR, W32, CutL, Same, C1.
-/
import Derived.Test.YtjlbacfedfkilaaGreatGA
import Derived.Test.YtjlbacfedfkilaaGreatGA2
import Derived.Test.YtjlbacfedfkilaaGreatReg
import Derived.Maps.Own
import Derived.Laws.BitsAllLaws
namespace Go.Proofs.YtjlbacfedfkilaaGreat
section
open Go.RowKit Go.ChangeShapes Go.WideShapes Go.ChangeAt
structure OpL where
 n : Int
 epoch : Int
 kind : Int
 site : Int
 client : Int
 seq : Int
 name : ByteArray
 size : Int
 hashes : List ByteArray
def I64 (x : Int) : Prop := (Lit.int .i64 x).wf = true
namespace OpL
def cells (o : OpL) (v : Value) : List Value := [.int .i64 o.n,.int .i64 o.epoch,.int .i64 o.kind,.int .i64 o.site,.int .i64 o.client,.int .i64 o.seq,.string o.name,.int .i64 o.size,v]
def nums (o : OpL) : Prop := I64 o.n ∧ I64 o.epoch ∧ I64 o.kind ∧ I64 o.site ∧ I64 o.client ∧ I64 o.seq ∧ o.name.size ≤ maxLen ∧ I64 o.size
end OpL
def Rp.opl : Rp OpL where
 size := 9
 R w S cs a := ∃ v,cs = a.cells v ∧ a.nums ∧ Rp.str.slice.R w S [v] a.hashes
 μ a := a.name.size + Rp.str.slice.μ a.hashes
 pos := by omega
 len := by rintro w S cs a ⟨v,rfl,_⟩;rfl
 keep := by
  rintro w w' S S' cs a hs hk ⟨v,rfl,h1,h2⟩
  exact ⟨v,rfl,h1,Rp.str.slice.keep hs hk h2⟩
 bnd := by
  rintro w S cs a ⟨v,rfl,h1,h2⟩
  exact ⟨v,rfl,h1,Rp.str.slice.bnd h2⟩
def Rp.sht : Rp (Int × List ByteArray) where
 size := 2
 R w S cs a := ∃ v,cs = [.int .i64 a.1,v] ∧ I64 a.1 ∧ Rp.str.slice.R w S [v] a.2
 μ a := Rp.str.slice.μ a.2
 pos := by omega
 len := by rintro w S cs a ⟨v,rfl,_⟩;rfl
 keep := by
  rintro w w' S S' cs a hs hk ⟨v,rfl,h1,h2⟩
  exact ⟨v,rfl,h1,Rp.str.slice.keep hs hk h2⟩
 bnd := by
  rintro w S cs a ⟨v,rfl,h1,h2⟩
  exact ⟨v,rfl,h1,Rp.str.slice.bnd h2⟩
theorem Arg.sht {P : Program} {t : TypeId} {f0 f1 : Field} (ht : P.underlying t = some (.struct #[f0,f1])) (ho : [f0.offset,f1.offset] = [0,1]) (hc : [P.cellsOf f0.type,P.cellsOf f1.type] = [1,1]) (hct : P.cellsOf t = 2)
 (h0 : P.underlying f0.type = some (.int .i64)) (h1 : Arg P f1.type Rp.str.slice) : Arg P t Rp.sht := by
 intro H enc w spare held fuel cs x h
 obtain ⟨xs,n,_,rfl,hl,hlen,hf⟩ := DataW.trod_struct ht h
 simp only [List.cons.injEq,and_true] at ho hc
 obtain ⟨o0,o1⟩ := ho
 obtain ⟨c0,c1⟩ := hc
 rw [hct] at hl
 match xs,hlen with
 | [y0,y1],_ =>
   have g0 := hf 0 f0 rfl
   have g1 := hf 1 f1 rfl
   match cs,hl with
   | [a,b],_ =>
     rw [o0,c0] at g0
     rw [o1,c1] at g1
     simp only [List.drop_zero,List.drop_succ_cons,List.take_succ_cons,List.take_zero,List.getElem?_cons_zero,List.getElem?_cons_succ] at g0 g1
     obtain ⟨k,e0,e0',w0⟩ := DataW.trod_int h0 g0
     obtain ⟨l,hr,hμ⟩ := h1 g1
     simp only [List.cons.injEq,and_true] at e0
     subst e0
     refine ⟨(k,l),⟨b,rfl,w0,hr⟩,?_⟩
     have hμ' : Rp.str.slice.μ l ≤ Rows.uptoBulk y1.1 := hμ
     show Rp.str.slice.μ l ≤ _
     simp only [List.map_cons,List.map_nil,Rows.uptoBulk,Rows.uptoBulkAll]
     omega
theorem Arg.opl {P : Program} {t : TypeId} {f0 f1 f2 f3 f4 f5 f6 f7 : Field} (ht : P.underlying t = some (.struct #[f0,f1,f2,f3,f4,f5,f6,f7])) (ho : [f0.offset,f1.offset,f2.offset,f3.offset,f4.offset,f5.offset,f6.offset,f7.offset] = [0,1,2,3,4,5,6,7])
 (hc : [P.cellsOf f0.type,P.cellsOf f1.type,P.cellsOf f2.type,P.cellsOf f3.type,P.cellsOf f4.type,P.cellsOf f5.type,P.cellsOf f6.type,P.cellsOf f7.type] = [1,1,1,1,1,1,1,2]) (hct : P.cellsOf t = 9)
 (h0 : P.underlying f0.type = some (.int .i64)) (h1 : P.underlying f1.type = some (.int .i64)) (h2 : P.underlying f2.type = some (.int .i64)) (h3 : P.underlying f3.type = some (.int .i64)) (h4 : P.underlying f4.type = some (.int .i64)) (h5 : P.underlying f5.type = some (.int .i64)) (h6 : P.underlying f6.type = some .string) (h7 : Arg P f7.type Rp.sht) : Arg P t Rp.opl := by
 intro H enc w spare held fuel cs x h
 obtain ⟨xs,n,_,rfl,hl,hlen,hf⟩ := DataW.trod_struct ht h
 simp only [List.cons.injEq,and_true] at ho hc
 obtain ⟨o0,o1,o2,o3,o4,o5,o6,o7⟩ := ho
 obtain ⟨c0,c1,c2,c3,c4,c5,c6,c7⟩ := hc
 rw [hct] at hl
 match xs,hlen with
 | [y0,y1,y2,y3,y4,y5,y6,y7],_ =>
   have g0 := hf 0 f0 rfl
   have g1 := hf 1 f1 rfl
   have g2 := hf 2 f2 rfl
   have g3 := hf 3 f3 rfl
   have g4 := hf 4 f4 rfl
   have g5 := hf 5 f5 rfl
   have g6 := hf 6 f6 rfl
   have g7 := hf 7 f7 rfl
   match cs,hl with
   | [d0,d1,d2,d3,d4,d5,d6,d7,d8],_ =>
     rw [o0,c0] at g0
     rw [o1,c1] at g1
     rw [o2,c2] at g2
     rw [o3,c3] at g3
     rw [o4,c4] at g4
     rw [o5,c5] at g5
     rw [o6,c6] at g6
     rw [o7,c7] at g7
     simp only [List.drop_zero,List.drop_succ_cons,List.take_succ_cons,List.take_zero,List.getElem?_cons_zero,List.getElem?_cons_succ] at g0 g1 g2 g3 g4 g5 g6 g7
     obtain ⟨k0,e0,_,w0⟩ := DataW.trod_int h0 g0
     obtain ⟨k1,e1,_,w1⟩ := DataW.trod_int h1 g1
     obtain ⟨k2,e2,_,w2⟩ := DataW.trod_int h2 g2
     obtain ⟨k3,e3,_,w3⟩ := DataW.trod_int h3 g3
     obtain ⟨k4,e4,_,w4⟩ := DataW.trod_int h4 g4
     obtain ⟨k5,e5,_,w5⟩ := DataW.trod_int h5 g5
     obtain ⟨s6,e6,e6',w6⟩ := DataW.trod_string h6 g6
     obtain ⟨⟨k7,l7⟩,⟨v,e7,w7,hr⟩,hμ⟩ := h7 g7
     simp only [List.cons.injEq,and_true] at e0 e1 e2 e3 e4 e5 e6 e7
     obtain ⟨e7,rfl⟩ := e7
     subst e0 e1 e2 e3 e4 e5 e6 e7
     refine ⟨⟨k0,k1,k2,k3,k4,k5,s6,k7,l7⟩,⟨d8,rfl,⟨w0,w1,w2,w3,w4,w5,w6,w7⟩,hr⟩,?_⟩
     have hμ' : Rp.str.slice.μ l7 ≤ Rows.uptoBulk y7.1 := hμ
     have b6 : s6.size ≤ Rows.uptoBulk y6.1 := by rw [e6'];simp [Rows.uptoBulk]
     show s6.size + Rp.str.slice.μ l7 ≤ _
     simp only [List.map_cons,List.map_nil,Rows.uptoBulk,Rows.uptoBulkAll]
     omega
structure CmdL where
 kind : Int
 epoch : Int
 site : Int
 op : OpL
 after : Int
 since : Int
 ops : List OpL
 tag : Int
namespace CmdL
def cells (c : CmdL) (hv ov : Value) : List Value := [.int .i64 c.kind,.int .i64 c.epoch,.int .i64 c.site] ++ c.op.cells hv ++ [.int .i64 c.after,.int .i64 c.since,ov,.int .i64 c.tag]
def nums (c : CmdL) : Prop := I64 c.kind ∧ I64 c.epoch ∧ I64 c.site ∧ c.op.nums ∧ I64 c.after ∧ I64 c.since ∧ I64 c.tag
end CmdL
def Rp.cmd : Rp CmdL where
 size := 16
 R w S cs a := ∃ hv ov,cs = a.cells hv ov ∧ a.nums ∧ Rp.str.slice.R w S [hv] a.op.hashes ∧ Rp.opl.slice.R w S [ov] a.ops
 μ a := Rp.opl.μ a.op + Rp.opl.slice.μ a.ops
 pos := by omega
 len := by rintro w S cs a ⟨hv,ov,rfl,_⟩;rfl
 keep := by
  rintro w w' S S' cs a hs hk ⟨hv,ov,rfl,h1,h2,h3⟩
  exact ⟨hv,ov,rfl,h1,Rp.str.slice.keep hs hk h2,Rp.opl.slice.keep hs hk h3⟩
 bnd := by
  rintro w S cs a ⟨hv,ov,rfl,h1,h2,h3⟩
  exact ⟨hv,ov,rfl,h1,Rp.str.slice.bnd h2,Rp.opl.slice.bnd h3⟩
theorem Arg.cmd {P : Program} {t : TypeId} {f0 f1 f2 f3 f4 f5 f6 f7 : Field} (ht : P.underlying t = some (.struct #[f0,f1,f2,f3,f4,f5,f6,f7])) (ho : [f0.offset,f1.offset,f2.offset,f3.offset,f4.offset,f5.offset,f6.offset,f7.offset] = [0,1,2,3,12,13,14,15])
 (hc : [P.cellsOf f0.type,P.cellsOf f1.type,P.cellsOf f2.type,P.cellsOf f3.type,P.cellsOf f4.type,P.cellsOf f5.type,P.cellsOf f6.type,P.cellsOf f7.type] = [1,1,1,9,1,1,1,1]) (hct : P.cellsOf t = 16)
 (h0 : P.underlying f0.type = some (.int .i64)) (h1 : P.underlying f1.type = some (.int .i64)) (h2 : P.underlying f2.type = some (.int .i64)) (h3 : Arg P f3.type Rp.opl) (h4 : P.underlying f4.type = some (.int .i64)) (h5 : P.underlying f5.type = some (.int .i64)) (h6 : Arg P f6.type Rp.opl.slice) (h7 : P.underlying f7.type = some (.int .i64)) : Arg P t Rp.cmd := by
 intro H enc w spare held fuel cs x h
 obtain ⟨xs,n,_,rfl,hl,hlen,hf⟩ := DataW.trod_struct ht h
 simp only [List.cons.injEq,and_true] at ho hc
 obtain ⟨o0,o1,o2,o3,o4,o5,o6,o7⟩ := ho
 obtain ⟨c0,c1,c2,c3,c4,c5,c6,c7⟩ := hc
 rw [hct] at hl
 match xs,hlen with
 | [y0,y1,y2,y3,y4,y5,y6,y7],_ =>
   have g0 := hf 0 f0 rfl
   have g1 := hf 1 f1 rfl
   have g2 := hf 2 f2 rfl
   have g3 := hf 3 f3 rfl
   have g4 := hf 4 f4 rfl
   have g5 := hf 5 f5 rfl
   have g6 := hf 6 f6 rfl
   have g7 := hf 7 f7 rfl
   match cs,hl with
   | [d0,d1,d2,d3,d4,d5,d6,d7,d8,d9,d10,d11,d12,d13,d14,d15],_ =>
     rw [o0,c0] at g0
     rw [o1,c1] at g1
     rw [o2,c2] at g2
     rw [o3,c3] at g3
     rw [o4,c4] at g4
     rw [o5,c5] at g5
     rw [o6,c6] at g6
     rw [o7,c7] at g7
     simp only [List.drop_zero,List.drop_succ_cons,List.take_succ_cons,List.take_zero,List.getElem?_cons_zero,List.getElem?_cons_succ] at g0 g1 g2 g3 g4 g5 g6 g7
     obtain ⟨k0,e0,_,w0⟩ := DataW.trod_int h0 g0
     obtain ⟨k1,e1,_,w1⟩ := DataW.trod_int h1 g1
     obtain ⟨k2,e2,_,w2⟩ := DataW.trod_int h2 g2
     obtain ⟨op,⟨hv,e3,w3,hr3⟩,hμ3⟩ := h3 g3
     obtain ⟨k4,e4,_,w4⟩ := DataW.trod_int h4 g4
     obtain ⟨k5,e5,_,w5⟩ := DataW.trod_int h5 g5
     obtain ⟨l6,hr6,hμ6⟩ := h6 g6
     obtain ⟨k7,e7,_,w7⟩ := DataW.trod_int h7 g7
     unfold OpL.cells at e3
     simp only [List.cons.injEq,and_true] at e0 e1 e2 e3 e4 e5 e7
     obtain ⟨p0,p1,p2,p3,p4,p5,p6,p7,p8⟩ := e3
     subst e0 e1 e2 e4 e5 e7 p0 p1 p2 p3 p4 p5 p6 p7 p8
     refine ⟨⟨k0,k1,k2,op,k4,k5,l6,k7⟩,⟨_,d14,rfl,⟨w0,w1,w2,w3,w4,w5,w7⟩,hr3,hr6⟩,?_⟩
     have h3' : Rp.opl.μ op ≤ Rows.uptoBulk y3.1 := hμ3
     have h6' : Rp.opl.slice.μ l6 ≤ Rows.uptoBulk y6.1 := hμ6
     show Rp.opl.μ op + Rp.opl.slice.μ l6 ≤ _
     simp only [List.map_cons,List.map_nil,Rows.uptoBulk,Rows.uptoBulkAll]
     omega
theorem Rp.at_opl {w : World} {S : Nat → Prop} {A : Option Addr} {c : Nat} {l : List OpL} (h : Rp.opl.slice.R w S [.slice A l.length c] l) {i : Nat} {o : OpL} (hi : l[i]? = some o) :
 ∃ ad A' c',A = some ad ∧ S ad.block ∧ (∀ (j : Nat) u,(o.cells (.slice A' o.hashes.length c'))[j]? = some u → w.cell? ((ad.add (i * 9)).add j) = some u) ∧ o.nums ∧ Rp.str.slice.R w S [.slice A' o.hashes.length c'] o.hashes := by
 obtain ⟨A2,c2,he,_,_,h3⟩ := h
 simp only [List.cons.injEq,Value.slice.injEq,and_true,true_and] at he
 obtain ⟨rfl,rfl⟩ := he
 have hl : 0 < l.length := by have := (List.getElem?_eq_some_iff.1 hi).1;omega
 obtain ⟨ad,rfl,hb,hc⟩ := h3 hl
 obtain ⟨es,he,v,rfl,hn,hks⟩ := hc i o hi
 obtain ⟨A',c',hv,_⟩ := id hks
 simp only [List.cons.injEq,and_true] at hv
 subst hv
 exact ⟨ad,A',c',rfl,hb,fun j u hu => he j u hu,hn,hks⟩
end
section
open Go.RowKit Go.ChangeShapes Go.WideShapes Go.ChangeAt
theorem el_strL : Elem Tryz.prog 32 9 1 16 := Elem.of Tryz.underlying32 (z := .string ByteArray.empty) (by kernel_rfl) rfl (by decide)
theorem el_op : Elem Tryz.prog 37 36 9 96 := Elem.of Tryz.underlying37 (z := .agg #[.int .i64 0,.int .i64 0,.int .i64 0,.int .i64 0,.int .i64 0,.int .i64 0,.string ByteArray.empty,.int .i64 0,.slice none 0 0]) (by kernel_rfl) rfl (by decide)
theorem Rp.opl_one {w : World} : ∀ cs a S',Rp.opl.R w S' cs a → ∀ u ∈ cs,u.oneCell' = true := by
 rintro cs a S' ⟨v,rfl,_,A,c,hv,_⟩ u hu
 simp only [List.cons.injEq,and_true] at hv
 subst hv
 simp only [OpL.cells,List.mem_cons,List.not_mem_nil,or_false] at hu
 rcases hu with rfl | rfl | rfl | rfl | rfl | rfl | rfl | rfl | rfl <;> rfl
theorem nil_of_none {α : Type} {E : Rp α} {w : World} {S : Nat → Prop} {c : Nat} {l : List α} (h : E.slice.R w S [.slice none l.length c] l) : l = [] := by
 obtain ⟨A,c',he,_,_,h3⟩ := h
 simp only [List.cons.injEq,Value.slice.injEq,and_true,true_and] at he
 obtain ⟨rfl,rfl⟩ := he
 rcases Nat.eq_zero_or_pos l.length with h | h
 · exact List.eq_nil_of_length_eq_zero h
 · obtain ⟨ad,he,_⟩ := h3 h
   cases he
set_option maxRecDepth 100000 in
set_option maxHeartbeats 1000000 in
theorem c_cloneS (l : List ByteArray) (A : Option Addr) (c : Nat) (w : World) (S : Nat → Prop) (hl : Rp.str.slice.R w S [.slice A l.length c] l) (hll : l.length ≤ 1000000) :
 Calls Tryz.prog 103 #[.slice A l.length c] w fun e w' => ∃ A' c',e = .returned (.slice A' l.length c') ∧ Own Rp.str w' No w.heap.size 9 (.slice A' l.length c') l ∧ Kp No w w' := by
 cases A with
 | none =>
   obtain rfl := nil_of_none hl
   have he : (binOp .eql 32 (.slice none 0 c) (.slice none 0 0)).run Tryz.prog w = .ok (.bool true) w := run_eql_nil_slice w _ 9 none 0 c 0 0 Tryz.underlying32
   clear hl
   show Calls Tryz.prog _ #[.slice none 0 c] w _
   go_enter Tryz.func103,Tryz.ntmps103
   go_wp2_with fail
   go_ret
   exact ⟨_,_,rfl,Own.nil _ _ _ _ _,Kp.refl _ _⟩
 | some a =>
   have HL := Lib.hid hl
   have he : (binOp .eql 32 (.slice (some a) l.length c) (.slice none 0 0)).run Tryz.prog w = .ok (.bool false) w := by
    simp only [binOp]
    simp [Op.equal,Op.maxDepth,Lib.run_equalIn_slice_nil w 9999 32 9 (some a) l.length c 0 0 Tryz.underlying32]
   clear hl
   go_enter Tryz.func103,Tryz.ntmps103
   go_wp2_with (at_builtin;refine wpList_copy_lit (E := Rp.str) rfl w (.tmp 5) (.tmp 6) 32 rfl 9 16 el_strL rfl (some a) c S l rfl HL.out Rp.str_one (by omega) ?_;intro A' c' w' hown hk;have HO := Lib.hid (hown.str_any No);have HK := Lib.hid hk;clear hown hk)
   go_ret
   exact ⟨A',c',rfl,HO.out,HK.out⟩
set_option maxRecDepth 100000 in
set_option maxHeartbeats 1000000 in
theorem c_cloneO (l : List OpL) (A : Option Addr) (c : Nat) (w : World) (S : Nat → Prop) (hl : Rp.opl.slice.R w S [.slice A l.length c] l) (hll : l.length ≤ 1000000) :
 Calls Tryz.prog 102 #[.slice A l.length c] w fun e w' => ∃ A' c',e = .returned (.slice A' l.length c') ∧ Own Rp.opl w' S w.heap.size 36 (.slice A' l.length c') l ∧ Kp No w w' := by
 cases A with
 | none =>
   obtain rfl := nil_of_none hl
   have he : (binOp .eql 37 (.slice none 0 c) (.slice none 0 0)).run Tryz.prog w = .ok (.bool true) w := run_eql_nil_slice w _ 36 none 0 c 0 0 Tryz.underlying37
   clear hl
   show Calls Tryz.prog _ #[.slice none 0 c] w _
   go_enter Tryz.func102,Tryz.ntmps102
   go_wp2_with fail
   go_ret
   exact ⟨_,_,rfl,Own.nil _ _ _ _ _,Kp.refl _ _⟩
 | some a =>
   have HL := Lib.hid hl
   have he : (binOp .eql 37 (.slice (some a) l.length c) (.slice none 0 0)).run Tryz.prog w = .ok (.bool false) w := by
    simp only [binOp]
    simp [Op.equal,Op.maxDepth,Lib.run_equalIn_slice_nil w 9999 37 36 (some a) l.length c 0 0 Tryz.underlying37]
   clear hl
   go_enter Tryz.func102,Tryz.ntmps102
   go_wp2_with (at_builtin;refine wpList_copy_lit (E := Rp.opl) rfl w (.tmp 5) (.tmp 6) 37 rfl 36 96 el_op rfl (some a) c S l rfl HL.out Rp.opl_one (by omega) ?_;intro A' c' w' hown hk;have HO := Lib.hid hown;have HK := Lib.hid hk;clear hown hk)
   go_ret
   exact ⟨A',c',rfl,HO.out,HK.out⟩
end
section
open Go.RowKit Go.ChangeShapes Go.WideShapes Go.ChangeAt
def findIx {κ : Type} [DecidableEq κ] (k : κ) : List (κ × Value) → Option (Nat × Value)
 | [] => none
 | (k',v) :: l => if k = k' then some (0,v) else (findIx k l).map fun x => (x.1 + 1,x.2)
def mget {κ ν : Type} [DecidableEq κ] (k : κ) : List (κ × ν) → Option ν
 | [] => none
 | (k',v) :: l => if k = k' then some v else mget k l
def mput {κ ν : Type} [DecidableEq κ] (k : κ) (v : ν) : List (κ × ν) → List (κ × ν)
 | [] => [(k,v)]
 | (k',v') :: l => if k = k' then (k,v) :: l else (k',v') :: mput k v l
def mdel {κ ν : Type} [DecidableEq κ] (k : κ) : List (κ × ν) → List (κ × ν)
 | [] => []
 | (k',v') :: l => if k = k' then l else (k',v') :: mdel k l
section
variable {κ ν : Type} [DecidableEq κ]
theorem mget_put_same (k : κ) (v : ν) : ∀ l : List (κ × ν),mget k (mput k v l) = some v
 | [] => by simp [mput,mget]
 | (k',v') :: l => by
   unfold mput
   split
   · simp [mget]
   · rename_i h;rw [mget,if_neg h];exact mget_put_same k v l
theorem mget_put_other {k k2 : κ} (v : ν) (h : k2 ≠ k) : ∀ l : List (κ × ν),mget k2 (mput k v l) = mget k2 l
 | [] => by simp [mput,mget,h]
 | (k',v') :: l => by
   unfold mput
   split
   · rename_i e;subst e;simp [mget,h]
   · simp only [mget];rw [mget_put_other v h l]
theorem mget_put (k k2 : κ) (v : ν) (l : List (κ × ν)) : mget k2 (mput k v l) = if k2 = k then some v else mget k2 l := by
 split
 · rename_i h;subst h;exact mget_put_same _ _ _
 · rename_i h;exact mget_put_other v h l
theorem mem_keys_mput (k k2 : κ) (v : ν) : ∀ l : List (κ × ν),k2 ∈ (mput k v l).map (·.1) ↔ k2 = k ∨ k2 ∈ l.map (·.1)
 | [] => by simp [mput]
 | (k',v') :: l => by
   unfold mput
   split
   · rename_i e;subst e;simp
   · simp only [List.map_cons,List.mem_cons,mem_keys_mput k k2 v l]
     constructor
     · rintro (h | h | h) <;> simp [h]
     · rintro (h | h | h) <;> simp [h]
theorem nodup_mput (k : κ) (v : ν) : ∀ l : List (κ × ν),(l.map (·.1)).Nodup → ((mput k v l).map (·.1)).Nodup
 | [],_ => by simp [mput]
 | (k',v') :: l,h => by
   simp only [List.map_cons,List.nodup_cons] at h
   unfold mput
   split
   · rename_i e;subst e;simpa using h
   · rename_i e
     simp only [List.map_cons,List.nodup_cons]
     refine ⟨fun hm => ?_,nodup_mput k v l h.2⟩
     rcases (mem_keys_mput k k' v l).1 hm with h1 | h1
     · exact e h1.symm
     · exact h.1 h1
theorem mget_none_iff (k : κ) : ∀ l : List (κ × ν),mget k l = none ↔ k ∉ l.map (·.1)
 | [] => by simp [mget]
 | (k',v') :: l => by
   simp only [mget,List.map_cons,List.mem_cons,not_or]
   split
   · rename_i e;simp [e]
   · rename_i e;rw [mget_none_iff k l];simp [e]
theorem mem_keys_mdel {k k2 : κ} : ∀ {l : List (κ × ν)},k2 ∈ (mdel k l).map (·.1) → k2 ∈ l.map (·.1)
 | (k',v') :: l,h => by
   unfold mdel at h
   split at h
   · exact List.mem_cons_of_mem _ h
   · simp only [List.map_cons,List.mem_cons] at h ⊢
     rcases h with h | h
     · exact .inl h
     · exact .inr (mem_keys_mdel h)
theorem nodup_mdel (k : κ) : ∀ l : List (κ × ν),(l.map (·.1)).Nodup → ((mdel k l).map (·.1)).Nodup
 | [],_ => by simp [mdel]
 | (k',v') :: l,h => by
   simp only [List.map_cons,List.nodup_cons] at h
   unfold mdel
   split
   · exact h.2
   · simp only [List.map_cons,List.nodup_cons]
     exact ⟨fun hm => h.1 (mem_keys_mdel hm),nodup_mdel k l h.2⟩
theorem mget_del (k k2 : κ) : ∀ l : List (κ × ν),(l.map (·.1)).Nodup → mget k2 (mdel k l) = if k2 = k then none else mget k2 l
 | [],_ => by simp [mdel,mget]
 | (k',v') :: l,h => by
   simp only [List.map_cons,List.nodup_cons] at h
   unfold mdel
   split
   · rename_i e
     subst e
     split
     · rename_i e2;subst e2;exact (mget_none_iff _ _).2 h.1
     · rename_i e2;rw [mget,if_neg e2]
   · rename_i e
     simp only [mget]
     rw [mget_del k k2 l h.2]
     by_cases e2 : k2 = k
     · subst e2;rw [if_neg e,if_pos rfl,if_pos rfl]
     · rw [if_neg e2,if_neg e2]
end
theorem bytes_beq (a b : ByteArray) : (a == b) = decide (a = b) := by
 by_cases h : a = b
 · subst h;simp only [decide_true]
   show (a.data == a.data) = true
   simp
 · simp only [h,decide_false]
   show (a.data == b.data) = false
   rw [beq_eq_false_iff_ne]
   intro e
   apply h
   cases a;cases b;simp_all
structure KeyOk (P : Program) (T : TypeId) {κ : Type} [DecidableEq κ] (enc : κ → Value) : Prop where
 inj : ∀ a b,enc a = enc b → a = b
 check : ∀ b k w,(Instr.checkKey b 10000 T (enc k)).run P w = .ok () w
 find : ∀ (k : κ) (l : List (κ × Value)) (es : List MapEntry) w,es.map (fun e => (e.key,e.val)) = l.map (fun p => (enc p.1,p.2)) → (Instr.findKey T (enc k) es).run P w = .ok (findIx k l) w
 stays : ∀ k w,(Instr.keyThatStays (enc k) (enc k)).run P w = .ok (enc k) w
def MapOf {κ : Type} (w : World) (b : Nat) (enc : κ → Value) (l : List (κ × Value)) : Prop :=
 ∃ es clock,w.heap[b]? = some (.map es clock) ∧ es.toList.map (fun e => (e.key,e.val)) = l.map (fun p => (enc p.1,p.2)) ∧ (l.map (·.1)).Nodup ∧
   (∀ e ∈ es,e.born < clock) ∧ (es.toList.map (·.born)).Nodup
theorem findNow_eq {κ : Type} [DecidableEq κ] (kind : TypeDesc) (enc : κ → Value) (hsame : ∀ a b,Instr.sameNow kind (enc a) (enc b) = some (decide (a = b))) (k : κ) : ∀ (l : List (κ × Value)) (es : List MapEntry) (i : Nat),
 es.map (fun e => (e.key,e.val)) = l.map (fun p => (enc p.1,p.2)) → Instr.findNow kind (enc k) es i = some ((findIx k l).map fun x => (x.1 + i,x.2))
 | [],[],i,_ => rfl
 | [],_ :: _,_,h => by cases h
 | _ :: _,[],_,h => by cases h
 | (k',v) :: l,e :: es,i,h => by
   simp only [List.map_cons,List.cons.injEq,Prod.mk.injEq] at h
   obtain ⟨⟨h1,h2⟩,h3⟩ := h
   unfold Instr.findNow
   rw [h1,hsame]
   by_cases hk : k = k'
   · simp [hk,findIx,h2]
   · simp only [hk,decide_false]
     rw [findNow_eq kind enc hsame k l es (i + 1) h3]
     simp only [findIx,if_neg hk,Option.map_map,Option.some.injEq]
     congr 1
     funext x
     simp only [Function.comp,Prod.mk.injEq,and_true]
     omega
theorem KeyOk.string {P : Program} {T : TypeId} (hT : P.underlying T = some .string) : KeyOk P T (κ := ByteArray) Value.string where
 inj a b h := by injection h
 check b k w := by
  unfold Instr.checkKey
  simp [run_underlying hT]
 find k l es w h := by
  unfold Instr.findKey
  simp only [Sem.run_bind,run_underlying hT,Result.andThen_ok]
  rw [findNow_eq .string Value.string (fun a b => by simp [Instr.sameNow,bytes_beq]) k l es 0 h]
  simp
 stays k w := by
  unfold Instr.keyThatStays
  simp [Instr.sameBits,bytes_beq]
theorem KeyOk.int {P : Program} {T : TypeId} {q : IntKind} (hT : P.underlying T = some (.int q)) : KeyOk P T (κ := Int) (Value.int q) where
 inj a b h := by injection h
 check b k w := by
  unfold Instr.checkKey
  simp [run_underlying hT]
 find k l es w h := by
  unfold Instr.findKey
  simp only [Sem.run_bind,run_underlying hT,Result.andThen_ok]
  rw [findNow_eq (.int q) (Value.int q) (fun a b => by simp [Instr.sameNow];rfl) k l es 0 h]
  simp
 stays k w := by
  unfold Instr.keyThatStays
  simp [Instr.sameBits]
set_option linter.unusedSectionVars false
section
variable {P : Program} {T K E : TypeId} {κ : Type} [DecidableEq κ] {enc : κ → Value} {w w' : World} {b : Nat} {l : List (κ × Value)}
theorem findIx_get (k : κ) : ∀ l : List (κ × Value),(findIx k l).map (·.2) = mget k l
 | [] => rfl
 | (k',v) :: l => by
   unfold findIx mget
   split
   · rfl
   · rw [← findIx_get k l,Option.map_map];rfl
theorem MapOf.lt (h : MapOf w b enc l) : b < w.heap.size := by
 obtain ⟨es,clock,hb,_⟩ := h
 exact (Array.getElem?_eq_some_iff.1 hb).1
theorem MapOf.kept {S : Nat → Prop} (h : MapOf w b enc l) (hk : Kp S w w') (hs : ¬ S b) : MapOf w' b enc l := by
 have hlt := h.lt
 obtain ⟨es,clock,hb,h2⟩ := h
 exact ⟨es,clock,(hk.block b hlt hs).trans hb,h2⟩
theorem MapOf.made (w : World) : MapOf (w.alloc (.map #[] 0)) w.heap.size enc [] :=
 ⟨#[],0,by show (w.heap.push _)[w.heap.size]? = _;simp,by simp,by simp,by simp,by simp⟩
theorem MapOf.look (hK : KeyOk P K enc) (ht : P.underlying T = some (.map K E)) (h : MapOf w b enc l) (k : κ) {z : Value} (hz : (zeroValue E).run P w = .ok z w) :
 (Instr.lookup T (.map (some b)) (enc k) false).run P w = .ok ((mget k l).getD z) w := by
 obtain ⟨es,clock,hb,h1,_⟩ := h
 unfold Instr.lookup
 simp only [Sem.run_bind,run_underlying ht,Result.andThen_ok]
 have hg : (getObj b).run P w = .ok (.map es clock) w := by show (Sem.getObj b Sem.pure).run P w = _;simp [Sem.run,hb]
 have hf := hK.find k l es.toList w h1
 rw [← findIx_get]
 cases hx : findIx k l with
 | none => rw [hx] at hf;simp [hg,hK.check,hf,hz]
 | some x => rw [hx] at hf;simp [hg,hK.check,hf]
theorem MapOf.look_ok (hK : KeyOk P K enc) (ht : P.underlying T = some (.map K E)) (h : MapOf w b enc l) (k : κ) {z : Value} (hz : (zeroValue E).run P w = .ok z w) :
 (Instr.lookup T (.map (some b)) (enc k) true).run P w = .ok (.tuple #[(mget k l).getD z,.bool (mget k l).isSome]) w := by
 obtain ⟨es,clock,hb,h1,_⟩ := h
 unfold Instr.lookup
 simp only [Sem.run_bind,run_underlying ht,Result.andThen_ok]
 have hg : (getObj b).run P w = .ok (.map es clock) w := by show (Sem.getObj b Sem.pure).run P w = _;simp [Sem.run,hb]
 have hf := hK.find k l es.toList w h1
 rw [← findIx_get]
 cases hx : findIx k l with
 | none => rw [hx] at hf;simp [hg,hK.check,hf,hz]
 | some x => rw [hx] at hf;simp [hg,hK.check,hf]
theorem map_eraseIdx {α β : Type} (f : α → β) : ∀ (l : List α) (i : Nat),(l.eraseIdx i).map f = (l.map f).eraseIdx i
 | [],_ => rfl
 | _ :: _,0 => rfl
 | x :: l,i + 1 => by simp [map_eraseIdx f l i]
theorem mput_of_some {k : κ} {v : Value} : ∀ {l : List (κ × Value)} {i : Nat} {v0 : Value},findIx k l = some (i,v0) → mput k v l = l.modify i (fun _ => (k,v)) ∧ (l[i]?).map (·.1) = some k
 | [],_,_,h => by cases h
 | (k',v') :: l,i,v0,h => by
   unfold findIx at h
   unfold mput
   split at h
   · rename_i e
     subst e
     simp only [Option.some.injEq,Prod.mk.injEq] at h
     obtain ⟨rfl,_⟩ := h
     simp
   · rename_i e
     rw [if_neg e]
     cases hf : findIx k l with
     | none => rw [hf] at h;cases h
     | some x =>
       rw [hf] at h
       simp only [Option.map_some,Option.some.injEq,Prod.mk.injEq] at h
       obtain ⟨rfl,_⟩ := h
       obtain ⟨h1,h2⟩ := mput_of_some (v := v) (i := x.1) (v0 := x.2) hf
       rw [h1]
       simp [h2]
theorem mput_of_none {k : κ} {v : Value} : ∀ {l : List (κ × Value)},findIx k l = none → mput k v l = l ++ [(k,v)]
 | [],_ => rfl
 | (k',v') :: l,h => by
   unfold findIx at h
   unfold mput
   split at h
   · cases h
   · rename_i e
     rw [if_neg e]
     cases hf : findIx k l with
     | none => rw [mput_of_none hf];rfl
     | some x => rw [hf] at h;cases h
theorem mdel_of_some {k : κ} : ∀ {l : List (κ × Value)} {i : Nat} {v0 : Value},findIx k l = some (i,v0) → mdel k l = l.eraseIdx i
 | [],_,_,h => by cases h
 | (k',v') :: l,i,v0,h => by
   unfold findIx at h
   unfold mdel
   split at h
   · rename_i e
     subst e
     simp only [Option.some.injEq,Prod.mk.injEq] at h
     obtain ⟨rfl,_⟩ := h
     simp
   · rename_i e
     rw [if_neg e]
     cases hf : findIx k l with
     | none => rw [hf] at h;cases h
     | some x =>
       rw [hf] at h
       simp only [Option.map_some,Option.some.injEq,Prod.mk.injEq] at h
       obtain ⟨rfl,_⟩ := h
       rw [mdel_of_some (i := x.1) (v0 := x.2) hf]
       rfl
theorem mdel_of_none {k : κ} : ∀ {l : List (κ × Value)},findIx k l = none → mdel k l = l
 | [],_ => rfl
 | (k',v') :: l,h => by
   unfold findIx at h
   unfold mdel
   split at h
   · cases h
   · rename_i e
     rw [if_neg e]
     cases hf : findIx k l with
     | none => rw [mdel_of_none hf]
     | some x => rw [hf] at h;cases h
def setMap (w : World) (b : Nat) (o : Obj) : World := { w with heap := w.heap.setIfInBounds b o }
theorem setMap_at {o : Obj} (hb : b < w.heap.size) : (setMap w b o).heap[b]? = some o := by
 show (w.heap.setIfInBounds b o)[b]? = _
 simp [hb]
theorem setMap_kp (w : World) (b : Nat) (o : Obj) : Kp (· = b) w (setMap w b o) :=
 ⟨rfl,rfl,by show w.heap.size ≤ (w.heap.setIfInBounds b o).size;simp,fun k _ hn => by
  show (w.heap.setIfInBounds b o)[k]? = _
  rw [Array.getElem?_setIfInBounds_ne (fun e => hn e.symm)]⟩
theorem run_setObj {es : Array MapEntry} {clock : Nat} {o : Obj} (hb : w.heap[b]? = some (.map es clock)) : (setObj b o).run P w = .ok () (setMap w b o) := by
 show (Sem.setObj b o (Sem.pure ())).run P w = _
 simp [Sem.run,hb,setMap]
theorem MapOf.update (hK : KeyOk P K enc) (ht : P.underlying T = some (.map K E)) (h : MapOf w b enc l) (k : κ) (v : Value) :
 ∃ w',(Instr.mapUpdate T (.map (some b)) (enc k) v).run P w = .ok () w' ∧ MapOf w' b enc (mput k v l) ∧ Kp (· = b) w w' := by
 have hlt := h.lt
 obtain ⟨es,clock,hb,h1,h2,h3,h4⟩ := h
 have hg : (getObj b).run P w = .ok (.map es clock) w := by show (Sem.getObj b Sem.pure).run P w = _;simp [Sem.run,hb]
 have hf := hK.find k l es.toList w h1
 cases hx : findIx k l with
 | none =>
   rw [hx] at hf
   refine ⟨setMap w b (.map (es.push { key := enc k,val := v,born := clock }) (clock + 1)),?_,⟨_,_,setMap_at hlt,?_,nodup_mput k v l h2,?_,?_⟩,setMap_kp _ _ _⟩
   · unfold Instr.mapUpdate
     simp [run_underlying ht,hg,hK.check,hf,run_setObj hb]
   · rw [mput_of_none hx]
     simp [h1]
   · intro e he
     rcases Array.mem_push.1 he with he | rfl
     · have := h3 e he;omega
     · simp
   · rw [Array.toList_push,List.map_append,List.nodup_append]
     refine ⟨h4,by simp,?_⟩
     intro a ha c hc
     simp only [List.map_cons,List.map_nil,List.mem_cons,List.not_mem_nil,or_false] at hc
     obtain ⟨e,he,rfl⟩ := List.mem_map.1 ha
     have := h3 e (by simpa using he)
     omega
 | some x =>
   obtain ⟨i,v0⟩ := x
   rw [hx] at hf
   obtain ⟨h5,h6⟩ := mput_of_some (v := v) hx
   have hkey : (es[i]?).map (·.key) = some (enc k) := by
    have := congrArg (fun (l : List (Value × Value)) => (l[i]?).map (·.1)) h1
    simp only [List.getElem?_map,Option.map_map,Array.getElem?_toList] at this
    cases hi : l[i]? with
    | none => rw [hi] at h6;cases h6
    | some p =>
      rw [hi] at h6 this
      simp only [Option.map_some,Option.some.injEq] at h6
      rw [← h6]
      cases he : es[i]? with
      | none => rw [he] at this;cases this
      | some e => rw [he] at this;simpa using this
   refine ⟨setMap w b (.map (es.modify i fun e => { e with key := enc k,val := v }) clock),?_,⟨_,_,setMap_at hlt,?_,nodup_mput k v l h2,?_,?_⟩,setMap_kp _ _ _⟩
   · unfold Instr.mapUpdate
     simp [run_underlying ht,hg,hK.check,hf,run_setObj hb,hkey,hK.stays]
   · rw [h5]
     apply List.ext_getElem?
     intro j
     have hj := congrArg (fun (l : List (Value × Value)) => l[j]?) h1
     simp only [List.getElem?_map,Array.getElem?_toList] at hj
     simp only [List.getElem?_map,Array.getElem?_toList,Array.getElem?_modify,List.getElem?_modify]
     by_cases hij : i = j
     · subst hij
       cases he : es[i]? <;> cases hl : l[i]? <;> simp_all
     · simp only [hij,↓reduceIte]
       cases he : es[j]? <;> cases hl : l[j]? <;> simp_all
   · intro e he
     obtain ⟨j,hj⟩ := Array.mem_iff_getElem?.1 he
     rw [Array.getElem?_modify] at hj
     by_cases hij : i = j
     · subst hij
       simp only [if_true] at hj
       cases he0 : es[i]? with
       | none => rw [he0] at hj;cases hj
       | some e0 =>
         rw [he0] at hj
         simp only [Option.map_some,Option.some.injEq] at hj
         subst hj
         exact h3 e0 (Array.mem_of_getElem? he0)
     · simp only [hij,if_false] at hj
       exact h3 e (Array.mem_of_getElem? hj)
   · have : (es.modify i fun e => { e with key := enc k,val := v }).toList.map (·.born) = es.toList.map (·.born) := by
      apply List.ext_getElem?
      intro j
      simp only [List.getElem?_map,Array.getElem?_toList,Array.getElem?_modify]
      by_cases hij : i = j
      · subst hij;cases es[i]? <;> simp
      · simp [hij]
     rw [this];exact h4
theorem MapOf.delete (hK : KeyOk P K enc) (ht : P.underlying T = some (.map K E)) (h : MapOf w b enc l) (k : κ) (tk ty : TypeId) :
 ∃ w',(Builtin.delete_ #[T,tk] ty #[.map (some b),enc k]).run P w = .ok (.tuple #[]) w' ∧ MapOf w' b enc (mdel k l) ∧ Kp (· = b) w w' := by
 have hlt := h.lt
 obtain ⟨es,clock,hb,h1,h2,h3,h4⟩ := h
 have hg : (getObj b).run P w = .ok (.map es clock) w := by show (Sem.getObj b Sem.pure).run P w = _;simp [Sem.run,hb]
 have hf := hK.find k l es.toList w h1
 cases hx : findIx k l with
 | none =>
   rw [hx] at hf
   refine ⟨setMap w b (.map es clock),?_,⟨es,clock,setMap_at hlt,?_,nodup_mdel k l h2,h3,h4⟩,setMap_kp _ _ _⟩
   · unfold Builtin.delete_
     simp [run_underlying ht,hg,hK.check,hf,run_setObj hb]
   · rw [mdel_of_none hx];exact h1
 | some x =>
   obtain ⟨i,v0⟩ := x
   rw [hx] at hf
   have hlen : es.size = l.length := by have := congrArg List.length h1;simpa using this
   have hil : i < es.size := by
    obtain ⟨_,h6⟩ := mput_of_some (v := v0) hx
    rw [hlen]
    rcases Nat.lt_or_ge i l.length with h | h
    · exact h
    · rw [List.getElem?_eq_none h] at h6;cases h6
   have htl : (es.eraseIdxIfInBounds i).toList = es.toList.eraseIdx i := by
    simp [Array.eraseIdxIfInBounds,hil]
   refine ⟨setMap w b (.map (es.eraseIdxIfInBounds i) clock),?_,⟨_,_,setMap_at hlt,?_,nodup_mdel k l h2,?_,?_⟩,setMap_kp _ _ _⟩
   · unfold Builtin.delete_
     simp [run_underlying ht,hg,hK.check,hf,run_setObj hb]
   · rw [mdel_of_some hx,htl,map_eraseIdx,map_eraseIdx,h1]
   · intro e he
     have : e ∈ es.toList.eraseIdx i := by rw [← htl];exact Array.mem_toList_iff.2 he
     exact h3 e (Array.mem_toList_iff.1 (List.mem_of_mem_eraseIdx this))
   · rw [htl,map_eraseIdx]
     exact h4.sublist (List.eraseIdx_sublist _ _)
theorem MapOf.len (h : MapOf w b enc l) : ∃ es clock,w.heap[b]? = some (.map es clock) ∧ es.size = l.length := by
 obtain ⟨es,clock,hb,h1,_⟩ := h
 exact ⟨es,clock,hb,by have := congrArg List.length h1;simpa using this⟩
end
end
section
open Go.RowKit Go.ChangeShapes Go.WideShapes Go.ChangeAt
def MapRp {κ α : Type} [DecidableEq κ] (E : Rp α) (w : World) (S : Nat → Prop) (b : Nat) (enc : κ → Value) (l : List (κ × α)) : Prop :=
 ∃ lv : List (κ × Value),MapOf w b enc lv ∧ lv.map (·.1) = l.map (·.1) ∧ ∀ k a,mget k l = some a → ∃ cs,mget k lv = some (.agg cs.toArray) ∧ E.R w S cs a
section
variable {κ α β : Type} [DecidableEq κ]
theorem keys_mput (k : κ) (v : α) (u : β) : ∀ (l : List (κ × α)) (m : List (κ × β)),l.map (·.1) = m.map (·.1) → (mput k v l).map (·.1) = (mput k u m).map (·.1)
 | [],[],_ => rfl
 | [],_ :: _,h => by simp at h
 | _ :: _,[],h => by simp at h
 | (k1,v1) :: l,(k2,u2) :: m,h => by
   simp only [List.map_cons,List.cons.injEq] at h
   obtain ⟨rfl,h⟩ := h
   unfold mput
   split
   · simp [h]
   · simp [keys_mput k v u l m h]
theorem keys_mdel (k : κ) : ∀ (l : List (κ × α)) (m : List (κ × β)),l.map (·.1) = m.map (·.1) → (mdel k l).map (·.1) = (mdel k m).map (·.1)
 | [],[],_ => rfl
 | [],_ :: _,h => by simp at h
 | _ :: _,[],h => by simp at h
 | (k1,v1) :: l,(k2,u2) :: m,h => by
   simp only [List.map_cons,List.cons.injEq] at h
   obtain ⟨rfl,h⟩ := h
   unfold mdel
   split
   · exact h
   · simp [keys_mdel k l m h]
end
namespace MapRp
variable {κ α : Type} [DecidableEq κ] {E : Rp α} {w w' : World} {S T : Nat → Prop} {b : Nat} {enc : κ → Value} {l : List (κ × α)}
theorem lt (h : MapRp E w S b enc l) : b < w.heap.size := by
 obtain ⟨lv,h,_⟩ := h
 exact h.lt
theorem nodup (h : MapRp E w S b enc l) : (l.map (·.1)).Nodup := by
 obtain ⟨lv,⟨_,_,_,_,h,_⟩,hk,_⟩ := h
 rw [← hk];exact h
theorem block (h : MapRp E w S b enc l) : ∃ es clock,w.heap[b]? = some (.map es clock) := by
 obtain ⟨lv,⟨es,clock,h,_⟩,_⟩ := h
 exact ⟨es,clock,h⟩
theorem kept (h : MapRp E w S b enc l) (hk : Kp T w w') (hb : ¬ T b) (hs : ∀ k,S k → k < w.heap.size → ¬ T k) : MapRp E w' S b enc l := by
 obtain ⟨lv,h1,h2,h3⟩ := h
 refine ⟨lv,h1.kept hk hb,h2,fun k a ha => ?_⟩
 obtain ⟨cs,h4,h5⟩ := h3 k a ha
 exact ⟨cs,h4,E.kept h5 hk hs⟩
theorem keptNo (h : MapRp E w S b enc l) (hk : Kp No w w') : MapRp E w' S b enc l := h.kept hk (fun x => x) (fun _ _ _ x => x)
theorem more (h : MapRp E w S b enc l) (hs : ∀ k,S k → T k) : MapRp E w T b enc l := by
 obtain ⟨lv,h1,h2,h3⟩ := h
 refine ⟨lv,h1,h2,fun k a ha => ?_⟩
 obtain ⟨cs,h4,h5⟩ := h3 k a ha
 exact ⟨cs,h4,E.more h5 hs⟩
theorem made (w : World) (S : Nat → Prop) : MapRp E (w.alloc (.map #[] 0)) S w.heap.size enc ([] : List (κ × α)) :=
 ⟨[],MapOf.made w,rfl,fun _ _ h => by cases h⟩
section
variable {P : Program} {T : TypeId} {K V : TypeId}
theorem some_ok (h : MapRp E w S b enc l) (hK : KeyOk P K enc) (ht : P.underlying T = some (.map K V)) {k : κ} {a : α} (hg : mget k l = some a) {z : Value} (hz : (zeroValue V).run P w = .ok z w) :
 ∃ cs,E.R w S cs a ∧ (Instr.lookup T (.map (some b)) (enc k) true).run P w = .ok (.tuple #[.agg cs.toArray,.bool true]) w ∧ (Instr.lookup T (.map (some b)) (enc k) false).run P w = .ok (.agg cs.toArray) w := by
 obtain ⟨lv,h1,h2,h3⟩ := h
 obtain ⟨cs,h4,h5⟩ := h3 k a hg
 refine ⟨cs,h5,?_,?_⟩
 · have := h1.look_ok hK ht k hz
   rw [h4] at this
   exact this
 · have := h1.look hK ht k hz
   rw [h4] at this
   exact this
theorem none_ok (h : MapRp E w S b enc l) (hK : KeyOk P K enc) (ht : P.underlying T = some (.map K V)) {k : κ} (hg : mget k l = none) {z : Value} (hz : (zeroValue V).run P w = .ok z w) :
 (Instr.lookup T (.map (some b)) (enc k) true).run P w = .ok (.tuple #[z,.bool false]) w ∧ (Instr.lookup T (.map (some b)) (enc k) false).run P w = .ok z w := by
 obtain ⟨lv,h1,h2,h3⟩ := h
 have h4 : mget k lv = none := by rw [mget_none_iff,h2,← mget_none_iff];exact hg
 refine ⟨?_,?_⟩
 · have := h1.look_ok hK ht k hz
   rw [h4] at this
   exact this
 · have := h1.look hK ht k hz
   rw [h4] at this
   exact this
theorem look_all (h : MapRp E w S b enc l) (hK : KeyOk P K enc) (ht : P.underlying T = some (.map K V)) (k : κ) {z : Value} (hz : ∀ w,(zeroValue V).run P w = .ok z w) :
 ∃ u B,(∀ w',Kp No w w' → (Instr.lookup T (.map (some b)) (enc k) true).run P w' = .ok (.tuple #[u,.bool B]) w') ∧ ((B = true ∧ ∃ a cs,mget k l = some a ∧ u = .agg cs.toArray ∧ E.R w S cs a) ∨ (B = false ∧ mget k l = none ∧ u = z)) := by
 obtain ⟨lv,h1,h2,h3⟩ := h
 cases hg : mget k l with
 | none =>
   have h4 : mget k lv = none := by rw [mget_none_iff,h2,← mget_none_iff];exact hg
   refine ⟨z,false,fun w' hk => ?_,.inr ⟨rfl,rfl,rfl⟩⟩
   have := (h1.kept hk (fun x => x)).look_ok hK ht k (hz w')
   rw [h4] at this
   exact this
 | some a =>
   obtain ⟨cs,h4,h5⟩ := h3 k a hg
   refine ⟨_,true,fun w' hk => ?_,.inl ⟨rfl,a,cs,rfl,rfl,h5⟩⟩
   have := (h1.kept hk (fun x => x)).look_ok hK ht k (hz w')
   rw [h4] at this
   exact this
theorem update (h : MapRp E w S b enc l) (hK : KeyOk P K enc) (ht : P.underlying T = some (.map K V)) (hb : ¬ S b) (k : κ) {cs : List Value} {a : α} (hr : E.R w S cs a) :
 ∃ w',(Instr.mapUpdate T (.map (some b)) (enc k) (.agg cs.toArray)).run P w = .ok () w' ∧ MapRp E w' S b enc (mput k a l) ∧ Kp (· = b) w w' := by
 obtain ⟨lv,h1,h2,h3⟩ := h
 obtain ⟨w',hrun,hm,hk⟩ := h1.update hK ht k (.agg cs.toArray)
 refine ⟨w',hrun,⟨_,hm,keys_mput k _ _ _ _ h2,fun k2 a2 ha => ?_⟩,hk⟩
 rw [mget_put] at ha ⊢
 by_cases hkk : k2 = k
 · rw [if_pos hkk] at ha ⊢
   injection ha with ha
   subst ha
   exact ⟨cs,rfl,E.kept hr hk (fun i hi _ e => hb (e ▸ hi))⟩
 · rw [if_neg hkk] at ha ⊢
   obtain ⟨cs2,h4,h5⟩ := h3 k2 a2 ha
   exact ⟨cs2,h4,E.kept h5 hk (fun i hi _ e => hb (e ▸ hi))⟩
theorem delete (h : MapRp E w S b enc l) (hK : KeyOk P K enc) (ht : P.underlying T = some (.map K V)) (hb : ¬ S b) (k : κ) (tk ty : TypeId) :
 ∃ w',(Builtin.delete_ #[T,tk] ty #[.map (some b),enc k]).run P w = .ok (.tuple #[]) w' ∧ MapRp E w' S b enc (mdel k l) ∧ Kp (· = b) w w' := by
 have hnd := h.nodup
 obtain ⟨lv,h1,h2,h3⟩ := h
 obtain ⟨w',hrun,hm,hk⟩ := h1.delete hK ht k tk ty
 refine ⟨w',hrun,⟨_,hm,keys_mdel k _ _ h2,fun k2 a2 ha => ?_⟩,hk⟩
 rw [mget_del k k2 l hnd] at ha
 rw [mget_del k k2 lv (by rw [h2];exact hnd)]
 split at ha
 · cases ha
 · rename_i hne
   rw [if_neg hne]
   obtain ⟨cs2,h4,h5⟩ := h3 k2 a2 ha
   exact ⟨cs2,h4,E.kept h5 hk (fun i hi _ e => hb (e ▸ hi))⟩
end
end MapRp
end
section
open Go.RowKit Go.ChangeShapes Go.WideShapes Go.ChangeAt
abbrev W := BitVec 32
def Blk (w : World) (g : Nat) (e : TypeId) (vs : List Value) : Prop := w.heap[g]? = some (.cells vs.toArray e (0,0))
namespace Blk
variable {w w' : World} {g : Nat} {e : TypeId} {vs : List Value}
theorem lt (h : Blk w g e vs) : g < w.heap.size := by
 rcases Nat.lt_or_ge g w.heap.size with hlt | hge
 · exact hlt
 · have := h;unfold Blk at this;rw [Array.getElem?_eq_none hge] at this;cases this
theorem cell (h : Blk w g e vs) {i : Nat} {u : Value} (hi : vs[i]? = some u) : w.cell? ⟨g,i,none⟩ = some u := by
 have h' : w.heap[g]? = some (.cells vs.toArray e (0,0)) := h
 simp [World.cell?,h',hi]
theorem fr (h : Blk w g e vs) (i : Nat) : w.frozen? ⟨g,i,none⟩ = false := by
 have h' : w.heap[g]? = some (.cells vs.toArray e (0,0)) := h
 simp [World.frozen?,h']
theorem kept {S : Nat → Prop} (h : Blk w g e vs) (hk : Kp S w w') (hs : ¬ S g) : Blk w' g e vs := (hk.block g h.lt hs).trans h
theorem drew (h : Blk w g e vs) : Blk w.drew g e vs := h
theorem set (h : Blk w g e vs) (i : Nat) (u : Value) : Blk (w.setCell ⟨g,i,none⟩ u) g e (vs.set i u) := by
 have h' : w.heap[g]? = some (.cells vs.toArray e (0,0)) := h
 unfold Blk
 simp [World.setCell,Array.getElem?_modify,h']
theorem new (w : World) (vs : List Value) (e : TypeId) : Blk (w.alloc (.cells vs.toArray e)) w.heap.size e vs := heap_alloc_new w _
end Blk
end
section
end
section
open Go.RowKit Go.ChangeShapes Go.WideShapes Go.ChangeAt
theorem bytes_list_beq (a b : ByteArray) : (a.toList == b.toList) = decide (a = b) := by
 by_cases h : a = b
 · subst h;simp
 · simp only [h,decide_false,beq_eq_false_iff_ne]
   intro e
   rw [ByteArray.toList_eq,ByteArray.toList_eq] at e
   exact h (WideShapes.bytes_inj e)
def SaRel (l1 l2 : List ByteArray) (k : Nat) : Prop := l1.take k = l2.take k
theorem SaRel.step {l1 l2 : List ByteArray} {k : Nat} {x : ByteArray} (h : SaRel l1 l2 k) (h1 : l1[k]? = some x) (h2 : l2[k]? = some x) : SaRel l1 l2 (k + 1) := by
 obtain ⟨a,rfl⟩ := List.getElem?_eq_some_iff.1 h1
 obtain ⟨b,e⟩ := List.getElem?_eq_some_iff.1 h2
 unfold SaRel at *
 rw [List.take_succ_eq_append_getElem a,List.take_succ_eq_append_getElem b,h,e]
theorem r_same (l1 l2 : List ByteArray) (A1 A2 : Option Addr) (c1 c2 : Nat) (w : World) (S1 S2 : Nat → Prop) (h1 : Rp.str.slice.R w S1 [.slice A1 l1.length c1] l1) (h2 : Rp.str.slice.R w S2 [.slice A2 l2.length c2] l2) :
 Calls Tryz.prog 49 #[.slice A1 l1.length c1,.slice A2 l2.length c2] w fun e w' => e = .returned (.bool (decide (l1 = l2))) ∧ ∃ n,w' = w.drewN n := by
 have hlen1 : l1.length ≤ maxLen := by obtain ⟨_,_,_,h1,h2,_⟩ := h1;omega
 have hlen2 : l2.length ≤ maxLen := by obtain ⟨_,_,_,h1,h2,_⟩ := h2;omega
 unfold maxLen at hlen1 hlen2
 by_cases hne : l1.length = l2.length
 · have hd : ((l1.length : Int) != (l2.length : Int)) = false := by simp [hne]
   have HNE := Lib.hid hne
   clear hne
   go_enter Tryz.func49,Tryz.ntmps49
   go_wp2
   go_loopw [5] (fun i wr => ∃ k n : Nat,k ≤ l1.length ∧ i = .int .i64 k ∧ wr = w.drewN n ∧ SaRel l1 l2 k) (fun i _ => l1.length - (intOf i).toNat)
   case atStart => exact ⟨0,0,Nat.zero_le _,rfl,rfl,rfl⟩
   case round =>
    obtain ⟨k,n,hk,rfl,rfl,hr⟩ := hrel
    have HR := Lib.hid hr
    clear hr
    by_cases hlt : k < l1.length
    · obtain ⟨x,hx⟩ : ∃ x,l1[k]? = some x := ⟨_,List.getElem?_eq_getElem hlt⟩
      obtain ⟨y,hy⟩ : ∃ y,l2[k]? = some y := ⟨_,List.getElem?_eq_getElem (by rw [← HNE.out];exact hlt)⟩
      obtain ⟨ad1,rfl,_,hv1,_⟩ := Rp.at_str h1 hx
      obtain ⟨ad2,rfl,_,hv2,_⟩ := Rp.at_str h2 hy
      have HX := Lib.hid hx
      have HY := Lib.hid hy
      have hlt2 : k < l2.length := by rw [← HNE.out];exact hlt
      clear hx hy h1 h2
      by_cases hxy : x = y
      · subst hxy
        go_wp2
        refine Reg.wp_region_plan [⟨0,false,[]⟩,⟨1,false,[]⟩,⟨2,false,[]⟩,⟨3,false,[]⟩,⟨4,false,[]⟩,⟨5,false,[]⟩,⟨6,false,[]⟩,⟨7,false,[]⟩,⟨8,false,[]⟩] rfl (by kernel_rfl) ?_
        repeat (first | (refine Reg.look rfl rfl rfl (by go_simp;rfl) rfl ?_;go_simp) | (refine Reg.skip rfl rfl rfl ?_;go_simp))
        (refine Reg.done ?_;simp only [Exit.then])
        go_wp2
        go_roundw
        case rel => exact ⟨k + 1,n + 1,by omega,by go_num,rfl,SaRel.step HR.out HX.out HY.out⟩
        case measure => simp [intOf];omega
      · have hd : (x.toList == y.toList) = false := by rw [bytes_list_beq];simp [hxy]
        have hq : decide (l1 = l2) = false := by
         simp only [decide_eq_false_iff_not]
         intro e
         have h3 := HX.out
         rw [e,HY.out] at h3
         injection h3 with h3
         exact hxy h3.symm
        have HQ := Lib.hid hq
        clear hq hxy
        go_wp2
        refine Reg.wp_region_plan [⟨0,false,[]⟩,⟨1,false,[]⟩,⟨2,false,[]⟩,⟨3,false,[]⟩,⟨4,false,[]⟩,⟨5,false,[]⟩,⟨6,false,[]⟩,⟨7,false,[]⟩,⟨8,false,[]⟩] rfl (by kernel_rfl) ?_
        repeat (first | (refine Reg.look rfl rfl rfl (by go_simp;rfl) rfl ?_;go_simp) | (refine Reg.skip rfl rfl rfl ?_;go_simp))
        (refine Reg.done ?_;simp only [Exit.then])
        go_wp2
        go_ret
        exact ⟨congrArg (fun b => Ending.returned (Value.bool b)) HQ.out.symm,n + 1,rfl⟩
    · have hq : decide (l1 = l2) = true := by
       have h3 := HR.out
       obtain rfl : k = l1.length := by omega
       unfold SaRel at h3
       rw [List.take_length,HNE.out,List.take_length] at h3
       simp [h3]
      have HQ := Lib.hid hq
      clear hq
      go_wp2
      go_ret
      exact ⟨congrArg (fun b => Ending.returned (Value.bool b)) HQ.out.symm,n,rfl⟩
 · have hd : ((l1.length : Int) != (l2.length : Int)) = true := by simp;omega
   have hq : decide (l1 = l2) = false := by simp;intro e;exact hne (by rw [e])
   have HQ := Lib.hid hq
   clear hq
   go_enter Tryz.func49,Tryz.ntmps49
   go_wp2
   go_ret
   exact ⟨congrArg (fun b => Ending.returned (Value.bool b)) HQ.out.symm,0,rfl⟩
end
section
open Go.RowKit Go.ChangeShapes Go.WideShapes Go.ChangeAt
def cnt (n : Int) : Int := if n ≤ 0 then 0 else (n - 1) / 64 + 1
theorem c_count (n : Int) (w : World) (h0 : -9223372036854775808 ≤ n) (h1 : n < 9223372036854775808) : Calls Tryz.prog 144 #[.int .i64 n] w fun e w' => e = .returned (.int .i64 (cnt n)) ∧ w = w' := by
 by_cases hn : n ≤ 0
 · rw [show cnt n = 0 from if_pos hn]
   go_enter Tryz.func144,Tryz.ntmps144
   go_wp2
   go_ret
   exact ⟨rfl,rfl⟩
 · rw [show cnt n = (n - 1) / 64 + 1 from if_neg hn]
   have e1 : IntKind.i64.wrap (n - 1) = n - 1 := by rw [IntKind.wrap_i64];omega
   have e2 : IntKind.i64.wrap ((n - 1) / 64) = (n - 1) / 64 := by rw [IntKind.wrap_i64];omega
   have e3 : IntKind.i64.wrap ((n - 1) / 64 + 1) = (n - 1) / 64 + 1 := by rw [IntKind.wrap_i64];omega
   have e4 : (n - 1).tdiv 64 = (n - 1) / 64 := by rw [Int.tdiv_eq_ediv_of_nonneg (by omega)]
   go_enter Tryz.func144,Tryz.ntmps144
   go_wp2
   go_ret
   exact ⟨rfl,rfl⟩
theorem r_count (n : Int) (w : World) (h0 : -9223372036854775808 ≤ n) (h1 : n < 9223372036854775808) : Calls Tryz.prog 204 #[.int .i64 n] w fun e w' => e = .returned (.int .i64 (cnt n)) ∧ w = w' := by
 by_cases hn : n < 0
 · rw [show cnt n = 0 from if_pos (by omega)]
   go_enter Tryz.func204,Tryz.ntmps204
   go_wp2
   go_ret
   exact ⟨rfl,rfl⟩
 · have e4 : n.tdiv 64 = n / 64 := by rw [Int.tdiv_eq_ediv_of_nonneg (by omega)]
   have e2 : IntKind.i64.wrap (n / 64) = n / 64 := by rw [IntKind.wrap_i64];omega
   have e1 : IntKind.i64.wrap (n / 64 * 64) = n / 64 * 64 := by rw [IntKind.wrap_i64];omega
   have e3 : IntKind.i64.wrap (n / 64 + 1) = n / 64 + 1 := by rw [IntKind.wrap_i64];omega
   by_cases hm : n / 64 * 64 < n
   · rw [show cnt n = n / 64 + 1 by unfold cnt;split <;> omega]
     go_enter Tryz.func204,Tryz.ntmps204
     go_wp2
     go_ret
     exact ⟨rfl,rfl⟩
   · rw [show cnt n = n / 64 by unfold cnt;split <;> omega]
     go_enter Tryz.func204,Tryz.ntmps204
     go_wp2
     go_ret
     exact ⟨rfl,rfl⟩
end
end Go.Proofs.YtjlbacfedfkilaaGreat
