/-
  Put together: Grt12, Grt12S.
-/
import Derived.Test.YtjlbacfedfkilaaGreatGC
namespace Go.Proofs.YtjlbacfedfkilaaGreat
section
open Go.RowKit Go.ChangeShapes Go.WideShapes Go.ChangeAt
theorem Rp.at_cmd {w : World} {S : Nat → Prop} {A : Option Addr} {c : Nat} {l : List CmdL} (h : Rp.cmd.slice.R w S [.slice A l.length c] l) {i : Nat} {x : CmdL} (hi : l[i]? = some x) :
 ∃ ad A' c' B' d',A = some ad ∧ S ad.block ∧ (∀ (j : Nat) u,(x.cells (.slice A' x.op.hashes.length c') (.slice B' x.ops.length d'))[j]? = some u → w.cell? ((ad.add (i * 16)).add j) = some u) ∧ x.nums ∧ Rp.str.slice.R w S [.slice A' x.op.hashes.length c'] x.op.hashes ∧ Rp.opl.slice.R w S [.slice B' x.ops.length d'] x.ops := by
 obtain ⟨A2,c2,he,_,_,h3⟩ := h
 simp only [List.cons.injEq,Value.slice.injEq,and_true,true_and] at he
 obtain ⟨rfl,rfl⟩ := he
 have hl : 0 < l.length := by have := (List.getElem?_eq_some_iff.1 hi).1;omega
 obtain ⟨ad,rfl,hb,hc⟩ := h3 hl
 obtain ⟨es,he,hv,ov,rfl,hn,h1,h2⟩ := hc i x hi
 obtain ⟨A',c',e1,_⟩ := id h1
 obtain ⟨B',d',e2,_⟩ := id h2
 simp only [List.cons.injEq,and_true] at e1 e2
 subst e1 e2
 exact ⟨ad,A',c',B',d',rfl,hb,fun j u hu => he j u hu,hn,h1,h2⟩
theorem cmd_cells {w : World} {ad : Addr} {c : CmdL} {hv ov : Value} (h : ∀ (j : Nat) u,(c.cells hv ov)[j]? = some u → w.cell? (ad.add j) = some u) :
 w.cell? ad = some (.int .i64 c.kind) ∧ w.cell? ⟨ad.block,ad.off + 1,none⟩ = some (.int .i64 c.epoch) ∧ w.cell? ⟨ad.block,ad.off + 2,none⟩ = some (.int .i64 c.site) ∧ w.cell? ⟨ad.block,ad.off + 3,none⟩ = some (.int .i64 c.op.n) ∧
 w.cell? ⟨ad.block,ad.off + 4,none⟩ = some (.int .i64 c.op.epoch) ∧ w.cell? ⟨ad.block,ad.off + 5,none⟩ = some (.int .i64 c.op.kind) ∧ w.cell? ⟨ad.block,ad.off + 6,none⟩ = some (.int .i64 c.op.site) ∧ w.cell? ⟨ad.block,ad.off + 7,none⟩ = some (.int .i64 c.op.client) ∧
 w.cell? ⟨ad.block,ad.off + 8,none⟩ = some (.int .i64 c.op.seq) ∧ w.cell? ⟨ad.block,ad.off + 9,none⟩ = some (.string c.op.name) ∧ w.cell? ⟨ad.block,ad.off + 10,none⟩ = some (.int .i64 c.op.size) ∧ w.cell? ⟨ad.block,ad.off + 11,none⟩ = some hv ∧
 w.cell? ⟨ad.block,ad.off + 12,none⟩ = some (.int .i64 c.after) ∧ w.cell? ⟨ad.block,ad.off + 13,none⟩ = some (.int .i64 c.since) ∧ w.cell? ⟨ad.block,ad.off + 14,none⟩ = some ov ∧ w.cell? ⟨ad.block,ad.off + 15,none⟩ = some (.int .i64 c.tag) :=
 ⟨h 0 _ rfl,h 1 _ rfl,h 2 _ rfl,h 3 _ rfl,h 4 _ rfl,h 5 _ rfl,h 6 _ rfl,h 7 _ rfl,h 8 _ rfl,h 9 _ rfl,h 10 _ rfl,h 11 _ rfl,h 12 _ rfl,h 13 _ rfl,h 14 _ rfl,h 15 _ rfl⟩
end
section
open Go.RowKit Go.ChangeShapes Go.WideShapes Go.ChangeAt
def SmallC (m k : Nat) (c : CmdL) : Prop := c.op.hashes.length ≤ m ∧ c.ops.length ≤ k ∧ ∀ o ∈ c.ops,o.hashes.length ≤ m
def GreatS (l : List CmdL) (e : Ending) : Prop := ∃ B,e = .returned (.bool B) ∧ (B = false → l.length ≤ 200 ∧ ∀ c ∈ l,SmallC 8192 100 c)
set_option maxRecDepth 100000 in
set_option maxHeartbeats 4000000 in
theorem h_great12S (l : List CmdL) (A : Option Addr) (c : Nat) (w : World) (S : Nat → Prop) (hl : Rp.cmd.slice.R w S [.slice A l.length c] l) (hsm : ∀ c ∈ l,SmallC 1048576 1048576 c) :
 Calls Tryz.prog 10 #[.slice A l.length c] w fun e w' => GreatS l e ∧ Kp No w w' := by
 have HL := Lib.hid hl
 have hll : (l.length : Int) ≤ 9223372036854775807 := by obtain ⟨_,_,he,h1,h2,_⟩ := hl;unfold maxLen at h2;omega
 have HSM := Lib.hid hsm
 clear hl hsm
 go_enter Tryz.func10,Tryz.ntmps10
 go_wp2_with fail
 go_loopw [3,10] (fun nv iv wr => ∃ (i : Nat) (x : Int),i ≤ l.length ∧ iv = .int .i64 (i : Int) ∧ nv = .int .i64 x ∧ 0 ≤ x ∧ x ≤ 8192 ∧ Hid (∀ (j : Nat) c,j < i → l[j]? = some c → SmallC 8192 100 c) ∧ Hid (Kp No w wr)) (fun _ iv _ => l.length - (intOf iv).toNat)
 case atStart => exact ⟨0,0,by omega,rfl,rfl,by omega,by omega,Lib.hid (fun j c hj => absurd hj (by omega)),Lib.hid (Kp.refl _ _)⟩
 case round =>
  obtain ⟨i,x,hi,rfl,rfl,hx0,hx1,HP,HK⟩ := hrel
  by_cases hlt : i < l.length
  · have hli : (i : Int) < (l.length : Int) := by omega
    obtain ⟨o,ho⟩ : ∃ o,l[i]? = some o := ⟨_,List.getElem?_eq_getElem hlt⟩
    obtain ⟨ad,A',c',B',d',rfl,_,hcell,_,_,hops⟩ := Rp.at_cmd (Rp.cmd.slice.keptNo HL.out HK.out) ho
    obtain ⟨z0,z1,z2,z3,z4,z5,z6,z7,z8,z9,z10,z11,z12,z13,z14,z15⟩ := cmd_cells hcell
    have HO := Lib.hid hops
    obtain ⟨hq1,hq2,hq3⟩ := HSM.out o (List.mem_of_getElem? ho)
    have HQ3 := Lib.hid hq3
    have HOI := Lib.hid ho
    clear hq3
    have hol : (o.ops.length : Int) ≤ 9223372036854775807 := by obtain ⟨_,_,he,h1,h2,_⟩ := hops;unfold maxLen at h2;omega
    clear hcell ho hops
    obtain ⟨ck,ep,st,⟨on,oe,okd,os,oc,oq,onm,osz,ohs⟩,an,ae,ops,tg⟩ := o
    simp only at *
    go_wp2_with fail
    all_goals first
     | (go_ret
        exact ⟨⟨true,rfl,fun h => by cases h⟩,HK.out.alloc _⟩)
     | skip
    all_goals
     have e1 : ohs.length ≤ 8192 := by omega
     have e2 : ops.length ≤ 100 := by omega
     clear z0 z1 z2 z3 z4 z5 z6 z7 z8 z9 z10 z11 z12 z13 z14 z15
     go_loopw [3,39] (fun nv iv wr2 => ∃ (j : Nat) (y : Int),j ≤ ops.length ∧ iv = .int .i64 (j : Int) ∧ nv = .int .i64 y ∧ 0 ≤ y ∧ y ≤ 8192 ∧ Hid (∀ (k : Nat) o,k < j → ops[k]? = some o → o.hashes.length ≤ 8192) ∧ Hid (Kp No w wr2) ∧ Hid (Kp No wr wr2)) (fun _ iv _ => ops.length - (intOf iv).toNat)
     case atStart => exact ⟨0,_,Nat.zero_le _,rfl,rfl,by omega,by omega,Lib.hid (fun k o hk => absurd hk (by omega)),Lib.hid (HK.out.alloc _),Lib.hid ((Kp.refl _ _).alloc _)⟩
     case round =>
      obtain ⟨j,y,hj,rfl,rfl,hy0,hy1,HQ,HK2,HK3⟩ := hrel
      by_cases hjt : j < ops.length
      · have hji : (j : Int) < (ops.length : Int) := by omega
        obtain ⟨p,hp⟩ : ∃ p,ops[j]? = some p := ⟨_,List.getElem?_eq_getElem hjt⟩
        have hq4 := HQ3.out p (List.mem_of_getElem? hp)
        have HPJ := Lib.hid hp
        obtain ⟨ad2,A2,c2,rfl,_,hcell,_,_⟩ := Rp.at_opl (Rp.opl.slice.keptNo HO.out HK3.out) hp
        obtain ⟨y0,y1,y2,y3,y4,y5,y6,y7,y8⟩ := opl_cells hcell
        clear hcell hp
        obtain ⟨pn,pe,pk,ps,pc,pq,pnm,psz,phs⟩ := p
        simp only at *
        go_wp2_with fail
        all_goals first
         | (go_ret
            exact ⟨⟨true,rfl,fun h => by cases h⟩,HK2.out.alloc _⟩)
         | (have e3 : phs.length ≤ 8192 := by omega
            go_roundw
            case rel =>
             refine ⟨j + 1,_,by omega,by go_num,rfl,by omega,by omega,Lib.hid (fun k o hk ho => ?_),Lib.hid (HK2.out.alloc _),Lib.hid (HK3.out.alloc _)⟩
             rcases Nat.lt_or_ge k j with hlt' | hge
             · exact HQ.out k o hlt' ho
             · obtain rfl : k = j := by omega
               rw [HPJ.out] at ho
               injection ho with ho
               rw [← ho];exact e3
            case measure => simp [intOf];omega)
      · obtain rfl : j = ops.length := by omega
        go_wp2_with fail
        go_roundw
        case rel =>
         refine ⟨i + 1,_,by omega,by go_num,rfl,hy0,hy1,Lib.hid (fun k o hk ho => ?_),HK2⟩
         rcases Nat.lt_or_ge k i with hlt' | hge
         · exact HP.out k o hlt' ho
         · obtain rfl : k = i := by omega
           rw [HOI.out] at ho
           injection ho with ho
           rw [← ho]
           refine ⟨e1,e2,fun q hq => ?_⟩
           obtain ⟨k2,hk2⟩ := List.getElem?_of_mem hq
           exact HQ.out k2 q (List.getElem?_eq_some_iff.1 hk2).1 hk2
        case measure => simp [intOf];omega
  · obtain rfl : i = l.length := by omega
    go_wp2_with fail
    go_ret
    refine ⟨⟨_,rfl,fun h => ⟨by have := of_decide_eq_false h;omega,fun c hc => ?_⟩⟩,HK.out⟩
    obtain ⟨k,hk⟩ := List.getElem?_of_mem hc
    exact HP.out k c (List.getElem?_eq_some_iff.1 hk).1 hk
end
end Go.Proofs.YtjlbacfedfkilaaGreat
