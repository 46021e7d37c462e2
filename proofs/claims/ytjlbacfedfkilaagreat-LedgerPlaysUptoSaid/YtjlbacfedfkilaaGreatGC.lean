/-
  Put together: H2L, DeedL, Deed1, Deed2, Deed3, H6L, Deed4.
-/
import Derived.Test.YtjlbacfedfkilaaGreatGB
import Derived.Deep.DeepCutAuto
import Derived.Test.YtjlbacfedfkilaaGreatReg
namespace Go.Proofs.YtjlbacfedfkilaaGreat
section
open Go.RowKit Go.ChangeShapes Go.WideShapes Go.ChangeAt
def okSheet (n : Int) (l : List ByteArray) : Bool := decide (0 ≤ n ∧ n ≤ 512 ∧ (l.length : Int) = cnt n) && l.all fun s => s.size == 32
def chkN (n : Int) (l : List ByteArray) : Int := if okSheet n l = true then 0 else 3
def allT (l : List ByteArray) (k : Nat) : Bool := (l.take k).all fun s => s.size == 32
theorem allT_step {l : List ByteArray} {k : Nat} {x : ByteArray} (h : l[k]? = some x) : allT l (k + 1) = (allT l k && (x.size == 32)) := by
 obtain ⟨hlt,rfl⟩ := List.getElem?_eq_some_iff.1 h
 unfold allT
 rw [List.take_succ_eq_append_getElem hlt,List.all_append];simp
theorem allT_full (l : List ByteArray) : allT l l.length = l.all fun s => s.size == 32 := by unfold allT;rw [List.take_length]
theorem cnt_bounds (n : Int) (h0 : 0 ≤ n) (h1 : n ≤ 512) : 0 ≤ cnt n ∧ cnt n ≤ 8 := by unfold cnt;split <;> omega
set_option maxRecDepth 100000 in
set_option maxHeartbeats 1000000 in
theorem c_check (n : Int) (l : List ByteArray) (A : Option Addr) (c : Nat) (w : World) (S : Nat → Prop) (hl : Rp.str.slice.R w S [.slice A l.length c] l) (h0 : -9223372036854775808 ≤ n) (h1 : n < 9223372036854775808) (hll : l.length ≤ 1000000) :
 Calls Tryz.prog 164 #[.agg #[.int .i64 n,.slice A l.length c]] w fun e w' => e = .returned (.int .i64 (chkN n l)) ∧ Kp No w w' := by
 have HL := Lib.hid hl
 clear hl
 go_enter Tryz.func164,Tryz.ntmps164
 go_wp2_with fail
 obtain ⟨w1,hw1⟩ : ∃ w1,w.alloc (.cells #[.int .i64 n,.slice A l.length c] 34) = w1 := ⟨_,rfl⟩
 have HB : Hid (Blk w1 w.heap.size 34 [.int .i64 n,.slice A l.length c]) := Lib.hid (by rw [← hw1];exact Blk.new w _ _)
 have HK1 : Hid (Kp No w w1.drew) := Lib.hid (by rw [← hw1];exact ((Kp.refl _ _).alloc _).drew)
 have HL1 := Lib.hid (Rp.str.slice.keptNo HL.out HK1.out)
 rw [hw1]
 clear hw1
 have c0 : w1.cell? ⟨w.heap.size,0,none⟩ = some (.int .i64 n) := HB.out.cell rfl
 have c1 : w1.cell? ⟨w.heap.size,1,none⟩ = some (.slice A l.length c) := HB.out.cell rfl
 by_cases hn0 : 0 ≤ n
 · by_cases hn1 : n ≤ 512
   · obtain ⟨m,hm⟩ : ∃ m,cnt n = m := ⟨_,rfl⟩
     by_cases heq : (l.length : Int) = m
     · have HOK : Hid ((true && l.all fun s => s.size == 32) = okSheet n l) := Lib.hid (by unfold okSheet;rw [decide_eq_true ⟨hn0,hn1,by rw [hm];exact heq⟩])
       have hq : ((l.length : Int) == m) = true := by simp [heq]
       clear heq
       refine Reg.wp_region_plan [⟨0,false,[]⟩,⟨1,false,[]⟩,⟨2,false,[]⟩,⟨3,false,[]⟩,⟨4,false,[]⟩,⟨5,false,[]⟩,⟨6,false,[]⟩,⟨7,false,[]⟩,⟨8,false,[]⟩,⟨9,false,[]⟩,⟨10,false,[]⟩,⟨11,false,[]⟩,⟨12,false,[]⟩,⟨13,false,[]⟩,⟨14,true,[9,10,11]⟩,⟨15,false,[]⟩,⟨16,false,[]⟩,⟨17,false,[]⟩] rfl (by kernel_rfl) ?_
       repeat (first | (refine Reg.look rfl rfl rfl (by go_simp;rfl) rfl ?_;go_simp) | (refine Reg.skip rfl rfl rfl ?_;go_simp))
       refine Reg.act rfl ?_
       go_wp2_with fail
       refine (c_count n _ h0 h1).mono ?_
       rintro e w2 ⟨rfl,rfl⟩
       rw [hm]
       go_wp2_with fail
       (refine ⟨?anew,?_⟩;case anew => ((repeat (refine Reg.anew_cons rfl rfl (fun _ => by go_simp) ?_));exact Reg.anew_nil))
       repeat (first | (refine Reg.look rfl rfl rfl (by go_simp;rfl) rfl ?_;go_simp) | (refine Reg.skip rfl rfl rfl ?_;go_simp))
       (refine Reg.done ?_;simp only [Exit.then])
       clear hq
       go_wp2_with fail
       obtain ⟨wo,hwo⟩ : ∃ wo : World,wo = w := ⟨_,rfl⟩
       go_loop [3,26] (fun ov iv => ∃ (k : Nat) (b : Bool),k ≤ l.length ∧ iv = .int .i64 (k : Int) ∧ ov = .bool b ∧ Hid (b = (true && allT l k))) (fun _ iv => l.length - (intOf iv).toNat)
       case atStart => exact ⟨0,true,Nat.zero_le _,rfl,rfl,Lib.hid (by simp [allT])⟩
       case round =>
        obtain ⟨k,b,hk,rfl,rfl,HB⟩ := hrel
        by_cases hlt : k < l.length
        · obtain ⟨x,hx⟩ : ∃ x,l[k]? = some x := ⟨_,List.getElem?_eq_getElem hlt⟩
          obtain ⟨ad,rfl,_,hcell,_⟩ := Rp.at_str HL1.out hx
          have HST := Lib.hid (allT_step hx)
          clear hx
          cases b with
          | false =>
            have HN : Hid (false = (true && allT l (k + 1))) := Lib.hid (by rw [HST.out,← Bool.and_assoc,← HB.out];rfl)
            go_wp2
            go_round
            case rel => exact ⟨k + 1,false,by omega,by go_num,rfl,HN⟩
            case measure => simp [intOf];omega
          | true =>
            by_cases h32 : x.size = 32
            · have HN : Hid (true = (true && allT l (k + 1))) := Lib.hid (by rw [HST.out,← Bool.and_assoc,← HB.out];simp [h32])
              have hq : ((x.size : Int) == 32) = true := by simp;omega
              clear h32
              go_wp2
              go_round
              case rel => exact ⟨k + 1,true,by omega,by go_num,rfl,HN⟩
              case measure => simp [intOf];omega
            · have HN : Hid (false = (true && allT l (k + 1))) := Lib.hid (by rw [HST.out,← Bool.and_assoc,← HB.out];simp [h32])
              have hq : ((x.size : Int) == 32) = false := by simp;omega
              clear h32
              go_wp2
              go_round
              case rel => exact ⟨k + 1,false,by omega,by go_num,rfl,HN⟩
              case measure => simp [intOf];omega
        · obtain rfl : k = l.length := by omega
          have hb : b = okSheet n l := by rw [HB.out,allT_full];exact HOK.out
          cases b with
          | true =>
            have HE : Hid (chkN n l = 0) := Lib.hid (by unfold chkN;rw [← hb];rfl)
            clear hb
            go_wp2_with fail
            all_goals go_ret
            all_goals exact ⟨congrArg (fun z => Ending.returned (Value.int .i64 z)) HE.out.symm,HK1.out⟩
          | false =>
            have HE : Hid (chkN n l = 3) := Lib.hid (by unfold chkN;rw [← hb];rfl)
            clear hb
            go_wp2_with fail
            all_goals go_ret
            all_goals exact ⟨congrArg (fun z => Ending.returned (Value.int .i64 z)) HE.out.symm,HK1.out⟩
     · have HOK : Hid ((false && l.all fun s => s.size == 32) = okSheet n l) := Lib.hid (by unfold okSheet;rw [decide_eq_false (fun h => heq (by rw [← hm];exact h.2.2))])
       have hq : ((l.length : Int) == m) = false := by simp [heq]
       clear heq
       refine Reg.wp_region_plan [⟨0,false,[]⟩,⟨1,false,[]⟩,⟨2,false,[]⟩,⟨3,false,[]⟩,⟨4,false,[]⟩,⟨5,false,[]⟩,⟨6,false,[]⟩,⟨7,false,[]⟩,⟨8,false,[]⟩,⟨9,false,[]⟩,⟨10,false,[]⟩,⟨11,false,[]⟩,⟨12,false,[]⟩,⟨13,false,[]⟩,⟨14,true,[9,10,11]⟩,⟨15,false,[]⟩,⟨16,false,[]⟩,⟨17,false,[]⟩] rfl (by kernel_rfl) ?_
       repeat (first | (refine Reg.look rfl rfl rfl (by go_simp;rfl) rfl ?_;go_simp) | (refine Reg.skip rfl rfl rfl ?_;go_simp))
       refine Reg.act rfl ?_
       go_wp2_with fail
       refine (c_count n _ h0 h1).mono ?_
       rintro e w2 ⟨rfl,rfl⟩
       rw [hm]
       go_wp2_with fail
       (refine ⟨?anew,?_⟩;case anew => ((repeat (refine Reg.anew_cons rfl rfl (fun _ => by go_simp) ?_));exact Reg.anew_nil))
       repeat (first | (refine Reg.look rfl rfl rfl (by go_simp;rfl) rfl ?_;go_simp) | (refine Reg.skip rfl rfl rfl ?_;go_simp))
       (refine Reg.done ?_;simp only [Exit.then])
       clear hq
       go_wp2_with fail
       obtain ⟨wo,hwo⟩ : ∃ wo : World,wo = w := ⟨_,rfl⟩
       go_loop [3,26] (fun ov iv => ∃ (k : Nat) (b : Bool),k ≤ l.length ∧ iv = .int .i64 (k : Int) ∧ ov = .bool b ∧ Hid (b = (false && allT l k))) (fun _ iv => l.length - (intOf iv).toNat)
       case atStart => exact ⟨0,false,Nat.zero_le _,rfl,rfl,Lib.hid (by simp [allT])⟩
       case round =>
        obtain ⟨k,b,hk,rfl,rfl,HB⟩ := hrel
        by_cases hlt : k < l.length
        · obtain ⟨x,hx⟩ : ∃ x,l[k]? = some x := ⟨_,List.getElem?_eq_getElem hlt⟩
          obtain ⟨ad,rfl,_,hcell,_⟩ := Rp.at_str HL1.out hx
          have HST := Lib.hid (allT_step hx)
          clear hx
          cases b with
          | false =>
            have HN : Hid (false = (false && allT l (k + 1))) := Lib.hid (by rw [HST.out,← Bool.and_assoc,← HB.out];rfl)
            go_wp2
            go_round
            case rel => exact ⟨k + 1,false,by omega,by go_num,rfl,HN⟩
            case measure => simp [intOf];omega
          | true =>
            by_cases h32 : x.size = 32
            · have HN : Hid (true = (false && allT l (k + 1))) := Lib.hid (by rw [HST.out,← Bool.and_assoc,← HB.out];simp [h32])
              have hq : ((x.size : Int) == 32) = true := by simp;omega
              clear h32
              go_wp2
              go_round
              case rel => exact ⟨k + 1,true,by omega,by go_num,rfl,HN⟩
              case measure => simp [intOf];omega
            · have HN : Hid (false = (false && allT l (k + 1))) := Lib.hid (by rw [HST.out,← Bool.and_assoc,← HB.out];simp [h32])
              have hq : ((x.size : Int) == 32) = false := by simp;omega
              clear h32
              go_wp2
              go_round
              case rel => exact ⟨k + 1,false,by omega,by go_num,rfl,HN⟩
              case measure => simp [intOf];omega
        · obtain rfl : k = l.length := by omega
          have hb : b = okSheet n l := by rw [HB.out,allT_full];exact HOK.out
          cases b with
          | true =>
            have HE : Hid (chkN n l = 0) := Lib.hid (by unfold chkN;rw [← hb];rfl)
            clear hb
            go_wp2_with fail
            all_goals go_ret
            all_goals exact ⟨congrArg (fun z => Ending.returned (Value.int .i64 z)) HE.out.symm,HK1.out⟩
          | false =>
            have HE : Hid (chkN n l = 3) := Lib.hid (by unfold chkN;rw [← hb];rfl)
            clear hb
            go_wp2_with fail
            all_goals go_ret
            all_goals exact ⟨congrArg (fun z => Ending.returned (Value.int .i64 z)) HE.out.symm,HK1.out⟩
   · have HOK : Hid ((false && l.all fun s => s.size == 32) = okSheet n l) := Lib.hid (by unfold okSheet;rw [decide_eq_false (fun h => hn1 h.2.1)])
     refine Reg.wp_region_plan [⟨0,false,[]⟩,⟨1,false,[]⟩,⟨2,false,[]⟩,⟨3,false,[]⟩,⟨4,false,[]⟩,⟨5,false,[]⟩,⟨6,false,[]⟩,⟨7,false,[]⟩,⟨8,false,[]⟩,⟨9,false,[]⟩,⟨10,false,[]⟩,⟨11,false,[]⟩,⟨12,false,[]⟩,⟨13,false,[]⟩,⟨14,true,[9,10,11]⟩,⟨15,false,[]⟩,⟨16,false,[]⟩,⟨17,false,[]⟩] rfl (by kernel_rfl) ?_
     repeat (first | (refine Reg.look rfl rfl rfl (by go_simp;rfl) rfl ?_;go_simp) | (refine Reg.skip rfl rfl rfl ?_;go_simp))
     refine Reg.act rfl ?_
     go_wp2_with fail
     (refine ⟨?anew,?_⟩;case anew => ((repeat (refine Reg.anew_cons rfl rfl (fun h => by first | (go_simp;done) | exact Bool.noConfusion (show false = true from h)) ?_));exact Reg.anew_nil))
     repeat (first | (refine Reg.look rfl rfl rfl (by go_simp;rfl) rfl ?_;go_simp) | (refine Reg.skip rfl rfl rfl ?_;go_simp))
     (refine Reg.done ?_;simp only [Exit.then])
     go_wp2_with fail
     obtain ⟨wo,hwo⟩ : ∃ wo : World,wo = w := ⟨_,rfl⟩
     go_loop [3,26] (fun ov iv => ∃ (k : Nat) (b : Bool),k ≤ l.length ∧ iv = .int .i64 (k : Int) ∧ ov = .bool b ∧ Hid (b = (false && allT l k))) (fun _ iv => l.length - (intOf iv).toNat)
     case atStart => exact ⟨0,false,Nat.zero_le _,rfl,rfl,Lib.hid (by simp [allT])⟩
     case round =>
      obtain ⟨k,b,hk,rfl,rfl,HB⟩ := hrel
      by_cases hlt : k < l.length
      · obtain ⟨x,hx⟩ : ∃ x,l[k]? = some x := ⟨_,List.getElem?_eq_getElem hlt⟩
        obtain ⟨ad,rfl,_,hcell,_⟩ := Rp.at_str HL1.out hx
        have HST := Lib.hid (allT_step hx)
        clear hx
        cases b with
        | false =>
          have HN : Hid (false = (false && allT l (k + 1))) := Lib.hid (by rw [HST.out,← Bool.and_assoc,← HB.out];rfl)
          go_wp2
          go_round
          case rel => exact ⟨k + 1,false,by omega,by go_num,rfl,HN⟩
          case measure => simp [intOf];omega
        | true =>
          by_cases h32 : x.size = 32
          · have HN : Hid (true = (false && allT l (k + 1))) := Lib.hid (by rw [HST.out,← Bool.and_assoc,← HB.out];simp [h32])
            have hq : ((x.size : Int) == 32) = true := by simp;omega
            clear h32
            go_wp2
            go_round
            case rel => exact ⟨k + 1,true,by omega,by go_num,rfl,HN⟩
            case measure => simp [intOf];omega
          · have HN : Hid (false = (false && allT l (k + 1))) := Lib.hid (by rw [HST.out,← Bool.and_assoc,← HB.out];simp [h32])
            have hq : ((x.size : Int) == 32) = false := by simp;omega
            clear h32
            go_wp2
            go_round
            case rel => exact ⟨k + 1,false,by omega,by go_num,rfl,HN⟩
            case measure => simp [intOf];omega
      · obtain rfl : k = l.length := by omega
        have hb : b = okSheet n l := by rw [HB.out,allT_full];exact HOK.out
        cases b with
        | true =>
          have HE : Hid (chkN n l = 0) := Lib.hid (by unfold chkN;rw [← hb];rfl)
          clear hb
          go_wp2_with fail
          all_goals go_ret
          all_goals exact ⟨congrArg (fun z => Ending.returned (Value.int .i64 z)) HE.out.symm,HK1.out⟩
        | false =>
          have HE : Hid (chkN n l = 3) := Lib.hid (by unfold chkN;rw [← hb];rfl)
          clear hb
          go_wp2_with fail
          all_goals go_ret
          all_goals exact ⟨congrArg (fun z => Ending.returned (Value.int .i64 z)) HE.out.symm,HK1.out⟩
 · have HOK : Hid ((false && l.all fun s => s.size == 32) = okSheet n l) := Lib.hid (by unfold okSheet;rw [decide_eq_false (fun h => hn0 h.1)])
   refine Reg.wp_region_plan [⟨0,false,[]⟩,⟨1,false,[]⟩,⟨2,false,[]⟩,⟨3,false,[]⟩,⟨4,false,[]⟩,⟨5,false,[]⟩,⟨6,false,[]⟩,⟨7,false,[]⟩,⟨8,false,[]⟩,⟨9,false,[]⟩,⟨10,false,[]⟩,⟨11,false,[]⟩,⟨12,false,[]⟩,⟨13,false,[]⟩,⟨14,true,[9,10,11]⟩,⟨15,false,[]⟩,⟨16,false,[]⟩,⟨17,false,[]⟩] rfl (by kernel_rfl) ?_
   repeat (first | (refine Reg.look rfl rfl rfl (by go_simp;rfl) rfl ?_;go_simp) | (refine Reg.skip rfl rfl rfl ?_;go_simp))
   refine Reg.act rfl ?_
   go_wp2_with fail
   (refine ⟨?anew,?_⟩;case anew => ((repeat (refine Reg.anew_cons rfl rfl (fun h => by first | (go_simp;done) | exact Bool.noConfusion (show false = true from h)) ?_));exact Reg.anew_nil))
   repeat (first | (refine Reg.look rfl rfl rfl (by go_simp;rfl) rfl ?_;go_simp) | (refine Reg.skip rfl rfl rfl ?_;go_simp))
   (refine Reg.done ?_;simp only [Exit.then])
   go_wp2_with fail
   obtain ⟨wo,hwo⟩ : ∃ wo : World,wo = w := ⟨_,rfl⟩
   go_loop [3,26] (fun ov iv => ∃ (k : Nat) (b : Bool),k ≤ l.length ∧ iv = .int .i64 (k : Int) ∧ ov = .bool b ∧ Hid (b = (false && allT l k))) (fun _ iv => l.length - (intOf iv).toNat)
   case atStart => exact ⟨0,false,Nat.zero_le _,rfl,rfl,Lib.hid (by simp [allT])⟩
   case round =>
    obtain ⟨k,b,hk,rfl,rfl,HB⟩ := hrel
    by_cases hlt : k < l.length
    · obtain ⟨x,hx⟩ : ∃ x,l[k]? = some x := ⟨_,List.getElem?_eq_getElem hlt⟩
      obtain ⟨ad,rfl,_,hcell,_⟩ := Rp.at_str HL1.out hx
      have HST := Lib.hid (allT_step hx)
      clear hx
      cases b with
      | false =>
        have HN : Hid (false = (false && allT l (k + 1))) := Lib.hid (by rw [HST.out,← Bool.and_assoc,← HB.out];rfl)
        go_wp2
        go_round
        case rel => exact ⟨k + 1,false,by omega,by go_num,rfl,HN⟩
        case measure => simp [intOf];omega
      | true =>
        by_cases h32 : x.size = 32
        · have HN : Hid (true = (false && allT l (k + 1))) := Lib.hid (by rw [HST.out,← Bool.and_assoc,← HB.out];simp [h32])
          have hq : ((x.size : Int) == 32) = true := by simp;omega
          clear h32
          go_wp2
          go_round
          case rel => exact ⟨k + 1,true,by omega,by go_num,rfl,HN⟩
          case measure => simp [intOf];omega
        · have HN : Hid (false = (false && allT l (k + 1))) := Lib.hid (by rw [HST.out,← Bool.and_assoc,← HB.out];simp [h32])
          have hq : ((x.size : Int) == 32) = false := by simp;omega
          clear h32
          go_wp2
          go_round
          case rel => exact ⟨k + 1,false,by omega,by go_num,rfl,HN⟩
          case measure => simp [intOf];omega
    · obtain rfl : k = l.length := by omega
      have hb : b = okSheet n l := by rw [HB.out,allT_full];exact HOK.out
      cases b with
      | true =>
        have HE : Hid (chkN n l = 0) := Lib.hid (by unfold chkN;rw [← hb];rfl)
        clear hb
        go_wp2_with fail
        all_goals go_ret
        all_goals exact ⟨congrArg (fun z => Ending.returned (Value.int .i64 z)) HE.out.symm,HK1.out⟩
      | false =>
        have HE : Hid (chkN n l = 3) := Lib.hid (by unfold chkN;rw [← hb];rfl)
        clear hb
        go_wp2_with fail
        all_goals go_ret
        all_goals exact ⟨congrArg (fun z => Ending.returned (Value.int .i64 z)) HE.out.symm,HK1.out⟩
end
section
open Go.RowKit Go.ChangeShapes Go.WideShapes Go.ChangeAt
def reignP (e s : Int) : Prop := 1 ≤ e ∧ e ≤ 16 ∧ 0 ≤ s ∧ s ≤ 1
instance (e s : Int) : Decidable (reignP e s) := by unfold reignP;exact inferInstance
def someP (o : OpL) : Prop := 0 ≤ o.client ∧ o.client < 8 ∧ 1 ≤ o.seq ∧ o.seq ≤ 1099511627776 ∧ 1 ≤ o.name.size ∧ o.name.size ≤ 16
instance (o : OpL) : Decidable (someP o) := by unfold someP;exact inferInstance
def bareP (o : OpL) : Prop := o.size = 0 ∧ o.hashes.length = 0
instance (o : OpL) : Decidable (bareP o) := by unfold bareP;exact inferInstance
def blankP (o : OpL) : Prop := o.client = 0 ∧ o.seq = 0 ∧ o.name.size = 0 ∧ bareP o
instance (o : OpL) : Decidable (blankP o) := by unfold blankP;exact inferInstance
def placeP (o : OpL) : Prop := 1 ≤ o.n ∧ o.n ≤ 80 ∧ reignP o.epoch o.site
instance (o : OpL) : Decidable (placeP o) := by unfold placeP;exact inferInstance
def okP (o : OpL) : Prop := placeP o ∧ ((o.kind = 1 ∧ someP o ∧ okSheet o.size o.hashes = true) ∨ (o.kind = 2 ∧ someP o ∧ bareP o) ∨ (o.kind = 3 ∧ blankP o))
instance (o : OpL) : Decidable (okP o) := by unfold okP;exact inferInstance
def nextP (n e s : Int) (o : OpL) : Prop := okP o ∧ o.n = n + 1 ∧ ((o.kind = 3 ∧ e < o.epoch) ∨ (o.kind ≠ 3 ∧ o.epoch = e ∧ (s < 0 ∨ o.site = s)))
instance (n e s : Int) (o : OpL) : Decidable (nextP n e s o) := by unfold nextP;exact inferInstance
def rowGo : Int → Int → Int → List OpL → Bool
 | _,_,_,[] => true
 | n,e,s,o :: t => decide (nextP n e s o) && rowGo o.n o.epoch o.site t
def spotP (n e : Int) : Prop := 0 ≤ n ∧ n ≤ 80 ∧ 0 ≤ e ∧ e ≤ 16 ∧ (n = 0 ↔ e = 0)
instance (n e : Int) : Decidable (spotP n e) := by unfold spotP;exact inferInstance
def rowB (n e : Int) (l : List OpL) : Bool := decide (spotP n e) && rowGo n e (-1) l
end
section
open Go.RowKit Go.ChangeShapes Go.WideShapes Go.ChangeAt
theorem size_ne {s : ByteArray} (h : s.size ≠ 0) : (!s.toList.isEmpty) = true ∧ s.toList.isEmpty = false := by
 have : s.toList.isEmpty = false := by
  rw [ByteArray.toList_eq]
  cases hl : s.data.toList with
  | nil =>
    have h2 : s.data.toList.length = s.size := by rw [Array.length_toList];rfl
    rw [hl] at h2
    exact absurd h2.symm h
  | cons => rfl
 exact ⟨by rw [this];rfl,this⟩
theorem size_eq {s : ByteArray} (h : s.size = 0) : s = ⟨#[]⟩ := by
 apply ByteArray.ext
 exact Array.eq_empty_of_size_eq_zero h
def opV (o : OpL) (v : Value) : Value := .agg #[.int .i64 o.n,.int .i64 o.epoch,.int .i64 o.kind,.int .i64 o.site,.int .i64 o.client,.int .i64 o.seq,.string o.name,.int .i64 o.size,v]
set_option maxRecDepth 100000 in
theorem c_reigned (e s : Int) (w : World) : Calls Tryz.prog 92 #[.int .i64 e,.int .i64 s] w fun x w' => x = .returned (.bool (decide (reignP e s))) ∧ w' = w := by
 by_cases h : reignP e s
 · rw [decide_eq_true h]
   obtain ⟨h1,h2,h3,h4⟩ := h
   have h4' : s < 2 := by omega
   go_enter Tryz.func92,Tryz.ntmps92
   go_wp2_with fail
   go_ret
   exact ⟨rfl,rfl⟩
 · rw [decide_eq_false h]
   unfold reignP at h
   have HN := Lib.hid h
   clear h
   go_enter Tryz.func92,Tryz.ntmps92
   go_wp2_with fail
   all_goals
    go_ret
    first
     | exact ⟨rfl,rfl⟩
     | (exfalso;have := HN.out;omega)
     | (refine ⟨?_,rfl⟩;have := HN.out;simp;omega)
set_option maxRecDepth 100000 in
theorem c_bare (n : Int) (l : List ByteArray) (A : Option Addr) (c : Nat) (w : World) : Calls Tryz.prog 163 #[.agg #[.int .i64 n,.slice A l.length c]] w fun x w' => x = .returned (.bool (decide (n = 0 ∧ l.length = 0))) ∧ Kp No w w' := by
 have hk := (Kp.refl No w).alloc (.cells #[.int .i64 n,.slice A l.length c] 34)
 have HK := Lib.hid hk
 clear hk
 by_cases h0 : n = 0
 · subst h0
   by_cases hl : l.length = 0
   · have hli : ((l.length : Int) == 0) = true := by simp [hl]
     rw [decide_eq_true ⟨rfl,hl⟩]
     clear hl
     go_enter Tryz.func163,Tryz.ntmps163
     go_wp2_with fail
     go_ret
     exact ⟨rfl,HK.out⟩
   · have hli : ((l.length : Int) == 0) = false := beq_eq_false_iff_ne.2 (by omega)
     rw [decide_eq_false (fun h => hl h.2)]
     clear hl
     go_enter Tryz.func163,Tryz.ntmps163
     go_wp2_with fail
     go_ret
     exact ⟨rfl,HK.out⟩
 · have hn : (n == 0) = false := beq_eq_false_iff_ne.2 h0
   rw [decide_eq_false (fun h => h0 h.1)]
   go_enter Tryz.func163,Tryz.ntmps163
   go_wp2_with fail
   go_ret
   exact ⟨rfl,HK.out⟩
set_option maxRecDepth 100000 in
set_option maxHeartbeats 1000000 in
theorem c_blank (o : OpL) (A : Option Addr) (c : Nat) (w : World) : Calls Tryz.prog 89 #[opV o (.slice A o.hashes.length c)] w fun x w' => x = .returned (.bool (decide (blankP o))) ∧ Kp No w w' := by
 obtain ⟨B,hB⟩ : ∃ B,decide (blankP o) = B := ⟨_,rfl⟩
 rw [hB]
 have HB := Lib.hid hB
 clear hB
 have hb := fun w1 => c_bare o.size o.hashes A c w1
 have HBA := Lib.hid hb
 clear hb
 unfold opV
 obtain ⟨n,ep,k,st,cl,sq,nm,sz,hs⟩ := o
 simp only at HBA ⊢
 have HK : Hid (Kp No w (w.alloc (.cells #[.int .i64 n,.int .i64 ep,.int .i64 k,.int .i64 st,.int .i64 cl,.int .i64 sq,.string nm,.int .i64 sz,.slice A hs.length c] 36))) := Lib.hid ((Kp.refl _ _).alloc _)
 by_cases h1 : cl = 0
 · by_cases h2 : sq = 0
   · by_cases h3 : nm.size = 0
     · obtain rfl := size_eq h3
       obtain ⟨B2,hB2⟩ : ∃ B2,decide (sz = 0 ∧ hs.length = 0) = B2 := ⟨_,rfl⟩
       rw [hB2] at HBA
       have HBB : Hid (B = B2) := Lib.hid (by rw [← HB.out,← hB2];unfold blankP bareP;simp [h1,h2,h3])
       subst h1 h2
       clear hB2 h3 HB
       go_enter Tryz.func89,Tryz.ntmps89
       go_wp2_with fail
       refine (HBA.out _).mono ?_
       rintro e w2 ⟨rfl,hk⟩
       have HK2 := Lib.hid (HK.out.trans' hk)
       clear hk
       go_wp2_with fail
       go_ret
       exact ⟨by rw [HBB.out];rfl,HK2.out⟩
     · obtain ⟨h4,h5⟩ := size_ne h3
       have HBB : Hid (B = false) := Lib.hid (by rw [← HB.out];unfold blankP;simp [h3])
       clear h3 HB
       subst h1 h2
       go_enter Tryz.func89,Tryz.ntmps89
       go_wp2_with fail
       go_ret
       exact ⟨by rw [HBB.out];rfl,HK.out⟩
   · have HBB : Hid (B = false) := Lib.hid (by rw [← HB.out];unfold blankP;simp [h2])
     have h2b : (sq == 0) = false := beq_eq_false_iff_ne.2 h2
     clear HB
     subst h1
     go_enter Tryz.func89,Tryz.ntmps89
     go_wp2_with fail
     go_ret
     exact ⟨by rw [HBB.out];rfl,HK.out⟩
 · have HBB : Hid (B = false) := Lib.hid (by rw [← HB.out];unfold blankP;simp [h1])
   have h1b : (cl == 0) = false := beq_eq_false_iff_ne.2 h1
   clear HB
   go_enter Tryz.func89,Tryz.ntmps89
   go_wp2_with fail
   go_ret
   exact ⟨by rw [HBB.out];rfl,HK.out⟩
end
section
open Go.RowKit Go.ChangeShapes Go.WideShapes Go.ChangeAt
def okOp (o : OpL) : Bool := decide (okP o)
set_option maxRecDepth 100000 in
set_option maxHeartbeats 2000000 in
theorem c_checkop (o : OpL) (A : Option Addr) (c : Nat) (w : World) (S : Nat → Prop) (hl : Rp.str.slice.R w S [.slice A o.hashes.length c] o.hashes) (hsz : -9223372036854775808 ≤ o.size ∧ o.size < 9223372036854775808) (hll : o.hashes.length ≤ 1000000) :
 Calls Tryz.prog 91 #[opV o (.slice A o.hashes.length c)] w fun x w' => x = .returned (.int .i64 (if okOp o then 0 else 3)) ∧ Kp No w w' := by
 have hbl := fun w1 => c_blank o A c w1
 have hba := fun w1 => c_bare o.size o.hashes A c w1
 have hch := fun w1 (hk : Kp No w w1) => c_check o.size o.hashes A c w1 S (Rp.str.slice.keptNo hl hk) hsz.1 hsz.2 hll
 have HBL := Lib.hid hbl
 have HBA := Lib.hid hba
 have HCH := Lib.hid hch
 obtain ⟨P,hP⟩ : ∃ P,decide (placeP o) = P := ⟨_,rfl⟩
 obtain ⟨M,hM⟩ : ∃ M,decide (someP o) = M := ⟨_,rfl⟩
 obtain ⟨K,hK⟩ : ∃ K,okOp o = K := ⟨_,rfl⟩
 rw [hK]
 obtain ⟨R,hR⟩ : ∃ R : Int,(if K = true then 0 else 3) = R := ⟨_,rfl⟩
 rw [hR]
 have HR := Lib.hid hR
 have HP := Lib.hid hP
 have HM := Lib.hid hM
 have HKK := Lib.hid hK
 unfold opV at *
 obtain ⟨n,ep,k,st,cl,sq,nm,sz,hs⟩ := o
 simp only at *
 clear hbl hba hch hP hM hK hl hR
 go_enter Tryz.func91,Tryz.ntmps91
 go_upto_region 1 with fail
 go_cut [3] (fun b wx => b = .bool P ∧ wx = w.alloc (.cells #[.int .i64 n,.int .i64 ep,.int .i64 k,.int .i64 st,.int .i64 cl,.int .i64 sq,.string nm,.int .i64 sz,.slice A hs.length c] 36))
 case first =>
  go_wp2_with (go_at_call 92;refine (c_reigned ep st _).mono ?_;rintro e w' ⟨rfl,rfl⟩)
  all_goals go_meet
  all_goals
   refine ⟨?_,rfl⟩
   rw [← HP.out]
   refine congrArg Value.bool ?_
   first
    | exact (decide_eq_false (by unfold placeP reignP;dsimp only;omega)).symm
    | exact decide_eq_decide.2 (by unfold placeP;dsimp only;exact ⟨fun h => ⟨by omega,by omega,h⟩,fun h => h.2.2⟩)
 case rest =>
 obtain ⟨rfl,rfl⟩ := hcut
 go_upto_region 2 with fail
 go_cut [4] (fun b wx => b = .bool M ∧ wx = w.alloc (.cells #[.int .i64 n,.int .i64 ep,.int .i64 k,.int .i64 st,.int .i64 cl,.int .i64 sq,.string nm,.int .i64 sz,.slice A hs.length c] 36))
 case first =>
  by_cases hz : nm.size = 0
  · obtain rfl := size_eq hz
    go_wp2_with fail
    all_goals go_meet
    all_goals
     refine ⟨?_,rfl⟩
     rw [← HM.out]
     refine congrArg Value.bool ?_
     exact (decide_eq_false (by unfold someP;dsimp only;omega)).symm
  · obtain ⟨h4,h5⟩ := size_ne hz
    go_wp2_with fail
    all_goals go_meet
    all_goals
     refine ⟨?_,rfl⟩
     rw [← HM.out]
     refine congrArg Value.bool ?_
     first
      | exact (decide_eq_false (by unfold someP;dsimp only;omega)).symm
      | exact decide_eq_decide.2 (by unfold someP;dsimp only;omega)
 case rest =>
 obtain ⟨rfl,rfl⟩ := hcut
 have HK1 : Hid (Kp No w (w.alloc (.cells #[.int .i64 n,.int .i64 ep,.int .i64 k,.int .i64 st,.int .i64 cl,.int .i64 sq,.string nm,.int .i64 sz,.slice A hs.length c] 36))) := Lib.hid ((Kp.refl _ _).alloc _)
 have hKe : K = (P && (if k = 1 then M && okSheet sz hs else if k = 2 then M && decide (sz = 0 ∧ hs.length = 0) else if k = 3 then decide (blankP ⟨n,ep,k,st,cl,sq,nm,sz,hs⟩) else false)) := by
  rw [← HKK.out,← HP.out,← HM.out]
  unfold okOp okP bareP
  by_cases k1 : k = 1
  · simp [k1]
  · by_cases k2 : k = 2
    · simp [k2]
    · by_cases k3 : k = 3
      · simp [k3]
      · simp [k1,k2,k3]
 have HKE := Lib.hid hKe
 clear hKe HKK HP HM
 by_cases k1 : k = 1
 · subst k1
   obtain ⟨O,hO⟩ : ∃ O,okSheet sz hs = O := ⟨_,rfl⟩
   have hchn : chkN sz hs = if O = true then 0 else 3 := by unfold chkN;rw [hO]
   rw [hchn] at HCH
   rw [hO] at HKE
   simp only [if_true] at HKE
   clear hO hchn
   cases P <;> cases M
   all_goals simp only [Bool.false_and,Bool.true_and] at HKE
   case true.true =>
    cases O
    all_goals
     simp only [Bool.false_eq_true,if_false,if_true] at HCH
     go_wp2_with fail
     refine (HCH.out _ HK1.out).mono ?_
     rintro e w2 ⟨rfl,hk⟩
     have HK2 := Lib.hid (HK1.out.trans' hk)
     clear hk
     go_wp2_with fail
     go_ret
     exact ⟨by rw [← HR.out,HKE.out];rfl,HK2.out⟩
   all_goals
    go_wp2_with fail
    go_ret
    exact ⟨by rw [← HR.out,HKE.out];rfl,HK1.out⟩
 by_cases k2 : k = 2
 · subst k2
   obtain ⟨O,hO⟩ : ∃ O,decide (sz = 0 ∧ hs.length = 0) = O := ⟨_,rfl⟩
   rw [hO] at HBA HKE
   have HKE : Hid (K = (P && (M && O))) := HKE
   clear hO k1
   cases P <;> cases M
   all_goals simp only [Bool.false_and,Bool.true_and] at HKE
   case true.true =>
    cases O
    all_goals
     go_wp2_with fail
     refine (HBA.out _).mono ?_
     rintro e w2 ⟨rfl,hk⟩
     have HK2 := Lib.hid (HK1.out.trans' hk)
     clear hk
     go_wp2_with fail
     go_ret
     exact ⟨by rw [← HR.out,HKE.out];rfl,HK2.out⟩
   all_goals
    go_wp2_with fail
    go_ret
    exact ⟨by rw [← HR.out,HKE.out];rfl,HK1.out⟩
 by_cases k3 : k = 3
 · subst k3
   obtain ⟨O,hO⟩ : ∃ O,decide (blankP ⟨n,ep,3,st,cl,sq,nm,sz,hs⟩) = O := ⟨_,rfl⟩
   rw [hO] at HBL HKE
   have HKE : Hid (K = (P && O)) := HKE
   clear hO k1 k2
   cases P
   all_goals simp only [Bool.false_and,Bool.true_and] at HKE
   case true =>
    cases O
    all_goals
     go_wp2_with fail
     refine (HBL.out _).mono ?_
     rintro e w2 ⟨rfl,hk⟩
     have HK2 := Lib.hid (HK1.out.trans' hk)
     clear hk
     go_wp2_with fail
     go_ret
     exact ⟨by rw [← HR.out,HKE.out];rfl,HK2.out⟩
   all_goals
    go_wp2_with fail
    go_ret
    exact ⟨by rw [← HR.out,HKE.out];rfl,HK1.out⟩
 · rw [if_neg k1,if_neg k2,if_neg k3,Bool.and_false] at HKE
   have k1b : (k == 1) = false := beq_eq_false_iff_ne.2 k1
   have k2b : (k == 2) = false := beq_eq_false_iff_ne.2 k2
   have k3b : (k == 3) = false := beq_eq_false_iff_ne.2 k3
   go_wp2_with fail
   go_ret
   exact ⟨by rw [← HR.out,HKE.out];rfl,HK1.out⟩
end
section
open Go.RowKit Go.ChangeShapes Go.WideShapes Go.ChangeAt
theorem opl_cells {w : World} {ad : Addr} {o : OpL} {v : Value} (h : ∀ (j : Nat) u,(o.cells v)[j]? = some u → w.cell? (ad.add j) = some u) :
 w.cell? ad = some (.int .i64 o.n) ∧ w.cell? ⟨ad.block,ad.off + 1,none⟩ = some (.int .i64 o.epoch) ∧ w.cell? ⟨ad.block,ad.off + 2,none⟩ = some (.int .i64 o.kind) ∧ w.cell? ⟨ad.block,ad.off + 3,none⟩ = some (.int .i64 o.site) ∧
 w.cell? ⟨ad.block,ad.off + 4,none⟩ = some (.int .i64 o.client) ∧ w.cell? ⟨ad.block,ad.off + 5,none⟩ = some (.int .i64 o.seq) ∧ w.cell? ⟨ad.block,ad.off + 6,none⟩ = some (.string o.name) ∧ w.cell? ⟨ad.block,ad.off + 7,none⟩ = some (.int .i64 o.size) ∧ w.cell? ⟨ad.block,ad.off + 8,none⟩ = some v :=
 ⟨h 0 _ rfl,h 1 _ rfl,h 2 _ rfl,h 3 _ rfl,h 4 _ rfl,h 5 _ rfl,h 6 _ rfl,h 7 _ rfl,h 8 _ rfl⟩
theorem bounds_I64 {x : Int} (h : I64 x) : -9223372036854775808 ≤ x ∧ x < 9223372036854775808 := by
 have := bounds_i64 h
 omega
theorem dropC {α : Type} {l : List α} {i : Nat} {a : α} (h : l[i]? = some a) : l.drop i = a :: l.drop (i + 1) := by
 obtain ⟨e1,e2⟩ := List.getElem?_eq_some_iff.1 h
 rw [List.drop_eq_getElem_cons e1,e2]
set_option maxRecDepth 100000 in
set_option maxHeartbeats 2000000 in
theorem c_row (n e : Int) (l : List OpL) (A : Option Addr) (c : Nat) (w : World) (S : Nat → Prop) (hl : Rp.opl.slice.R w S [.slice A l.length c] l) (hll : l.length ≤ 1000000) (hsm : ∀ o ∈ l,o.hashes.length ≤ 1000000) :
 Calls Tryz.prog 93 #[.agg #[.int .i64 n,.int .i64 e],.slice A l.length c] w fun x w' => x = .returned (.bool (rowB n e l)) ∧ Kp No w w' := by
 have HL := Lib.hid hl
 have HSM := Lib.hid hsm
 have HK : Hid (Kp No w (w.alloc (.cells #[.int .i64 n,.int .i64 e] 42))) := Lib.hid ((Kp.refl _ _).alloc _)
 clear hl hsm
 by_cases hs : spotP n e
 case neg =>
  have HS : Hid (rowB n e l = false) := Lib.hid (by unfold rowB;rw [decide_eq_false hs];rfl)
  rw [HS.out]
  unfold spotP at hs
  by_cases h1 : n < 0
  · skip
    clear HS
    go_enter Tryz.func93,Tryz.ntmps93
    go_wp2_with fail
    go_ret
    exact ⟨rfl,HK.out⟩
  by_cases h2 : 80 < n
  · skip
    clear HS
    go_enter Tryz.func93,Tryz.ntmps93
    go_wp2_with fail
    go_ret
    exact ⟨rfl,HK.out⟩
  by_cases h3 : e < 0
  · skip
    clear HS
    go_enter Tryz.func93,Tryz.ntmps93
    go_wp2_with fail
    go_ret
    exact ⟨rfl,HK.out⟩
  by_cases h4 : 16 < e
  · skip
    clear HS
    go_enter Tryz.func93,Tryz.ntmps93
    go_wp2_with fail
    go_ret
    exact ⟨rfl,HK.out⟩
  by_cases h5 : n = 0
  · have h6 : (e == 0) = false := beq_eq_false_iff_ne.2 (fun h => hs ⟨by omega,by omega,by omega,by omega,by omega⟩)
    subst h5
    clear hs
    clear HS
    go_enter Tryz.func93,Tryz.ntmps93
    go_wp2_with fail
    go_ret
    exact ⟨rfl,HK.out⟩
  · have h6 : e = 0 := by omega
    have h7 : (n == 0) = false := beq_eq_false_iff_ne.2 h5
    subst h6
    clear hs
    clear HS
    go_enter Tryz.func93,Tryz.ntmps93
    go_wp2_with fail
    go_ret
    exact ⟨rfl,HK.out⟩
 case pos =>
  have hrow : rowB n e l = rowGo n e (-1) l := by unfold rowB;rw [decide_eq_true hs];rfl
  rw [hrow]
  obtain ⟨R,hR⟩ : ∃ R,rowGo n e (-1) l = R := ⟨_,rfl⟩
  rw [hR]
  have HR := Lib.hid hR
  obtain ⟨s1,s2,s3,s4,s5⟩ := hs
  have hne : ((n == 0) != (e == 0)) = false := by
   by_cases h : n = 0
   · rw [h,s5.1 h];rfl
   · rw [beq_eq_false_iff_ne.2 h,beq_eq_false_iff_ne.2 (fun h2 => h (s5.2 h2))];rfl
  have hne2 : ((n == 0) == (e == 0)) = true := by
   by_cases h : n = 0
   · rw [h,s5.1 h];rfl
   · rw [beq_eq_false_iff_ne.2 h,beq_eq_false_iff_ne.2 (fun h2 => h (s5.2 h2))];rfl
  clear hrow hR s5
  go_enter Tryz.func93,Tryz.ntmps93
  go_wp2_with fail
  obtain ⟨b,hb⟩ : ∃ b,w.heap.size = b := ⟨_,rfl⟩
  obtain ⟨w1,hw1⟩ : ∃ w1,w.alloc (.cells #[.int .i64 n,.int .i64 e] 42) = w1 := ⟨_,rfl⟩
  have hb1 : Blk w1 b 42 [.int .i64 n,.int .i64 e] := by rw [← hw1,← hb];exact Blk.new w _ _
  rw [hw1] at HK
  rw [hw1,hb]
  have HB1 := Lib.hid hb1
  have HBW := Lib.hid (show w.heap.size ≤ b by omega)
  clear hb hw1 hb1 hne hne2
  go_loopw [5,38] (fun sv iv wr => ∃ (i : Nat) (s pn pe : Int),i ≤ l.length ∧ iv = .int .i64 (i : Int) ∧ sv = .int .i64 s ∧ Hid (Blk wr b 42 [.int .i64 pn,.int .i64 pe]) ∧ 0 ≤ pn ∧ pn ≤ 80 ∧ Hid (R = rowGo pn pe s (l.drop i)) ∧ Hid (Kp No w wr)) (fun _ iv _ => l.length - (intOf iv).toNat)
  case atStart => exact ⟨0,-1,n,e,Nat.zero_le _,rfl,rfl,HB1,s1,s2,Lib.hid (by rw [← HR.out];rfl),HK⟩
  case round =>
   clear HB1 HK HR
   obtain ⟨i,s,pn,pe,hi,rfl,rfl,HB,hp0,hp1,HR,HK⟩ := hrel
   by_cases hlt : i < l.length
   · have hli : (i : Int) < (l.length : Int) := by omega
     obtain ⟨o,ho⟩ : ∃ o,l[i]? = some o := ⟨_,List.getElem?_eq_getElem hlt⟩
     have hR2 := HR.out
     rw [dropC ho,rowGo] at hR2
     have HR2 := Lib.hid hR2
     have hos := HSM.out o (List.mem_of_getElem? ho)
     obtain ⟨ad,A2,c2,rfl,_,hcell,hnum,hhs⟩ := Rp.at_opl (Rp.opl.slice.keptNo HL.out HK.out) ho
     obtain ⟨z0,z1,z2,z3,z4,z5,z6,z7,z8⟩ := opl_cells hcell
     have hchk := fun w2 (hk : Kp No wr w2) => c_checkop o A2 c2 w2 S (Rp.str.slice.keptNo hhs hk) (bounds_I64 hnum.2.2.2.2.2.2.2) hos
     obtain ⟨K,hK⟩ : ∃ K,okOp o = K := ⟨_,rfl⟩
     have hKP : K = true ↔ okP o := by rw [← hK];unfold okOp;exact decide_eq_true_iff
     rw [hK] at hchk
     have HCHK := Lib.hid hchk
     have HKP := Lib.hid hKP
     have b0 : wr.cell? ⟨b,0,none⟩ = some (.int .i64 pn) := Blk.cell HB.out rfl
     have b1 : wr.cell? ⟨b,1,none⟩ = some (.int .i64 pe) := Blk.cell HB.out rfl
     clear ho hR2 hos hcell hnum hhs hchk hK hKP HR
     unfold opV at HCHK
     obtain ⟨on,oe,ok,os,oc,oq,onm,osz,ohs⟩ := o
     simp only at *
     go_wp2_with fail
     refine (HCHK.out _ ((Kp.refl _ _).alloc _)).mono ?_
     rintro x w2 ⟨rfl,hk2⟩
     have hkk : Kp No wr w2 := ((Kp.refl No wr).alloc _).trans' hk2
     have hop := Blk.kept (Blk.new wr [.int .i64 on,.int .i64 oe,.int .i64 ok,.int .i64 os,.int .i64 oc,.int .i64 oq,.string onm,.int .i64 osz,.slice A2 ohs.length c2] 36) hk2 (fun x => x)
     have HB2 := Lib.hid (Blk.kept HB.out hkk (fun x => x))
     have HK2 := Lib.hid (HK.out.trans' hkk)
     have hbw : b < wr.heap.size := Blk.lt HB.out
     obtain ⟨g,hg⟩ : ∃ g,wr.heap.size = g := ⟨_,rfl⟩
     rw [hg] at hop
     rw [hg]
     have y0 : w2.cell? ⟨g,0,none⟩ = some _ := Blk.cell hop rfl
     have y1 : w2.cell? ⟨g,1,none⟩ = some _ := Blk.cell hop rfl
     have y2 : w2.cell? ⟨g,2,none⟩ = some _ := Blk.cell hop rfl
     have y3 : w2.cell? ⟨g,3,none⟩ = some _ := Blk.cell hop rfl
     have e0 : w2.cell? ⟨b,0,none⟩ = some (.int .i64 pn) := Blk.cell HB2.out rfl
     have e1 : w2.cell? ⟨b,1,none⟩ = some (.int .i64 pe) := Blk.cell HB2.out rfl
     have f0 := Blk.fr HB2.out 0
     have f1 := Blk.fr HB2.out 1
     have hgb : b ≠ g := by omega
     clear hkk hk2 hop hg z0 z1 z2 z3 z4 z5 z6 z7 z8 b0 b1 HB HK HCHK hbw
     have hno : K = false → R = false := fun h => by rw [HR2.out,decide_eq_false (fun h2 => by have := HKP.out.2 h2.1;rw [h] at this;cases this)];rfl
     cases K with
     | false =>
       have HF := Lib.hid (hno rfl)
       clear hno
       go_wp2_with fail
       go_ret
       exact ⟨by rw [HF.out];rfl,HK2.out⟩
     | true =>
       obtain ⟨⟨p1,p2,p3,p4,p5,p6⟩,_⟩ := HKP.out.1 rfl
       simp only at p1 p2 p3 p4 p5 p6
       clear hno
       have HOK := Lib.hid (HKP.out.1 rfl)
       clear HKP
       by_cases hn : on = pn + 1
       case neg =>
        have hnb : (on == pn + 1) = false := beq_eq_false_iff_ne.2 hn
        have HF : Hid (R = false) := Lib.hid (by rw [HR2.out,decide_eq_false (fun h2 => hn h2.2.1)];rfl)
        go_wp2_with fail
        go_ret
        exact ⟨by rw [HF.out];rfl,HK2.out⟩
       by_cases k3 : ok = 3
       · subst k3
         by_cases he : pe < oe
         · have HG : Hid (R = rowGo on oe os (l.drop (i + 1))) := Lib.hid (by rw [HR2.out,decide_eq_true (show nextP pn pe s _ from ⟨HOK.out,hn,.inl ⟨rfl,he⟩⟩)];rfl)
           subst hn
           have heb : ¬ oe ≤ pe := by omega
           go_wp2_with fail
           refine Reg.wp_region_plan [⟨0,false,[]⟩,⟨1,false,[]⟩,⟨2,false,[]⟩,⟨3,false,[]⟩,⟨4,false,[]⟩,⟨5,false,[]⟩,⟨6,false,[]⟩,⟨7,true,[5,6]⟩,⟨8,false,[]⟩] rfl (by kernel_rfl) ?_
           repeat (first | (refine Reg.look rfl rfl rfl (by go_simp;rfl) rfl ?_;go_simp) | (refine Reg.skip rfl rfl rfl ?_;go_simp))
           refine Reg.act rfl ?_
           go_wp2_with fail
           have hk3 : Kp (· = b) w2 (((w2.setCell ⟨b,0,none⟩ (.int .i64 (pn + 1))).setCell ⟨b,1,none⟩ (.int .i64 oe)).drew) := (((Kp.refl (· = b) w2).setCell (p := ⟨b,0,none⟩) (fun _ => rfl) _).setCell (p := ⟨b,1,none⟩) (fun _ => rfl) _).drew
           have hb3 : Blk (((w2.setCell ⟨b,0,none⟩ (.int .i64 (pn + 1))).setCell ⟨b,1,none⟩ (.int .i64 oe)).drew) b 42 [.int .i64 (pn + 1),.int .i64 oe] := Blk.set (Blk.set HB2.out 0 (.int .i64 (pn + 1))) 1 (.int .i64 oe)
           have y3n : (((w2.setCell ⟨b,0,none⟩ (.int .i64 (pn + 1))).setCell ⟨b,1,none⟩ (.int .i64 oe)).drew).cell? ⟨g,3,none⟩ = some (.int .i64 os) := (hk3.cell (lt_of_cell y3) (fun h => hgb h.symm)).trans y3
           have HB3 := Lib.hid hb3
           have HK3 : Hid (Kp No w (((w2.setCell ⟨b,0,none⟩ (.int .i64 (pn + 1))).setCell ⟨b,1,none⟩ (.int .i64 oe)).drew)) := Lib.hid (HK2.out.trans hk3 (fun k hk h => absurd HBW.out (by omega)))
           clear hb3 hk3
           (refine ⟨?anew,?_⟩;case anew => ((repeat (refine Reg.anew_cons rfl rfl (fun _ => by go_simp) ?_));exact Reg.anew_nil))
           repeat (first | (refine Reg.look rfl rfl rfl (by go_simp;rfl) rfl ?_;go_simp) | (refine Reg.skip rfl rfl rfl ?_;go_simp))
           (refine Reg.done ?_;simp only [Exit.then])
           go_wp2_with fail
           go_roundw
           case rel => exact ⟨i + 1,os,pn + 1,oe,by omega,by go_num,rfl,HB3,by omega,by omega,HG,HK3⟩
           case measure => simp [intOf];omega
         · have HF : Hid (R = false) := Lib.hid (by
            rw [HR2.out,decide_eq_false (fun h2 => by rcases h2.2.2 with h | h;exact he h.2;exact h.1 rfl)];rfl)
           have heb : oe ≤ pe := by omega
           subst hn
           go_wp2_with fail
           go_ret
           exact ⟨by rw [HF.out];rfl,HK2.out⟩
       · have k3b : (ok == 3) = false := beq_eq_false_iff_ne.2 k3
         by_cases he : oe = pe
         · by_cases hs0 : s < 0
           · have HG : Hid (R = rowGo on oe os (l.drop (i + 1))) := Lib.hid (by rw [HR2.out,decide_eq_true (show nextP pn pe s _ from ⟨HOK.out,hn,.inr ⟨k3,he,.inl hs0⟩⟩)];rfl)
             have hs1 : ¬ 0 ≤ s := by omega
             subst hn he
             go_wp2_with fail
             refine Reg.wp_region_plan [⟨0,false,[]⟩,⟨1,false,[]⟩,⟨2,false,[]⟩,⟨3,false,[]⟩,⟨4,false,[]⟩,⟨5,false,[]⟩,⟨6,false,[]⟩,⟨7,true,[5,6]⟩,⟨8,false,[]⟩] rfl (by kernel_rfl) ?_
             repeat (first | (refine Reg.look rfl rfl rfl (by go_simp;rfl) rfl ?_;go_simp) | (refine Reg.skip rfl rfl rfl ?_;go_simp))
             refine Reg.act rfl ?_
             go_wp2_with fail
             have hk3 : Kp (· = b) w2 (((w2.setCell ⟨b,0,none⟩ (.int .i64 (pn + 1))).setCell ⟨b,1,none⟩ (.int .i64 oe)).drew) := (((Kp.refl (· = b) w2).setCell (p := ⟨b,0,none⟩) (fun _ => rfl) _).setCell (p := ⟨b,1,none⟩) (fun _ => rfl) _).drew
             have hb3 : Blk (((w2.setCell ⟨b,0,none⟩ (.int .i64 (pn + 1))).setCell ⟨b,1,none⟩ (.int .i64 oe)).drew) b 42 [.int .i64 (pn + 1),.int .i64 oe] := Blk.set (Blk.set HB2.out 0 (.int .i64 (pn + 1))) 1 (.int .i64 oe)
             have y3n : (((w2.setCell ⟨b,0,none⟩ (.int .i64 (pn + 1))).setCell ⟨b,1,none⟩ (.int .i64 oe)).drew).cell? ⟨g,3,none⟩ = some (.int .i64 os) := (hk3.cell (lt_of_cell y3) (fun h => hgb h.symm)).trans y3
             have HB3 := Lib.hid hb3
             have HK3 : Hid (Kp No w (((w2.setCell ⟨b,0,none⟩ (.int .i64 (pn + 1))).setCell ⟨b,1,none⟩ (.int .i64 oe)).drew)) := Lib.hid (HK2.out.trans hk3 (fun k hk h => absurd HBW.out (by omega)))
             clear hb3 hk3
             (refine ⟨?anew,?_⟩;case anew => ((repeat (refine Reg.anew_cons rfl rfl (fun _ => by go_simp) ?_));exact Reg.anew_nil))
             repeat (first | (refine Reg.look rfl rfl rfl (by go_simp;rfl) rfl ?_;go_simp) | (refine Reg.skip rfl rfl rfl ?_;go_simp))
             (refine Reg.done ?_;simp only [Exit.then])
             go_wp2_with fail
             go_roundw
             case rel => exact ⟨i + 1,os,pn + 1,oe,by omega,by go_num,rfl,HB3,by omega,by omega,HG,HK3⟩
             case measure => simp [intOf];omega
           · have hs1 : 0 ≤ s := by omega
             by_cases hss : os = s
             · have HG : Hid (R = rowGo on oe os (l.drop (i + 1))) := Lib.hid (by rw [HR2.out,decide_eq_true (show nextP pn pe s _ from ⟨HOK.out,hn,.inr ⟨k3,he,.inr hss⟩⟩)];rfl)
               subst hn he hss
               go_wp2_with fail
               refine Reg.wp_region_plan [⟨0,false,[]⟩,⟨1,false,[]⟩,⟨2,false,[]⟩,⟨3,false,[]⟩,⟨4,false,[]⟩,⟨5,false,[]⟩,⟨6,false,[]⟩,⟨7,true,[5,6]⟩,⟨8,false,[]⟩] rfl (by kernel_rfl) ?_
               repeat (first | (refine Reg.look rfl rfl rfl (by go_simp;rfl) rfl ?_;go_simp) | (refine Reg.skip rfl rfl rfl ?_;go_simp))
               refine Reg.act rfl ?_
               go_wp2_with fail
               have hk3 : Kp (· = b) w2 (((w2.setCell ⟨b,0,none⟩ (.int .i64 (pn + 1))).setCell ⟨b,1,none⟩ (.int .i64 oe)).drew) := (((Kp.refl (· = b) w2).setCell (p := ⟨b,0,none⟩) (fun _ => rfl) _).setCell (p := ⟨b,1,none⟩) (fun _ => rfl) _).drew
               have hb3 : Blk (((w2.setCell ⟨b,0,none⟩ (.int .i64 (pn + 1))).setCell ⟨b,1,none⟩ (.int .i64 oe)).drew) b 42 [.int .i64 (pn + 1),.int .i64 oe] := Blk.set (Blk.set HB2.out 0 (.int .i64 (pn + 1))) 1 (.int .i64 oe)
               have y3n : (((w2.setCell ⟨b,0,none⟩ (.int .i64 (pn + 1))).setCell ⟨b,1,none⟩ (.int .i64 oe)).drew).cell? ⟨g,3,none⟩ = some (.int .i64 os) := (hk3.cell (lt_of_cell y3) (fun h => hgb h.symm)).trans y3
               have HB3 := Lib.hid hb3
               have HK3 : Hid (Kp No w (((w2.setCell ⟨b,0,none⟩ (.int .i64 (pn + 1))).setCell ⟨b,1,none⟩ (.int .i64 oe)).drew)) := Lib.hid (HK2.out.trans hk3 (fun k hk h => absurd HBW.out (by omega)))
               clear hb3 hk3
               (refine ⟨?anew,?_⟩;case anew => ((repeat (refine Reg.anew_cons rfl rfl (fun _ => by go_simp) ?_));exact Reg.anew_nil))
               repeat (first | (refine Reg.look rfl rfl rfl (by go_simp;rfl) rfl ?_;go_simp) | (refine Reg.skip rfl rfl rfl ?_;go_simp))
               (refine Reg.done ?_;simp only [Exit.then])
               go_wp2_with fail
               go_roundw
               case rel => exact ⟨i + 1,os,pn + 1,oe,by omega,by go_num,rfl,HB3,by omega,by omega,HG,HK3⟩
               case measure => simp [intOf];omega
             · have hsb : (os == s) = false := beq_eq_false_iff_ne.2 hss
               have HF : Hid (R = false) := Lib.hid (by
                rw [HR2.out,decide_eq_false (fun h2 => by rcases h2.2.2 with h | h;exact k3 h.1;rcases h.2.2 with h | h;exact hs0 h;exact hss h)];rfl)
               subst hn he
               go_wp2_with fail
               go_ret
               exact ⟨by rw [HF.out];rfl,HK2.out⟩
         · have heb : (oe == pe) = false := beq_eq_false_iff_ne.2 he
           have HF : Hid (R = false) := Lib.hid (by
            rw [HR2.out,decide_eq_false (fun h2 => by rcases h2.2.2 with h | h;exact k3 h.1;exact he h.2.1)];rfl)
           subst hn
           go_wp2_with fail
           go_ret
           exact ⟨by rw [HF.out];rfl,HK2.out⟩
   · obtain rfl : i = l.length := by omega
     have HT : Hid (R = true) := Lib.hid (by rw [HR.out,List.drop_length];rfl)
     go_wp2_with fail
     go_ret
     exact ⟨by rw [HT.out];rfl,HK.out⟩
end
section
open Go.RowKit Go.ChangeShapes Go.WideShapes Go.ChangeAt
set_option maxRecDepth 100000 in
set_option maxHeartbeats 1000000 in
theorem r_sameS (n m : Int) (l1 l2 : List ByteArray) (A1 A2 : Option Addr) (c1 c2 : Nat) (w : World) (S1 S2 : Nat → Prop) (h1 : Rp.str.slice.R w S1 [.slice A1 l1.length c1] l1) (h2 : Rp.str.slice.R w S2 [.slice A2 l2.length c2] l2) :
 Calls Tryz.prog 60 #[.agg #[.int .i64 n,.slice A1 l1.length c1],.agg #[.int .i64 m,.slice A2 l2.length c2]] w fun e w' => e = .returned (.bool (decide (n = m ∧ l1 = l2))) ∧ Kp No w w' := by
 have H1 := Lib.hid h1
 have H2 := Lib.hid h2
 clear h1 h2
 by_cases hnm : n = m
 · subst hnm
   have hd : decide (n = n ∧ l1 = l2) = decide (l1 = l2) := by simp
   rw [hd]
   clear hd
   go_enter Tryz.func60,Tryz.ntmps60
   go_wp2_with fail
   obtain ⟨w1,hw1⟩ : ∃ w1,(w.alloc (.cells #[.int .i64 n,.slice A1 l1.length c1] 34)).alloc (.cells #[.int .i64 n,.slice A2 l2.length c2] 34) = w1 := ⟨_,rfl⟩
   have HK1 : Hid (Kp No w w1) := Lib.hid (by rw [← hw1];exact ((Kp.refl _ _).alloc _).alloc _)
   rw [hw1]
   clear hw1
   refine (r_same l1 l2 A1 A2 c1 c2 w1 S1 S2 (Rp.str.slice.keptNo H1.out HK1.out) (Rp.str.slice.keptNo H2.out HK1.out)).mono ?_
   rintro e w2 ⟨rfl,k,rfl⟩
   go_wp2_with fail
   go_ret
   exact ⟨rfl,HK1.out.drewN k⟩
 · have hd : decide (n = m ∧ l1 = l2) = false := decide_eq_false (fun h => hnm h.1)
   have hq : (n == m) = false := by simp [hnm]
   rw [hd]
   clear hd
   go_enter Tryz.func60,Tryz.ntmps60
   go_wp2_with fail
   go_ret
   exact ⟨rfl,((Kp.refl _ _).alloc _).alloc _⟩
end
section
open Go.RowKit Go.ChangeShapes Go.WideShapes Go.ChangeAt
def SameP (a b : OpL) : Prop := a.n = b.n ∧ a.epoch = b.epoch ∧ a.kind = b.kind ∧ a.site = b.site ∧ a.client = b.client ∧ a.seq = b.seq ∧ a.name = b.name ∧ (a.size = b.size ∧ a.hashes = b.hashes)
instance (a b : OpL) : Decidable (SameP a b) := by unfold SameP;exact inferInstance
theorem sameP_iff (a b : OpL) : SameP a b ↔ a = b := by
 constructor
 · rintro ⟨h1,h2,h3,h4,h5,h6,h7,h8,h9⟩
   cases a;cases b
   simp only at *
   subst h1 h2 h3 h4 h5 h6 h7 h8 h9
   rfl
 · rintro rfl
   exact ⟨rfl,rfl,rfl,rfl,rfl,rfl,rfl,rfl,rfl⟩
set_option maxRecDepth 100000 in
set_option maxHeartbeats 2000000 in
theorem r_sameop (a b : OpL) (A1 A2 : Option Addr) (c1 c2 : Nat) (w : World) (S1 S2 : Nat → Prop) (h1 : Rp.str.slice.R w S1 [.slice A1 a.hashes.length c1] a.hashes) (h2 : Rp.str.slice.R w S2 [.slice A2 b.hashes.length c2] b.hashes) :
 Calls Tryz.prog 104 #[opV a (.slice A1 a.hashes.length c1),opV b (.slice A2 b.hashes.length c2)] w fun x w' => x = .returned (.bool (decide (SameP a b))) ∧ Kp No w w' := by
 have hsm := fun w1 (hk : Kp No w w1) => r_sameS a.size b.size a.hashes b.hashes A1 A2 c1 c2 w1 S1 S2 (Rp.str.slice.keptNo h1 hk) (Rp.str.slice.keptNo h2 hk)
 have HSM := Lib.hid hsm
 clear hsm h1 h2
 obtain ⟨R,hR⟩ : ∃ R,decide (SameP a b) = R := ⟨_,rfl⟩
 rw [hR]
 have HR := Lib.hid hR
 clear hR
 unfold opV SameP at *
 obtain ⟨an,ae,ak,as',ac,aq,anm,asz,ahs⟩ := a
 obtain ⟨bn,be,bk,bs',bc,bq,bnm,bsz,bhs⟩ := b
 simp only at *
 have HK : Hid (Kp No w ((w.alloc (.cells #[.int .i64 an,.int .i64 ae,.int .i64 ak,.int .i64 as',.int .i64 ac,.int .i64 aq,.string anm,.int .i64 asz,.slice A1 ahs.length c1] 36)).alloc (.cells #[.int .i64 bn,.int .i64 be,.int .i64 bk,.int .i64 bs',.int .i64 bc,.int .i64 bq,.string bnm,.int .i64 bsz,.slice A2 bhs.length c2] 36))) := Lib.hid (((Kp.refl _ _).alloc _).alloc _)
 by_cases e1 : an = bn
 case neg =>
  have f : (an == bn) = false := beq_eq_false_iff_ne.2 e1
  have HF : Hid (R = false) := Lib.hid (by rw [← HR.out];exact decide_eq_false (fun h => e1 h.1))
  go_enter Tryz.func104,Tryz.ntmps104
  go_wp2_with fail
  go_ret
  exact ⟨by rw [HF.out];rfl,HK.out⟩
 subst e1
 by_cases e2 : ae = be
 case neg =>
  have f : (ae == be) = false := beq_eq_false_iff_ne.2 e2
  have HF : Hid (R = false) := Lib.hid (by rw [← HR.out];exact decide_eq_false (fun h => e2 h.2.1))
  go_enter Tryz.func104,Tryz.ntmps104
  go_wp2_with fail
  go_ret
  exact ⟨by rw [HF.out];rfl,HK.out⟩
 subst e2
 by_cases e3 : ak = bk
 case neg =>
  have f : (ak == bk) = false := beq_eq_false_iff_ne.2 e3
  have HF : Hid (R = false) := Lib.hid (by rw [← HR.out];exact decide_eq_false (fun h => e3 h.2.2.1))
  go_enter Tryz.func104,Tryz.ntmps104
  go_wp2_with fail
  go_ret
  exact ⟨by rw [HF.out];rfl,HK.out⟩
 subst e3
 by_cases e4 : as' = bs'
 case neg =>
  have f : (as' == bs') = false := beq_eq_false_iff_ne.2 e4
  have HF : Hid (R = false) := Lib.hid (by rw [← HR.out];exact decide_eq_false (fun h => e4 h.2.2.2.1))
  go_enter Tryz.func104,Tryz.ntmps104
  go_wp2_with fail
  go_ret
  exact ⟨by rw [HF.out];rfl,HK.out⟩
 subst e4
 by_cases e5 : ac = bc
 case neg =>
  have f : (ac == bc) = false := beq_eq_false_iff_ne.2 e5
  have HF : Hid (R = false) := Lib.hid (by rw [← HR.out];exact decide_eq_false (fun h => e5 h.2.2.2.2.1))
  go_enter Tryz.func104,Tryz.ntmps104
  go_wp2_with fail
  go_ret
  exact ⟨by rw [HF.out];rfl,HK.out⟩
 subst e5
 by_cases e6 : aq = bq
 case neg =>
  have f : (aq == bq) = false := beq_eq_false_iff_ne.2 e6
  have HF : Hid (R = false) := Lib.hid (by rw [← HR.out];exact decide_eq_false (fun h => e6 h.2.2.2.2.2.1))
  go_enter Tryz.func104,Tryz.ntmps104
  go_wp2_with fail
  go_ret
  exact ⟨by rw [HF.out];rfl,HK.out⟩
 subst e6
 by_cases e7 : anm = bnm
 case neg =>
  have f : (anm.toList == bnm.toList) = false := by rw [bytes_list_beq];exact decide_eq_false e7
  have HF : Hid (R = false) := Lib.hid (by rw [← HR.out];exact decide_eq_false (fun h => e7 h.2.2.2.2.2.2.1))
  go_enter Tryz.func104,Tryz.ntmps104
  go_wp2_with fail
  go_ret
  exact ⟨by rw [HF.out];rfl,HK.out⟩
 subst e7
 obtain ⟨Q,hQ⟩ : ∃ Q,decide (asz = bsz ∧ ahs = bhs) = Q := ⟨_,rfl⟩
 rw [hQ] at HSM
 have HRQ : Hid (R = Q) := Lib.hid (by rw [← HR.out,← hQ];simp)
 clear hQ HR
 go_enter Tryz.func104,Tryz.ntmps104
 go_wp2_with fail
 refine (HSM.out _ HK.out).mono ?_
 rintro x w2 ⟨rfl,hk⟩
 have HK2 := Lib.hid (HK.out.trans' hk)
 clear hk
 go_wp2_with fail
 go_ret
 exact ⟨by rw [HRQ.out];rfl,HK2.out⟩
def sameOps : List OpL → List OpL → Bool
 | [],[] => true
 | a :: l,b :: m => decide (SameP a b) && sameOps l m
 | _,_ => false
theorem sameOps_iff : ∀ {l m : List OpL},sameOps l m = true ↔ l = m
 | [],[] => by simp [sameOps]
 | a :: l,b :: m => by
   unfold sameOps
   rw [Bool.and_eq_true,decide_eq_true_iff,sameP_iff,sameOps_iff,List.cons.injEq]
 | [],b :: m => by simp [sameOps]
 | a :: l,[] => by simp [sameOps]
theorem sameOps_length {l m : List OpL} (h : l.length ≠ m.length) : sameOps l m = false := by
 cases hs : sameOps l m with
 | false => rfl
 | true => exact absurd (congrArg List.length (sameOps_iff.1 hs)) h
set_option maxRecDepth 100000 in
set_option maxHeartbeats 2000000 in
theorem r_sameops (l m : List OpL) (A1 A2 : Option Addr) (c1 c2 : Nat) (w : World) (S1 S2 : Nat → Prop) (h1 : Rp.opl.slice.R w S1 [.slice A1 l.length c1] l) (h2 : Rp.opl.slice.R w S2 [.slice A2 m.length c2] m) :
 Calls Tryz.prog 46 #[.slice A1 l.length c1,.slice A2 m.length c2] w fun x w' => x = .returned (.bool (sameOps l m)) ∧ Kp No w w' := by
 have hll : (l.length : Int) ≤ 9223372036854775807 := by obtain ⟨_,_,_,_,h,_⟩ := h1;unfold maxLen at h;omega
 have hmm : (m.length : Int) ≤ 9223372036854775807 := by obtain ⟨_,_,_,_,h,_⟩ := h2;unfold maxLen at h;omega
 have H1 := Lib.hid h1
 have H2 := Lib.hid h2
 clear h1 h2
 obtain ⟨R,hR⟩ : ∃ R,sameOps l m = R := ⟨_,rfl⟩
 rw [hR]
 have HR := Lib.hid hR
 clear hR
 by_cases hlen : l.length = m.length
 case neg =>
  have f : ((l.length : Int) == (m.length : Int)) = false := beq_eq_false_iff_ne.2 (by omega)
  have HF : Hid (R = false) := Lib.hid (by rw [← HR.out];exact sameOps_length hlen)
  go_enter Tryz.func46,Tryz.ntmps46
  go_wp2_with fail
  go_ret
  exact ⟨by rw [HF.out];rfl,Kp.refl _ _⟩
 have f : ((l.length : Int) != (m.length : Int)) = false := by simp [hlen]
 have hlm := Lib.hid hlen
 clear hlen
 go_enter Tryz.func46,Tryz.ntmps46
 go_wp2_with fail
 go_loopw [5] (fun iv wr => ∃ i : Nat,i ≤ l.length ∧ iv = .int .i64 (i : Int) ∧ Hid (R = sameOps (l.drop i) (m.drop i)) ∧ Hid (Kp No w wr)) (fun iv _ => l.length - (intOf iv).toNat)
 case atStart => exact ⟨0,Nat.zero_le _,rfl,Lib.hid (by rw [← HR.out];rfl),Lib.hid (Kp.refl _ _)⟩
 case round =>
  clear HR
  obtain ⟨i,hi,rfl,HR,HK⟩ := hrel
  by_cases hlt : i < l.length
  · have hli : (i : Int) < (l.length : Int) := by omega
    have hmi : (i : Int) < (m.length : Int) := by rw [← hlm.out];omega
    obtain ⟨a,ha⟩ : ∃ a,l[i]? = some a := ⟨_,List.getElem?_eq_getElem hlt⟩
    obtain ⟨b,hb⟩ : ∃ b,m[i]? = some b := ⟨_,List.getElem?_eq_getElem (by rw [← hlm.out];omega)⟩
    have hR2 := HR.out
    rw [dropC ha,dropC hb,sameOps] at hR2
    obtain ⟨ad1,B1,d1,rfl,_,hc1,_,hh1⟩ := Rp.at_opl (Rp.opl.slice.keptNo H1.out HK.out) ha
    obtain ⟨ad2,B2,d2,rfl,_,hc2,_,hh2⟩ := Rp.at_opl (Rp.opl.slice.keptNo H2.out HK.out) hb
    obtain ⟨y0,y1,y2,y3,y4,y5,y6,y7,y8⟩ := opl_cells hc1
    obtain ⟨z0,z1,z2,z3,z4,z5,z6,z7,z8⟩ := opl_cells hc2
    have hso := fun w2 (hk : Kp No wr w2) => r_sameop a b B1 B2 d1 d2 w2 S1 S2 (Rp.str.slice.keptNo hh1 hk) (Rp.str.slice.keptNo hh2 hk)
    obtain ⟨Q,hQ⟩ : ∃ Q,decide (SameP a b) = Q := ⟨_,rfl⟩
    rw [hQ] at hso hR2
    unfold opV at hso
    have HSO := Lib.hid hso
    have HR2 := Lib.hid hR2
    clear ha hb hR2 hc1 hc2 hh1 hh2 hso hQ HR
    obtain ⟨an,ae,ak,as',ac,aq,anm,asz,ahs⟩ := a
    obtain ⟨bn,be,bk,bs',bc,bq,bnm,bsz,bhs⟩ := b
    simp only at *
    go_wp2_with fail
    refine Reg.wp_region_plan [⟨0,false,[]⟩,⟨1,false,[]⟩,⟨2,false,[]⟩,⟨3,false,[]⟩,⟨4,false,[]⟩,⟨5,false,[]⟩,⟨6,false,[]⟩,⟨7,false,[]⟩,⟨8,true,[]⟩,⟨9,false,[]⟩] rfl (by kernel_rfl) ?_
    repeat (first | (refine Reg.look rfl rfl rfl (by go_simp;rfl) rfl ?_;go_simp) | (refine Reg.skip rfl rfl rfl ?_;go_simp))
    refine Reg.act rfl ?_
    go_wp2_with fail
    refine (HSO.out _ ((Kp.refl No wr).drew)).mono ?_
    rintro x w2 ⟨rfl,hk⟩
    have HK2 := Lib.hid (HK.out.trans' (((Kp.refl No wr).drew).trans' hk))
    clear hk y0 y1 y2 y3 y4 y5 y6 y7 y8 z0 z1 z2 z3 z4 z5 z6 z7 z8
    go_wp2_with fail
    (refine ⟨?anew,?_⟩;case anew => ((repeat (refine Reg.anew_cons rfl rfl (fun _ => by go_simp) ?_));exact Reg.anew_nil))
    repeat (first | (refine Reg.look rfl rfl rfl (by go_simp;rfl) rfl ?_;go_simp) | (refine Reg.skip rfl rfl rfl ?_;go_simp))
    (refine Reg.done ?_;simp only [Exit.then])
    cases Q with
    | true =>
      have HG : Hid (R = sameOps (l.drop (i + 1)) (m.drop (i + 1))) := Lib.hid (by rw [HR2.out];rfl)
      go_wp2_with fail
      go_roundw
      case rel => exact ⟨i + 1,by omega,by go_num,HG,HK2⟩
      case measure => simp [intOf];omega
    | false =>
      have HF : Hid (R = false) := Lib.hid (by rw [HR2.out];rfl)
      go_wp2_with fail
      go_ret
      exact ⟨by rw [HF.out];rfl,HK2.out⟩
  · obtain rfl : i = l.length := by omega
    have HT : Hid (R = true) := Lib.hid (by rw [HR.out,List.drop_length,hlm.out,List.drop_length];rfl)
    go_wp2_with fail
    go_ret
    exact ⟨by rw [HT.out];rfl,HK.out⟩
end
end Go.Proofs.YtjlbacfedfkilaaGreat
