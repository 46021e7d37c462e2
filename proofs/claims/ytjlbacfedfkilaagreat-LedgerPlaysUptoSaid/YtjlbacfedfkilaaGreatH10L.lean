/-
  The reference's sheets: Right.
-/
import Derived.Test.YtjlbacfedfkilaaGreatGC
namespace Go.Proofs.YtjlbacfedfkilaaGreat
open Go.RowKit Go.ChangeShapes Go.WideShapes Go.ChangeAt
theorem okSheet_not {n : Int} {l : List ByteArray} {k : Nat} {x : ByteArray} (h : l[k]? = some x) (hx : ¬ x.size = 32) : okSheet n l = false := by
 unfold okSheet
 rw [Bool.and_eq_false_iff]
 right
 rw [List.all_eq_false]
 exact ⟨x,List.mem_of_getElem? h,by simp [hx]⟩
set_option maxRecDepth 100000 in
set_option maxHeartbeats 1000000 in
theorem r_right (n : Int) (l : List ByteArray) (A : Option Addr) (c : Nat) (w : World) (S : Nat → Prop) (hl : Rp.str.slice.R w S [.slice A l.length c] l) (h0 : -9223372036854775808 ≤ n) (h1 : n < 9223372036854775808) (hll : l.length ≤ 1000000) :
 Calls Tryz.prog 165 #[.agg #[.int .i64 n,.slice A l.length c]] w fun e w' => e = .returned (.bool (okSheet n l)) ∧ Kp No w w' := by
 have HL := Lib.hid hl
 clear hl
 obtain ⟨OK,hOK⟩ : ∃ b,okSheet n l = b := ⟨_,rfl⟩
 rw [hOK]
 have HOK := Lib.hid hOK
 clear hOK
 go_enter Tryz.func165,Tryz.ntmps165
 go_wp2_with fail
 obtain ⟨w1,hw1⟩ : ∃ w1,w.alloc (.cells #[.int .i64 n,.slice A l.length c] 34) = w1 := ⟨_,rfl⟩
 have HB : Hid (Blk w1 w.heap.size 34 [.int .i64 n,.slice A l.length c]) := Lib.hid (by rw [← hw1];exact Blk.new w _ _)
 have HK1 : Hid (Kp No w w1.drew) := Lib.hid (by rw [← hw1];exact ((Kp.refl _ _).alloc _).drew)
 have HL1 := Lib.hid (Rp.str.slice.keptNo HL.out HK1.out)
 rw [hw1]
 clear hw1
 have c0 : w1.cell? ⟨w.heap.size,0,none⟩ = some (.int .i64 n) := HB.out.cell rfl
 have c1 : w1.cell? ⟨w.heap.size,1,none⟩ = some (.slice A l.length c) := HB.out.cell rfl
 by_cases hn0 : n < 0
 · have hf : OK = false := by rw [← HOK.out];unfold okSheet;rw [decide_eq_false (fun h => by omega)];rfl
   subst hf
   refine Reg.wp_region_plan [⟨0,false,[]⟩,⟨1,false,[]⟩,⟨2,false,[]⟩,⟨3,false,[]⟩,⟨4,false,[]⟩,⟨5,false,[]⟩,⟨6,false,[]⟩,⟨7,false,[]⟩,⟨8,false,[]⟩,⟨9,false,[]⟩,⟨10,false,[]⟩,⟨11,false,[]⟩,⟨12,false,[]⟩,⟨13,false,[]⟩,⟨14,true,[9,10,11]⟩,⟨15,false,[]⟩,⟨16,false,[]⟩] rfl (by kernel_rfl) ?_
   repeat (first | (refine Reg.look rfl rfl rfl (by go_simp;rfl) rfl ?_;go_simp) | (refine Reg.skip rfl rfl rfl ?_;go_simp))
   refine Reg.act rfl ?_
   go_wp2_with fail
   (refine ⟨?anew,?_⟩;case anew => ((repeat (refine Reg.anew_cons rfl rfl (fun h => by first | (go_simp;done) | exact Bool.noConfusion (show false = true from h)) ?_));exact Reg.anew_nil))
   repeat (first | (refine Reg.look rfl rfl rfl (by go_simp;rfl) rfl ?_;go_simp) | (refine Reg.skip rfl rfl rfl ?_;go_simp))
   (refine Reg.done ?_;simp only [Exit.then])
   go_wp2_with fail
   go_ret
   exact ⟨rfl,HK1.out⟩
 · by_cases hn1 : 512 < n
   · have hf : OK = false := by rw [← HOK.out];unfold okSheet;rw [decide_eq_false (fun h => by omega)];rfl
     subst hf
     refine Reg.wp_region_plan [⟨0,false,[]⟩,⟨1,false,[]⟩,⟨2,false,[]⟩,⟨3,false,[]⟩,⟨4,false,[]⟩,⟨5,false,[]⟩,⟨6,false,[]⟩,⟨7,false,[]⟩,⟨8,false,[]⟩,⟨9,false,[]⟩,⟨10,false,[]⟩,⟨11,false,[]⟩,⟨12,false,[]⟩,⟨13,false,[]⟩,⟨14,true,[9,10,11]⟩,⟨15,false,[]⟩,⟨16,false,[]⟩] rfl (by kernel_rfl) ?_
     repeat (first | (refine Reg.look rfl rfl rfl (by go_simp;rfl) rfl ?_;go_simp) | (refine Reg.skip rfl rfl rfl ?_;go_simp))
     refine Reg.act rfl ?_
     go_wp2_with fail
     (refine ⟨?anew,?_⟩;case anew => ((repeat (refine Reg.anew_cons rfl rfl (fun h => by first | (go_simp;done) | exact Bool.noConfusion (show false = true from h)) ?_));exact Reg.anew_nil))
     repeat (first | (refine Reg.look rfl rfl rfl (by go_simp;rfl) rfl ?_;go_simp) | (refine Reg.skip rfl rfl rfl ?_;go_simp))
     (refine Reg.done ?_;simp only [Exit.then])
     go_wp2_with fail
     go_ret
     exact ⟨rfl,HK1.out⟩
   · obtain ⟨m,hm⟩ : ∃ m,cnt n = m := ⟨_,rfl⟩
     by_cases heq : (l.length : Int) = m
     · have hall : OK = l.all fun s => s.size == 32 := by rw [← HOK.out];unfold okSheet;rw [decide_eq_true ⟨by omega,by omega,by rw [hm];exact heq⟩];rfl
       have HALL := Lib.hid hall
       have hq : ((l.length : Int) != m) = false := by simp [heq]
       clear heq hall
       refine Reg.wp_region_plan [⟨0,false,[]⟩,⟨1,false,[]⟩,⟨2,false,[]⟩,⟨3,false,[]⟩,⟨4,false,[]⟩,⟨5,false,[]⟩,⟨6,false,[]⟩,⟨7,false,[]⟩,⟨8,false,[]⟩,⟨9,false,[]⟩,⟨10,false,[]⟩,⟨11,false,[]⟩,⟨12,false,[]⟩,⟨13,false,[]⟩,⟨14,true,[9,10,11]⟩,⟨15,false,[]⟩,⟨16,false,[]⟩] rfl (by kernel_rfl) ?_
       repeat (first | (refine Reg.look rfl rfl rfl (by go_simp;rfl) rfl ?_;go_simp) | (refine Reg.skip rfl rfl rfl ?_;go_simp))
       refine Reg.act rfl ?_
       go_wp2_with fail
       refine (r_count n _ h0 h1).mono ?_
       rintro e w2 ⟨rfl,rfl⟩
       rw [hm]
       go_wp2_with fail
       (refine ⟨?anew,?_⟩;case anew => ((repeat (refine Reg.anew_cons rfl rfl (fun _ => by go_simp) ?_));exact Reg.anew_nil))
       repeat (first | (refine Reg.look rfl rfl rfl (by go_simp;rfl) rfl ?_;go_simp) | (refine Reg.skip rfl rfl rfl ?_;go_simp))
       (refine Reg.done ?_;simp only [Exit.then])
       clear hq
       go_wp2_with fail
       go_loop [3] (fun iv => ∃ k : Nat,k ≤ l.length ∧ iv = .int .i64 (k : Int) ∧ Hid (allT l k = true)) (fun iv => l.length - (intOf iv).toNat)
       case atStart => exact ⟨0,Nat.zero_le _,rfl,Lib.hid rfl⟩
       case round =>
        obtain ⟨k,hk,rfl,HT⟩ := hrel
        by_cases hlt : k < l.length
        · obtain ⟨x,hx⟩ : ∃ x,l[k]? = some x := ⟨_,List.getElem?_eq_getElem hlt⟩
          obtain ⟨ad,rfl,_,hcell,_⟩ := Rp.at_str HL1.out hx
          by_cases h32 : x.size = 32
          · have HN : Hid (allT l (k + 1) = true) := Lib.hid (by rw [allT_step hx,HT.out,h32];rfl)
            have hq : ((x.size : Int) != 32) = false := by simp;omega
            clear h32 hx
            go_wp2
            go_round
            case rel => exact ⟨k + 1,by omega,by go_num,HN⟩
            case measure => simp [intOf];omega
          · have hf : OK = false := by rw [← HOK.out];exact okSheet_not hx h32
            have hq : ((x.size : Int) != 32) = true := by simp;omega
            subst hf
            clear h32 hx
            go_wp2
            go_ret
            exact ⟨rfl,HK1.out⟩
        · obtain rfl : k = l.length := by omega
          have hf : OK = true := by rw [HALL.out,← allT_full];exact HT.out
          subst hf
          go_wp2
          go_ret
          exact ⟨rfl,HK1.out⟩
     · have hf : OK = false := by rw [← HOK.out];unfold okSheet;rw [decide_eq_false (fun h => heq (by rw [← hm];exact h.2.2))];rfl
       have hq : ((l.length : Int) != m) = true := by simp [heq]
       subst hf
       clear heq
       refine Reg.wp_region_plan [⟨0,false,[]⟩,⟨1,false,[]⟩,⟨2,false,[]⟩,⟨3,false,[]⟩,⟨4,false,[]⟩,⟨5,false,[]⟩,⟨6,false,[]⟩,⟨7,false,[]⟩,⟨8,false,[]⟩,⟨9,false,[]⟩,⟨10,false,[]⟩,⟨11,false,[]⟩,⟨12,false,[]⟩,⟨13,false,[]⟩,⟨14,true,[9,10,11]⟩,⟨15,false,[]⟩,⟨16,false,[]⟩] rfl (by kernel_rfl) ?_
       repeat (first | (refine Reg.look rfl rfl rfl (by go_simp;rfl) rfl ?_;go_simp) | (refine Reg.skip rfl rfl rfl ?_;go_simp))
       refine Reg.act rfl ?_
       go_wp2_with fail
       refine (r_count n _ h0 h1).mono ?_
       rintro e w2 ⟨rfl,rfl⟩
       rw [hm]
       go_wp2_with fail
       (refine ⟨?anew,?_⟩;case anew => ((repeat (refine Reg.anew_cons rfl rfl (fun _ => by go_simp) ?_));exact Reg.anew_nil))
       repeat (first | (refine Reg.look rfl rfl rfl (by go_simp;rfl) rfl ?_;go_simp) | (refine Reg.skip rfl rfl rfl ?_;go_simp))
       (refine Reg.done ?_;simp only [Exit.then])
       clear hq
       go_wp2_with fail
       go_ret
       exact ⟨rfl,HK1.out⟩
end Go.Proofs.YtjlbacfedfkilaaGreat
