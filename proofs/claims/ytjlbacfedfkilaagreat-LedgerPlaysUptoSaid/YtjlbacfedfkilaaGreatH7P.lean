/-
  The reference's sheets: Pack.
-/
import Derived.Test.YtjlbacfedfkilaaGreatGJ
import Derived.Test.YtjlbacfedfkilaaGreatP2
namespace Go.Proofs.YtjlbacfedfkilaaGreat
open Go.RowKit Go.ChangeShapes Go.WideShapes Go.ChangeAt
set_option maxRecDepth 100000 in
set_option maxHeartbeats 2000000 in
theorem r_packS (n : Int) (l : List ByteArray) (A : Option Addr) (c : Nat) (w : World) (S : Nat → Prop) (hl : Rp.str.slice.R w S [.slice A l.length c] l) (h0 : -9223372036854775808 ≤ n) (h1 : n < 9223372036854775808) (hn : ∀ s ∈ l,s.size ≤ 1048576) (hln : (textsB l).length ≤ 1000000000) (hll : l.length ≤ 1000000) :
 Calls Tryz.prog 173 #[.agg #[.int .i64 n,.slice A l.length c]] w fun e w' => e = .returned (.string (bs (packB n l))) ∧ Kp No w w' := by
 have HL := Lib.hid hl
 have HN := Lib.hid hn
 have hlen1 := numB_length n h0 h1
 have hlen2 := numB_length (l.length : Int) (by omega) (by omega)
 have HL1 := Lib.hid hlen1
 have HL2 := Lib.hid hlen2
 clear hl hn hlen1 hlen2
 go_enter Tryz.func173,Tryz.ntmps173
 go_wp2_with fail
 obtain ⟨w1,hw1⟩ : ∃ w1,w.alloc (.cells #[.int .i64 n,.slice A l.length c] 34) = w1 := ⟨_,rfl⟩
 have HB : Hid (Blk w1 w.heap.size 34 [.int .i64 n,.slice A l.length c]) := Lib.hid (by rw [← hw1];exact Blk.new w _ _)
 have HK1 : Hid (Kp No w w1) := Lib.hid (by rw [← hw1];exact (Kp.refl _ _).alloc _)
 rw [hw1]
 clear hw1
 have c0 : w1.cell? ⟨w.heap.size,0,none⟩ = some (.int .i64 n) := HB.out.cell rfl
 have c1 : w1.cell? ⟨w.heap.size,1,none⟩ = some (.slice A l.length c) := HB.out.cell rfl
 refine Reg.wp_region_plan [⟨0,false,[]⟩,⟨1,false,[]⟩,⟨3,false,[]⟩,⟨4,false,[]⟩,⟨5,false,[]⟩,⟨8,false,[]⟩,⟨9,false,[]⟩,⟨2,true,[3,4,5,8,9]⟩,⟨6,true,[8,9]⟩,⟨7,false,[]⟩,⟨10,true,[7]⟩,⟨11,false,[]⟩,⟨12,false,[]⟩] rfl (by kernel_rfl) ?_
 repeat (first | (refine Reg.look rfl rfl rfl (by go_simp;rfl) rfl ?_;go_simp) | (refine Reg.skip rfl rfl rfl ?_;go_simp))
 refine Reg.act rfl ?_
 go_wp2_with fail
 refine (r_num n w1.drew h0 h1).mono ?_
 rintro e w2 ⟨rfl,hk2⟩
 have HK2 : Hid (Kp No w1 w2) := Lib.hid ((Kp.refl _ _).drew.trans' hk2)
 have d0 : w2.cell? ⟨w.heap.size,0,none⟩ = some (.int .i64 n) := (HB.out.kept HK2.out (fun x => x)).cell rfl
 have d1 : w2.cell? ⟨w.heap.size,1,none⟩ = some (.slice A l.length c) := (HB.out.kept HK2.out (fun x => x)).cell rfl
 clear hk2
 go_wp2_with fail
 (refine ⟨?anew,?_⟩;case anew => ((repeat (refine Reg.anew_cons rfl rfl (fun _ => by go_simp) ?_));exact Reg.anew_nil))
 repeat (first | (refine Reg.look rfl rfl rfl (by go_simp;rfl) rfl ?_;go_simp) | (refine Reg.skip rfl rfl rfl ?_;go_simp))
 refine Reg.act rfl ?_
 go_wp2_with fail
 refine (r_num (l.length : Int) w2 (by omega) (by omega)).mono ?_
 rintro e w3 ⟨rfl,hk3⟩
 have HK3 := Lib.hid (HK2.out.trans' hk3)
 have f0 : w3.cell? ⟨w.heap.size,0,none⟩ = some (.int .i64 n) := (HB.out.kept HK3.out (fun x => x)).cell rfl
 have f1 : w3.cell? ⟨w.heap.size,1,none⟩ = some (.slice A l.length c) := (HB.out.kept HK3.out (fun x => x)).cell rfl
 have hs1 : (bs (numB n)).size ≤ 10 := by rw [bs_size];exact HL1.out
 have hs2 : (bs (numB (l.length : Int))).size ≤ 10 := by rw [bs_size];exact HL2.out
 have hg1 : ¬ 9223372036854775807 < (bs (numB n)).size + (bs (numB (l.length : Int))).size := by omega
 have hcat : bs (numB n) ++ bs (numB (l.length : Int)) = bs (numB n ++ numB (l.length : Int)) := by rw [bs_append]
 have HCAT := Lib.hid hcat
 clear hk3 hcat d0 d1
 obtain ⟨X,hX⟩ : ∃ X,bs (numB n) = X := ⟨_,rfl⟩
 obtain ⟨Y,hY⟩ : ∃ Y,bs (numB (l.length : Int)) = Y := ⟨_,rfl⟩
 rw [hX] at hs1 hg1 HCAT ⊢
 rw [hY] at hs2 hg1 HCAT ⊢
 clear hX hY
 go_wp2_with fail
 (refine ⟨?anew,?_⟩;case anew => ((repeat (refine Reg.anew_cons rfl rfl (fun _ => by go_simp) ?_));exact Reg.anew_nil))
 repeat (first | (refine Reg.look rfl rfl rfl (by go_simp;rfl) rfl ?_;go_simp) | (refine Reg.skip rfl rfl rfl ?_;go_simp))
 refine Reg.act rfl ?_
 go_wp2_with fail
 refine (r_texts l A c w3 S (Rp.str.slice.keptNo HL.out (HK1.out.trans' HK3.out)) HN.out (by omega)).mono ?_
 rintro e w4 ⟨rfl,hk4⟩
 have HK4 := Lib.hid ((HK1.out.trans' HK3.out).trans' hk4)
 have hs3 : (bs (textsB l)).size ≤ 1000000000 := by rw [bs_size];exact hln
 have hcat2 : X ++ Y ++ bs (textsB l) = bs (packB n l) := by rw [HCAT.out,bs_append];rfl
 have HCAT2 := Lib.hid hcat2
 obtain ⟨Z,hZ⟩ : ∃ Z,bs (textsB l) = Z := ⟨_,rfl⟩
 rw [hZ] at hs3 HCAT2 ⊢
 have hg2 : ¬ 9223372036854775807 < X.size + Y.size + Z.size := by omega
 clear hk4 hcat2 hZ
 go_wp2_with fail
 (refine ⟨?anew,?_⟩;case anew => ((repeat (refine Reg.anew_cons rfl rfl (fun _ => by go_simp) ?_));exact Reg.anew_nil))
 repeat (first | (refine Reg.look rfl rfl rfl (by go_simp;rfl) rfl ?_;go_simp) | (refine Reg.skip rfl rfl rfl ?_;go_simp))
 (refine Reg.done ?_;simp only [Exit.then])
 go_wp2
 go_ret
 exact ⟨congrArg (fun b => Ending.returned (.string b)) HCAT2.out,HK4.out⟩
end Go.Proofs.YtjlbacfedfkilaaGreat
