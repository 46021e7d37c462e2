/-
  redoubtlaw12.same: a ledger and the document's that has the same.
-/
import Derived.Test.YtjlbacfedfkilaaGreatRlO
import Derived.Test.YtjlbacfedfkilaaGreatRlN
import Derived.Test.YtjlbacfedfkilaaGreatNedA
import Derived.Test.YtjlbacfedfkilaaGreatLedU
import Derived.Test.YtjlbacfedfkilaaGreatGK
import Derived.Test.YtjlbacfedfkilaaGreatGC
import Derived.Test.YtjlbacfedfkilaaGreatGB
import Derived.Test.YtjlbacfedfkilaaGreatGH
import Derived.Deep.DeepCutAuto
namespace Go.Proofs.YtjlbacfedfkilaaGreat
open Go.RowKit Go.ChangeShapes Go.WideShapes Go.ChangeAt
set_option maxRecDepth 100000 in
set_option maxHeartbeats 20000000 in
theorem h_same (B l r : Nat) (L : LV) (F FR SR : Nat → Prop) (w : World) (h : LAt w l L F) (k : RLAt w r L FR SR) (hok : OkL B L) (hB : B ≤ 800000) (hlo : LostOk L) :
 Calls Tryz.prog 15 #[.pointer (some ⟨l,0,none⟩),.pointer (some ⟨r,0,none⟩)] w fun e w' => e = .returned (.bool true) ∧ Kp No w w' := by
 have hlen := hok.len
 have hlost := hok.lost
 have hHL : ∀ o ∈ L.ops,o.hashes.length ≤ 1000000 := hok.hashes
 have HNAM := Lib.hid (fun w' (hk : Kp No w w') => a_names B l L F w' (h.keptNo hk) hok)
 have HOPS := Lib.hid (fun w' (hk : Kp No w w') => a_ops l L F w' (h.keptNo hk) (by omega) hHL)
 have HLOS := Lib.hid (fun w' (hk : Kp No w w') => a_lost l L F w' (h.keptNo hk) (by omega) hok.hashesLost)
 have HFEN := Lib.hid (fun w' (hk : Kp No w w') => a_fence l L F w' (h.keptNo hk))
 have HHOL := Lib.hid (fun w' (hk : Kp No w w') => a_holder l L F w' (h.keptNo hk))
 have HLAS := Lib.hid (fun w' (hk : Kp No w w') => a_last l L F w' (h.keptNo hk) (by omega))
 have HNEE := Lib.hid (fun w' (hk : Kp No w w') => a_needs B l L F w' (h.keptNo hk) hok)
 have HUSE := Lib.hid (fun w' (hk : Kp No w w') => u_used l L F w' (h.keptNo hk))
 have HSET := Lib.hid (fun w' (hk : Kp No w w') => u_settled l L F w' (h.keptNo hk))
 have HPUT := Lib.hid (fun w' (hk : Kp No w w') => a_puts B l L F w' (h.keptNo hk) hok)
 have HSHE := Lib.hid (fun w' (hk : Kp No w w') nm => a_sheet nm l L F w' (h.keptNo hk) (by have := (hok.sheet nm).1;omega))
 have HPAC := Lib.hid (fun w' (hk : Kp No w w') => l_pack B l L F w' (h.keptNo hk) hok hB hlo)
 have HRHO := Lib.hid (fun w' (hk : Kp No w w') => r_lholder r L FR SR w' (k.keptNo hk) (by omega))
 have HRLA := Lib.hid (fun w' (hk : Kp No w w') => r_llast r L FR SR w' (k.keptNo hk) (by omega))
 have HRNA := Lib.hid (fun w' (hk : Kp No w w') => r_lnames B r L FR SR w' (k.keptNo hk) hok)
 have HRNE := Lib.hid (fun w' (hk : Kp No w w') => r_lneeds B r L FR SR w' (k.keptNo hk) hok)
 have HRUS := Lib.hid (fun w' (hk : Kp No w w') => r_lused B r L FR SR w' (k.keptNo hk) hok)
 have HRPU := Lib.hid (fun w' (hk : Kp No w w') => r_lputs B r L FR SR w' (k.keptNo hk) hok)
 have HRSH := Lib.hid (fun w' (hk : Kp No w w') nm => r_lsheet B nm r L FR SR w' (k.keptNo hk) hok)
 have HRPA := Lib.hid (fun w' (hk : Kp No w w') => r_lpack B r L FR SR w' (k.keptNo hk) hok hB hlo)
 have hSP : sameOps (putsL L) (putsL L) = true := sameOps_iff.2 rfl
 have hSO : sameOps L.ops L.ops = true := sameOps_iff.2 rfl
 have hSL : sameOps L.lost L.lost = true := sameOps_iff.2 rfl
 have HNL : Hid ((namesL L).length ≤ 80 ∧ ∀ s ∈ namesL L,s.size ≤ maxLen) := Lib.hid (by
  obtain ⟨h1,h2⟩ := hok.names
  refine ⟨?_,fun s hs => ?_⟩
  · unfold namesL
    rw [sortedN_length,List.length_map]
    exact h2
  · unfold namesL at hs
    rw [mem_sortedN] at hs
    obtain ⟨p,hp,rfl⟩ := List.mem_map.1 hs
    have := h1 p hp
    unfold maxLen;omega)
 obtain ⟨ov,gv,hin,_⟩ := k
 obtain ⟨A,c,rfl⟩ := hin.ops.shape
 obtain ⟨A',c',rfl⟩ := hin.gone.shape
 have HR := Lib.hid (fun w' (hk : Kp No w w') => (hin.keptNo hk).blk)
 have HRO := Lib.hid (fun w' (hk : Kp No w w') => (hin.keptNo hk).ops.readFrom)
 have HRG := Lib.hid (fun w' (hk : Kp No w w') => (hin.keptNo hk).gone.readFrom)
 obtain ⟨N,hN⟩ : ∃ N,namesL L = N := ⟨_,rfl⟩
 obtain ⟨P,hP⟩ : ∃ P,putsL L = P := ⟨_,rfl⟩
 obtain ⟨O,hO⟩ : ∃ v,L.ops = v := ⟨_,rfl⟩
 obtain ⟨G,hG⟩ : ∃ v,L.lost = v := ⟨_,rfl⟩
 obtain ⟨f,hf⟩ : ∃ v,L.fence = v := ⟨_,rfl⟩
 obtain ⟨st,hst⟩ : ∃ v,L.settled = v := ⟨_,rfl⟩
 obtain ⟨us,hus⟩ : ∃ v,L.fold.used = v := ⟨_,rfl⟩
 obtain ⟨hE,hhE⟩ : ∃ v,L.fold.hE = v := ⟨_,rfl⟩
 obtain ⟨hS,hhS⟩ : ∃ v,L.fold.hS = v := ⟨_,rfl⟩
 obtain ⟨la,hla⟩ : ∃ v,lastL L = v := ⟨_,rfl⟩
 obtain ⟨T,hT⟩ : ∃ v,bs (packL L) = v := ⟨_,rfl⟩
 rw [hN] at HNAM HRNA HNL
 rw [hP] at HPUT HRPU HNEE HRNE hSP
 rw [hO] at HOPS HRO hSO
 rw [hG] at HLOS HRG hSL
 rw [hO,hG,hf,hst] at HR
 rw [hf] at HFEN
 rw [hst] at HSET
 rw [hus] at HUSE HRUS
 rw [hhE,hhS] at HHOL HRHO
 rw [hla] at HLAS HRLA
 rw [hT] at HPAC HRPA
 have HSP := Lib.hid hSP
 have HSO := Lib.hid hSO
 have HSL := Lib.hid hSL
 clear hN hP hO hG hf hst hus hhE hhS hla hT hSP hSO hSL hin h hok hB hlo hlen hlost hHL
 go_enter Tryz.func15,Tryz.ntmps15
 go_wp2_with fail
 refine (HNAM.out w (Kp.refl _ _)).mono ?_
 rintro e w1 ⟨An,cn,rfl,hown,hk⟩
 have HON1 := Lib.hid hown
 have HK1 := Lib.hid hk
 clear hown hk HNAM
 go_upto_region 2 with fail
 go_cut [93] (fun b wx => b = .bool false ∧ Hid (Kp No w wx) ∧ Hid (Own Rp.str wx No w.heap.size 9 (.slice An N.length cn) N))
 case first =>
  obtain ⟨w2,hw2⟩ : ∃ v,w1.drew = v := ⟨_,rfl⟩
  have hk : Kp No w1 w2 := by rw [← hw2];exact (Kp.refl _ _).drew
  have HK2 := Lib.hid (HK1.out.trans' hk)
  have HON2 := Lib.hid (HON1.out.keptNo hk)
  have hkb := HR.out w2 HK2.out
  have k0 : w2.cell? ⟨r,0,none⟩ = some _ := Blk.cell hkb rfl
  have k1 : w2.cell? ⟨r,1,none⟩ = some _ := Blk.cell hkb rfl
  have k2 : w2.cell? ⟨r,2,none⟩ = some _ := Blk.cell hkb rfl
  have k3 : w2.cell? ⟨r,3,none⟩ = some _ := Blk.cell hkb rfl
  clear hkb
  refine Reg.wp_region_plan [⟨0,false,[]⟩,⟨2,false,[]⟩,⟨3,false,[]⟩,⟨4,false,[]⟩,⟨5,false,[]⟩,⟨1,true,[3,4,5]⟩,⟨6,true,[]⟩,⟨7,false,[]⟩,⟨8,false,[]⟩,⟨9,false,[]⟩,⟨11,false,[]⟩,⟨12,false,[]⟩,⟨13,false,[]⟩,⟨14,false,[]⟩,⟨10,true,[12,13,14]⟩,⟨15,true,[]⟩,⟨16,false,[]⟩,⟨17,false,[]⟩,⟨18,false,[]⟩,⟨19,false,[]⟩,⟨21,false,[]⟩,⟨22,false,[]⟩,⟨23,false,[]⟩,⟨24,false,[]⟩,⟨20,true,[22,23,24]⟩,⟨25,false,[]⟩,⟨26,false,[]⟩,⟨27,false,[]⟩,⟨28,false,[]⟩,⟨30,false,[]⟩,⟨29,true,[]⟩,⟨31,true,[]⟩,⟨32,false,[]⟩,⟨33,false,[]⟩,⟨34,false,[]⟩,⟨35,false,[]⟩,⟨37,false,[]⟩,⟨36,true,[]⟩,⟨38,true,[]⟩,⟨39,false,[]⟩,⟨40,false,[]⟩,⟨41,false,[]⟩,⟨42,false,[]⟩,⟨43,false,[]⟩,⟨44,true,[]⟩,⟨45,true,[]⟩,⟨46,false,[]⟩,⟨47,false,[]⟩,⟨48,false,[]⟩,⟨49,false,[]⟩,⟨51,false,[]⟩,⟨50,true,[]⟩,⟨52,true,[]⟩,⟨53,true,[]⟩,⟨54,false,[]⟩,⟨55,false,[]⟩,⟨56,false,[]⟩,⟨57,false,[]⟩,⟨59,false,[]⟩,⟨58,true,[]⟩,⟨60,true,[]⟩,⟨61,false,[]⟩,⟨62,false,[]⟩,⟨63,false,[]⟩,⟨64,false,[]⟩,⟨66,false,[]⟩,⟨67,false,[]⟩,⟨68,false,[]⟩,⟨69,false,[]⟩,⟨65,true,[67,68,69]⟩,⟨70,false,[]⟩,⟨71,false,[]⟩,⟨72,false,[]⟩,⟨73,false,[]⟩,⟨75,false,[]⟩,⟨74,true,[]⟩,⟨76,true,[]⟩,⟨77,true,[]⟩,⟨78,false,[]⟩,⟨79,false,[]⟩] rfl (by kernel_rfl) ?_
  rw [hw2]
  clear hw2 hk HON1
  repeat (first | (refine Reg.look rfl rfl rfl (by go_simp;rfl) rfl ?_;go_simp) | (refine Reg.skip rfl rfl rfl ?_;go_simp))
  refine Reg.act rfl ?_
  clear k0 k1 k2 k3
  go_wp2_with fail
  refine (HOPS.out w2 HK2.out).mono ?_
  rintro e w3 ⟨A3,c3,rfl,hown,hk⟩
  have HK3 := Lib.hid (HK2.out.trans' hk)
  have HON3 := Lib.hid (HON2.out.keptNo hk)
  have hs := r_sameops O O A3 A c3 c w3 _ _ hown.readFrom (HRO.out w3 HK3.out)
  rw [HSO.out] at hs
  have HS := Lib.hid hs
  clear hk hown hs HOPS HRO HON2
  have hkb := HR.out w3 HK3.out
  have k0 : w3.cell? ⟨r,0,none⟩ = some _ := Blk.cell hkb rfl
  have k1 : w3.cell? ⟨r,1,none⟩ = some _ := Blk.cell hkb rfl
  have k2 : w3.cell? ⟨r,2,none⟩ = some _ := Blk.cell hkb rfl
  have k3 : w3.cell? ⟨r,3,none⟩ = some _ := Blk.cell hkb rfl
  clear hkb
  go_wp2_with fail
  (refine ⟨?anew,?_⟩;case anew => ((repeat (refine Reg.anew_cons rfl rfl (fun _ => by go_simp) ?_));exact Reg.anew_nil))
  repeat (first | (refine Reg.look rfl rfl rfl (by go_simp;rfl) rfl ?_;go_simp) | (refine Reg.skip rfl rfl rfl ?_;go_simp))
  refine Reg.act rfl ?_
  clear k0 k1 k2 k3
  go_wp2_with fail
  refine (HS.out).mono ?_
  rintro e w4 ⟨rfl,hk⟩
  have HK4 := Lib.hid (HK3.out.trans' hk)
  have HON4 := Lib.hid (HON3.out.keptNo hk)
  clear hk HS HON3
  have hkb := HR.out w4 HK4.out
  have k0 : w4.cell? ⟨r,0,none⟩ = some _ := Blk.cell hkb rfl
  have k1 : w4.cell? ⟨r,1,none⟩ = some _ := Blk.cell hkb rfl
  have k2 : w4.cell? ⟨r,2,none⟩ = some _ := Blk.cell hkb rfl
  have k3 : w4.cell? ⟨r,3,none⟩ = some _ := Blk.cell hkb rfl
  clear hkb
  go_wp2_with fail
  (refine ⟨?anew,?_⟩;case anew => ((repeat (refine Reg.anew_cons rfl rfl (fun _ => by go_simp) ?_));exact Reg.anew_nil))
  repeat (first | (refine Reg.look rfl rfl rfl (by go_simp;rfl) rfl ?_;go_simp) | (refine Reg.skip rfl rfl rfl ?_;go_simp))
  refine Reg.act rfl ?_
  clear k0 k1 k2 k3
  go_wp2_with fail
  refine (HLOS.out w4 HK4.out).mono ?_
  rintro e w5 ⟨A5,c5,rfl,hown,hk⟩
  have HK5 := Lib.hid (HK4.out.trans' hk)
  have HON5 := Lib.hid (HON4.out.keptNo hk)
  have hs := r_sameops G G A5 A' c5 c' w5 _ _ hown.readFrom (HRG.out w5 HK5.out)
  rw [HSL.out] at hs
  have HS := Lib.hid hs
  clear hk hown hs HLOS HRG HON4
  have hkb := HR.out w5 HK5.out
  have k0 : w5.cell? ⟨r,0,none⟩ = some _ := Blk.cell hkb rfl
  have k1 : w5.cell? ⟨r,1,none⟩ = some _ := Blk.cell hkb rfl
  have k2 : w5.cell? ⟨r,2,none⟩ = some _ := Blk.cell hkb rfl
  have k3 : w5.cell? ⟨r,3,none⟩ = some _ := Blk.cell hkb rfl
  clear hkb
  go_wp2_with fail
  (refine ⟨?anew,?_⟩;case anew => ((repeat (refine Reg.anew_cons rfl rfl (fun _ => by go_simp) ?_));exact Reg.anew_nil))
  repeat (first | (refine Reg.look rfl rfl rfl (by go_simp;rfl) rfl ?_;go_simp) | (refine Reg.skip rfl rfl rfl ?_;go_simp))
  refine Reg.act rfl ?_
  clear k0 k1 k2 k3
  go_wp2_with fail
  refine (HS.out).mono ?_
  rintro e w6 ⟨rfl,hk⟩
  have HK6 := Lib.hid (HK5.out.trans' hk)
  have HON6 := Lib.hid (HON5.out.keptNo hk)
  clear hk HS HON5
  have hkb := HR.out w6 HK6.out
  have k0 : w6.cell? ⟨r,0,none⟩ = some _ := Blk.cell hkb rfl
  have k1 : w6.cell? ⟨r,1,none⟩ = some _ := Blk.cell hkb rfl
  have k2 : w6.cell? ⟨r,2,none⟩ = some _ := Blk.cell hkb rfl
  have k3 : w6.cell? ⟨r,3,none⟩ = some _ := Blk.cell hkb rfl
  clear hkb
  go_wp2_with fail
  (refine ⟨?anew,?_⟩;case anew => ((repeat (refine Reg.anew_cons rfl rfl (fun _ => by go_simp) ?_));exact Reg.anew_nil))
  repeat (first | (refine Reg.look rfl rfl rfl (by go_simp;rfl) rfl ?_;go_simp) | (refine Reg.skip rfl rfl rfl ?_;go_simp))
  refine Reg.act rfl ?_
  clear k0 k1 k2 k3
  go_wp2_with fail
  refine (HFEN.out w6 HK6.out).mono ?_
  rintro e w7 ⟨rfl,hw⟩
  have hk : Kp No w6 w7 := by rw [hw];exact Kp.refl _ _
  have HK7 := Lib.hid (HK6.out.trans' hk)
  have HON7 := Lib.hid (HON6.out.keptNo hk)
  clear hw hk HFEN HON6
  have hkb := HR.out w7 HK7.out
  have k0 : w7.cell? ⟨r,0,none⟩ = some _ := Blk.cell hkb rfl
  have k1 : w7.cell? ⟨r,1,none⟩ = some _ := Blk.cell hkb rfl
  have k2 : w7.cell? ⟨r,2,none⟩ = some _ := Blk.cell hkb rfl
  have k3 : w7.cell? ⟨r,3,none⟩ = some _ := Blk.cell hkb rfl
  clear hkb
  go_wp2_with fail
  (refine ⟨?anew,?_⟩;case anew => ((repeat (refine Reg.anew_cons rfl rfl (fun _ => by go_simp) ?_));exact Reg.anew_nil))
  repeat (first | (refine Reg.look rfl rfl rfl (by go_simp;rfl) rfl ?_;go_simp) | (refine Reg.skip rfl rfl rfl ?_;go_simp))
  refine Reg.act rfl ?_
  clear k0 k1 k2 k3
  go_wp2_with fail
  refine (HHOL.out w7 HK7.out).mono ?_
  rintro e w8 ⟨rfl,hk⟩
  have HK8 := Lib.hid (HK7.out.trans' hk)
  have HON8 := Lib.hid (HON7.out.keptNo hk)
  clear hk HHOL HON7
  have hkb := HR.out w8 HK8.out
  have k0 : w8.cell? ⟨r,0,none⟩ = some _ := Blk.cell hkb rfl
  have k1 : w8.cell? ⟨r,1,none⟩ = some _ := Blk.cell hkb rfl
  have k2 : w8.cell? ⟨r,2,none⟩ = some _ := Blk.cell hkb rfl
  have k3 : w8.cell? ⟨r,3,none⟩ = some _ := Blk.cell hkb rfl
  clear hkb
  go_wp2_with fail
  (refine ⟨?anew,?_⟩;case anew => ((repeat (refine Reg.anew_cons rfl rfl (fun _ => by go_simp) ?_));exact Reg.anew_nil))
  repeat (first | (refine Reg.look rfl rfl rfl (by go_simp;rfl) rfl ?_;go_simp) | (refine Reg.skip rfl rfl rfl ?_;go_simp))
  refine Reg.act rfl ?_
  clear k0 k1 k2 k3
  go_wp2_with fail
  refine (HRHO.out w8 HK8.out).mono ?_
  rintro e w9 ⟨rfl,hk⟩
  have HK9 := Lib.hid (HK8.out.trans' hk)
  have HON9 := Lib.hid (HON8.out.keptNo hk)
  clear hk HRHO HON8
  have hkb := HR.out w9 HK9.out
  have k0 : w9.cell? ⟨r,0,none⟩ = some _ := Blk.cell hkb rfl
  have k1 : w9.cell? ⟨r,1,none⟩ = some _ := Blk.cell hkb rfl
  have k2 : w9.cell? ⟨r,2,none⟩ = some _ := Blk.cell hkb rfl
  have k3 : w9.cell? ⟨r,3,none⟩ = some _ := Blk.cell hkb rfl
  clear hkb
  go_wp2_with fail
  (refine ⟨?anew,?_⟩;case anew => ((repeat (refine Reg.anew_cons rfl rfl (fun _ => by go_simp) ?_));exact Reg.anew_nil))
  repeat (first | (refine Reg.look rfl rfl rfl (by go_simp;rfl) rfl ?_;go_simp) | (refine Reg.skip rfl rfl rfl ?_;go_simp))
  refine Reg.act rfl ?_
  clear k0 k1 k2 k3
  go_wp2_with fail
  refine (HLAS.out w9 HK9.out).mono ?_
  rintro e w10 ⟨rfl,hk⟩
  have HK10 := Lib.hid (HK9.out.trans' hk)
  have HON10 := Lib.hid (HON9.out.keptNo hk)
  clear hk HLAS HON9
  have hkb := HR.out w10 HK10.out
  have k0 : w10.cell? ⟨r,0,none⟩ = some _ := Blk.cell hkb rfl
  have k1 : w10.cell? ⟨r,1,none⟩ = some _ := Blk.cell hkb rfl
  have k2 : w10.cell? ⟨r,2,none⟩ = some _ := Blk.cell hkb rfl
  have k3 : w10.cell? ⟨r,3,none⟩ = some _ := Blk.cell hkb rfl
  clear hkb
  go_wp2_with fail
  (refine ⟨?anew,?_⟩;case anew => ((repeat (refine Reg.anew_cons rfl rfl (fun _ => by go_simp) ?_));exact Reg.anew_nil))
  repeat (first | (refine Reg.look rfl rfl rfl (by go_simp;rfl) rfl ?_;go_simp) | (refine Reg.skip rfl rfl rfl ?_;go_simp))
  refine Reg.act rfl ?_
  clear k0 k1 k2 k3
  go_wp2_with fail
  refine (HRLA.out w10 HK10.out).mono ?_
  rintro e w11 ⟨rfl,hk⟩
  have HK11 := Lib.hid (HK10.out.trans' hk)
  have HON11 := Lib.hid (HON10.out.keptNo hk)
  clear hk HRLA HON10
  have hkb := HR.out w11 HK11.out
  have k0 : w11.cell? ⟨r,0,none⟩ = some _ := Blk.cell hkb rfl
  have k1 : w11.cell? ⟨r,1,none⟩ = some _ := Blk.cell hkb rfl
  have k2 : w11.cell? ⟨r,2,none⟩ = some _ := Blk.cell hkb rfl
  have k3 : w11.cell? ⟨r,3,none⟩ = some _ := Blk.cell hkb rfl
  clear hkb
  go_wp2_with fail
  (refine ⟨?anew,?_⟩;case anew => ((repeat (refine Reg.anew_cons rfl rfl (fun _ => by go_simp) ?_));exact Reg.anew_nil))
  repeat (first | (refine Reg.look rfl rfl rfl (by go_simp;rfl) rfl ?_;go_simp) | (refine Reg.skip rfl rfl rfl ?_;go_simp))
  refine Reg.act rfl ?_
  clear k0 k1 k2 k3
  go_wp2_with fail
  refine (HRNA.out w11 HK11.out).mono ?_
  rintro e w12 ⟨ov12,rfl,hov,hk⟩
  have HK12 := Lib.hid (HK11.out.trans' hk)
  have HON12 := Lib.hid (HON11.out.keptNo hk)
  obtain ⟨A12,c12,rfl,hrd⟩ := hov.read
  have hs := r_same N N An A12 cn c12 w12 _ _ HON12.out.readFrom hrd
  rw [decide_eq_true (rfl : N = N)] at hs
  have HS := Lib.hid hs
  clear hk hov hrd hs HRNA HON11
  have hkb := HR.out w12 HK12.out
  have k0 : w12.cell? ⟨r,0,none⟩ = some _ := Blk.cell hkb rfl
  have k1 : w12.cell? ⟨r,1,none⟩ = some _ := Blk.cell hkb rfl
  have k2 : w12.cell? ⟨r,2,none⟩ = some _ := Blk.cell hkb rfl
  have k3 : w12.cell? ⟨r,3,none⟩ = some _ := Blk.cell hkb rfl
  clear hkb
  go_wp2_with fail
  (refine ⟨?anew,?_⟩;case anew => ((repeat (refine Reg.anew_cons rfl rfl (fun _ => by go_simp) ?_));exact Reg.anew_nil))
  repeat (first | (refine Reg.look rfl rfl rfl (by go_simp;rfl) rfl ?_;go_simp) | (refine Reg.skip rfl rfl rfl ?_;go_simp))
  refine Reg.act rfl ?_
  clear k0 k1 k2 k3
  go_wp2_with fail
  refine HS.out.mono ?_
  rintro e w13 ⟨rfl,q13,hw⟩
  have hk : Kp No w12 w13 := by rw [hw];exact (Kp.refl _ _).drewN _
  have HK13 := Lib.hid (HK12.out.trans' hk)
  have HON13 := Lib.hid (HON12.out.keptNo hk)
  clear hw hk HS HON12
  have hkb := HR.out w13 HK13.out
  have k0 : w13.cell? ⟨r,0,none⟩ = some _ := Blk.cell hkb rfl
  have k1 : w13.cell? ⟨r,1,none⟩ = some _ := Blk.cell hkb rfl
  have k2 : w13.cell? ⟨r,2,none⟩ = some _ := Blk.cell hkb rfl
  have k3 : w13.cell? ⟨r,3,none⟩ = some _ := Blk.cell hkb rfl
  clear hkb
  go_wp2_with fail
  (refine ⟨?anew,?_⟩;case anew => ((repeat (refine Reg.anew_cons rfl rfl (fun _ => by go_simp) ?_));exact Reg.anew_nil))
  repeat (first | (refine Reg.look rfl rfl rfl (by go_simp;rfl) rfl ?_;go_simp) | (refine Reg.skip rfl rfl rfl ?_;go_simp))
  refine Reg.act rfl ?_
  clear k0 k1 k2 k3
  go_wp2_with fail
  refine (HNEE.out w13 HK13.out).mono ?_
  rintro e w14 ⟨A14,c14,N1,rfl,hn1,_,hrd,hk⟩
  have HK14 := Lib.hid (HK13.out.trans' hk)
  have HON14 := Lib.hid (HON13.out.keptNo hk)
  have HR14 := Lib.hid hrd
  have HN1 := Lib.hid hn1
  clear hk hrd hn1 HNEE HON13
  have hkb := HR.out w14 HK14.out
  have k0 : w14.cell? ⟨r,0,none⟩ = some _ := Blk.cell hkb rfl
  have k1 : w14.cell? ⟨r,1,none⟩ = some _ := Blk.cell hkb rfl
  have k2 : w14.cell? ⟨r,2,none⟩ = some _ := Blk.cell hkb rfl
  have k3 : w14.cell? ⟨r,3,none⟩ = some _ := Blk.cell hkb rfl
  clear hkb
  go_wp2_with fail
  (refine ⟨?anew,?_⟩;case anew => ((repeat (refine Reg.anew_cons rfl rfl (fun _ => by go_simp) ?_));exact Reg.anew_nil))
  repeat (first | (refine Reg.look rfl rfl rfl (by go_simp;rfl) rfl ?_;go_simp) | (refine Reg.skip rfl rfl rfl ?_;go_simp))
  refine Reg.act rfl ?_
  clear k0 k1 k2 k3
  go_wp2_with fail
  refine (HRNE.out w14 HK14.out).mono ?_
  rintro e w15 ⟨ov15,N2,rfl,hn2,hov,_,hk⟩
  have HK15 := Lib.hid (HK14.out.trans' hk)
  have HON15 := Lib.hid (HON14.out.keptNo hk)
  obtain ⟨A15,c15,rfl,hrd⟩ := hov.read
  have hnn : N1 = N2 := HN1.out.same hn2
  subst hnn
  have hs := r_same N1 N1 A14 A15 c14 c15 w15 _ _ (Rp.str.slice.keptNo HR14.out hk) hrd
  rw [decide_eq_true (rfl : N1 = N1)] at hs
  have HS := Lib.hid hs
  clear hk hov hrd hs hn2 HRNE HN1 HR14 HON14
  have hkb := HR.out w15 HK15.out
  have k0 : w15.cell? ⟨r,0,none⟩ = some _ := Blk.cell hkb rfl
  have k1 : w15.cell? ⟨r,1,none⟩ = some _ := Blk.cell hkb rfl
  have k2 : w15.cell? ⟨r,2,none⟩ = some _ := Blk.cell hkb rfl
  have k3 : w15.cell? ⟨r,3,none⟩ = some _ := Blk.cell hkb rfl
  clear hkb
  go_wp2_with fail
  (refine ⟨?anew,?_⟩;case anew => ((repeat (refine Reg.anew_cons rfl rfl (fun _ => by go_simp) ?_));exact Reg.anew_nil))
  repeat (first | (refine Reg.look rfl rfl rfl (by go_simp;rfl) rfl ?_;go_simp) | (refine Reg.skip rfl rfl rfl ?_;go_simp))
  refine Reg.act rfl ?_
  clear k0 k1 k2 k3
  go_wp2_with fail
  refine HS.out.mono ?_
  rintro e w16 ⟨rfl,q16,hw⟩
  have hk : Kp No w15 w16 := by rw [hw];exact (Kp.refl _ _).drewN _
  have HK16 := Lib.hid (HK15.out.trans' hk)
  have HON16 := Lib.hid (HON15.out.keptNo hk)
  clear hw hk HS HON15
  have hkb := HR.out w16 HK16.out
  have k0 : w16.cell? ⟨r,0,none⟩ = some _ := Blk.cell hkb rfl
  have k1 : w16.cell? ⟨r,1,none⟩ = some _ := Blk.cell hkb rfl
  have k2 : w16.cell? ⟨r,2,none⟩ = some _ := Blk.cell hkb rfl
  have k3 : w16.cell? ⟨r,3,none⟩ = some _ := Blk.cell hkb rfl
  clear hkb
  go_wp2_with fail
  (refine ⟨?anew,?_⟩;case anew => ((repeat (refine Reg.anew_cons rfl rfl (fun _ => by go_simp) ?_));exact Reg.anew_nil))
  repeat (first | (refine Reg.look rfl rfl rfl (by go_simp;rfl) rfl ?_;go_simp) | (refine Reg.skip rfl rfl rfl ?_;go_simp))
  refine Reg.act rfl ?_
  clear k0 k1 k2 k3
  go_wp2_with fail
  refine (HUSE.out w16 HK16.out).mono ?_
  rintro e w17 ⟨rfl,hw⟩
  have hk : Kp No w16 w17 := by rw [hw];exact Kp.refl _ _
  have HK17 := Lib.hid (HK16.out.trans' hk)
  have HON17 := Lib.hid (HON16.out.keptNo hk)
  clear hw hk HUSE HON16
  have hkb := HR.out w17 HK17.out
  have k0 : w17.cell? ⟨r,0,none⟩ = some _ := Blk.cell hkb rfl
  have k1 : w17.cell? ⟨r,1,none⟩ = some _ := Blk.cell hkb rfl
  have k2 : w17.cell? ⟨r,2,none⟩ = some _ := Blk.cell hkb rfl
  have k3 : w17.cell? ⟨r,3,none⟩ = some _ := Blk.cell hkb rfl
  clear hkb
  go_wp2_with fail
  (refine ⟨?anew,?_⟩;case anew => ((repeat (refine Reg.anew_cons rfl rfl (fun _ => by go_simp) ?_));exact Reg.anew_nil))
  repeat (first | (refine Reg.look rfl rfl rfl (by go_simp;rfl) rfl ?_;go_simp) | (refine Reg.skip rfl rfl rfl ?_;go_simp))
  refine Reg.act rfl ?_
  clear k0 k1 k2 k3
  go_wp2_with fail
  refine (HRUS.out w17 HK17.out).mono ?_
  rintro e w18 ⟨rfl,hk⟩
  have HK18 := Lib.hid (HK17.out.trans' hk)
  have HON18 := Lib.hid (HON17.out.keptNo hk)
  clear hk HRUS HON17
  have hkb := HR.out w18 HK18.out
  have k0 : w18.cell? ⟨r,0,none⟩ = some _ := Blk.cell hkb rfl
  have k1 : w18.cell? ⟨r,1,none⟩ = some _ := Blk.cell hkb rfl
  have k2 : w18.cell? ⟨r,2,none⟩ = some _ := Blk.cell hkb rfl
  have k3 : w18.cell? ⟨r,3,none⟩ = some _ := Blk.cell hkb rfl
  clear hkb
  go_wp2_with fail
  (refine ⟨?anew,?_⟩;case anew => ((repeat (refine Reg.anew_cons rfl rfl (fun _ => by go_simp) ?_));exact Reg.anew_nil))
  repeat (first | (refine Reg.look rfl rfl rfl (by go_simp;rfl) rfl ?_;go_simp) | (refine Reg.skip rfl rfl rfl ?_;go_simp))
  refine Reg.act rfl ?_
  clear k0 k1 k2 k3
  go_wp2_with fail
  refine (HSET.out w18 HK18.out).mono ?_
  rintro e w19 ⟨rfl,hw⟩
  have hk : Kp No w18 w19 := by rw [hw];exact Kp.refl _ _
  have HK19 := Lib.hid (HK18.out.trans' hk)
  have HON19 := Lib.hid (HON18.out.keptNo hk)
  clear hw hk HSET HON18
  have hkb := HR.out w19 HK19.out
  have k0 : w19.cell? ⟨r,0,none⟩ = some _ := Blk.cell hkb rfl
  have k1 : w19.cell? ⟨r,1,none⟩ = some _ := Blk.cell hkb rfl
  have k2 : w19.cell? ⟨r,2,none⟩ = some _ := Blk.cell hkb rfl
  have k3 : w19.cell? ⟨r,3,none⟩ = some _ := Blk.cell hkb rfl
  clear hkb
  go_wp2_with fail
  (refine ⟨?anew,?_⟩;case anew => ((repeat (refine Reg.anew_cons rfl rfl (fun _ => by go_simp) ?_));exact Reg.anew_nil))
  repeat (first | (refine Reg.look rfl rfl rfl (by go_simp;rfl) rfl ?_;go_simp) | (refine Reg.skip rfl rfl rfl ?_;go_simp))
  refine Reg.act rfl ?_
  clear k0 k1 k2 k3
  go_wp2_with fail
  refine (HPUT.out w19 HK19.out).mono ?_
  rintro e w20 ⟨A20,c20,rfl,hown,hk⟩
  have HK20 := Lib.hid (HK19.out.trans' hk)
  have HON20 := Lib.hid (HON19.out.keptNo hk)
  have HR20 := Lib.hid hown.readFrom
  clear hk hown HPUT HON19
  have hkb := HR.out w20 HK20.out
  have k0 : w20.cell? ⟨r,0,none⟩ = some _ := Blk.cell hkb rfl
  have k1 : w20.cell? ⟨r,1,none⟩ = some _ := Blk.cell hkb rfl
  have k2 : w20.cell? ⟨r,2,none⟩ = some _ := Blk.cell hkb rfl
  have k3 : w20.cell? ⟨r,3,none⟩ = some _ := Blk.cell hkb rfl
  clear hkb
  go_wp2_with fail
  (refine ⟨?anew,?_⟩;case anew => ((repeat (refine Reg.anew_cons rfl rfl (fun _ => by go_simp) ?_));exact Reg.anew_nil))
  repeat (first | (refine Reg.look rfl rfl rfl (by go_simp;rfl) rfl ?_;go_simp) | (refine Reg.skip rfl rfl rfl ?_;go_simp))
  refine Reg.act rfl ?_
  clear k0 k1 k2 k3
  go_wp2_with fail
  refine (HRPU.out w20 HK20.out).mono ?_
  rintro e w21 ⟨A21,c21,rfl,hown,hk⟩
  have HK21 := Lib.hid (HK20.out.trans' hk)
  have HON21 := Lib.hid (HON20.out.keptNo hk)
  have hs := r_sameops P P A20 A21 c20 c21 w21 _ _ (Rp.opl.slice.keptNo HR20.out hk) hown.readFrom
  rw [HSP.out] at hs
  have HS := Lib.hid hs
  clear hk hown hs HRPU HR20 HON20
  have hkb := HR.out w21 HK21.out
  have k0 : w21.cell? ⟨r,0,none⟩ = some _ := Blk.cell hkb rfl
  have k1 : w21.cell? ⟨r,1,none⟩ = some _ := Blk.cell hkb rfl
  have k2 : w21.cell? ⟨r,2,none⟩ = some _ := Blk.cell hkb rfl
  have k3 : w21.cell? ⟨r,3,none⟩ = some _ := Blk.cell hkb rfl
  clear hkb
  go_wp2_with fail
  (refine ⟨?anew,?_⟩;case anew => ((repeat (refine Reg.anew_cons rfl rfl (fun _ => by go_simp) ?_));exact Reg.anew_nil))
  repeat (first | (refine Reg.look rfl rfl rfl (by go_simp;rfl) rfl ?_;go_simp) | (refine Reg.skip rfl rfl rfl ?_;go_simp))
  refine Reg.act rfl ?_
  clear k0 k1 k2 k3
  go_wp2_with fail
  refine (HS.out).mono ?_
  rintro e w22 ⟨rfl,hk⟩
  have HK22 := Lib.hid (HK21.out.trans' hk)
  have HON22 := Lib.hid (HON21.out.keptNo hk)
  clear hk HS HON21
  have hkb := HR.out w22 HK22.out
  have k0 : w22.cell? ⟨r,0,none⟩ = some _ := Blk.cell hkb rfl
  have k1 : w22.cell? ⟨r,1,none⟩ = some _ := Blk.cell hkb rfl
  have k2 : w22.cell? ⟨r,2,none⟩ = some _ := Blk.cell hkb rfl
  have k3 : w22.cell? ⟨r,3,none⟩ = some _ := Blk.cell hkb rfl
  clear hkb
  go_wp2_with fail
  (refine ⟨?anew,?_⟩;case anew => ((repeat (refine Reg.anew_cons rfl rfl (fun _ => by go_simp) ?_));exact Reg.anew_nil))
  repeat (first | (refine Reg.look rfl rfl rfl (by go_simp;rfl) rfl ?_;go_simp) | (refine Reg.skip rfl rfl rfl ?_;go_simp))
  clear k0 k1 k2 k3
  (refine Reg.done ?_;simp only [Exit.then])
  go_wp2_with fail
  go_meet
  exact ⟨rfl,HK22,HON22⟩
 case rest =>
  obtain ⟨rfl,HKC,HOC⟩ := hcut
  obtain ⟨w2,rfl⟩ : ∃ v,v = wc := ⟨_,rfl⟩
  have HLB : Hid (Rp.str.slice.R (w2.alloc (.cells #[.string { data := #[98] }] 9)) (fun k => w2.heap.size ≤ k) [.slice (some ⟨w2.heap.size,0,none⟩) 1 1] [{ data := #[98] }]) := Lib.hid (by
   refine ⟨_,_,rfl,Nat.le_refl _,by unfold maxLen;simp,fun _ => ⟨_,rfl,Nat.le_refl _,fun i a hi => ?_⟩⟩
   obtain rfl : i = 0 := by have := (List.getElem?_eq_some_iff.1 hi).1;simp at this;exact this
   injection hi with hi
   subst hi
   refine ⟨[.string { data := #[98] }],fun j u hu => ?_,rfl,by decide⟩
   rw [Addr.add_lit,Addr.add_lit]
   have h2 := (Blk.new w2 [.string { data := #[98] }] 9).cell hu
   simpa using h2)
  have HOB : Hid (Own Rp.str (w2.alloc (.cells #[.string { data := #[98] }] 9)) (fun k => w2.heap.size ≤ k) w.heap.size 9 (.slice An N.length cn) N) := Lib.hid ((HOC.out.keptNo ((Kp.refl _ _).alloc _)).str_any _)
  have HSB : Hid (w.heap.size ≤ (w2.alloc (.cells #[.string { data := #[98] }] 9)).heap.size) := Lib.hid ((HKC.out.alloc (.cells #[.string { data := #[98] }] 9)).size)
  have HKB : Hid (Kp No w (w2.alloc (.cells #[.string { data := #[98] }] 9))) := Lib.hid (HKC.out.alloc _)
  have hnl := HNL.out.1
  go_wp2_with (at_builtin;refine wpList_append_rp (E := Rp.str) rfl _ (.tmp 94) (.tmp 95) 32 rfl w.heap.size 9 16 el_strL (fun k => w2.heap.size ≤ k) (.slice An N.length cn) N rfl HOB.out (some ⟨w2.heap.size,0,none⟩) 1 (fun k => w2.heap.size ≤ k) [{ data := #[98] }] rfl HLB.out Rp.str_one (by simp [maxLen];omega) (by simp;omega) HSB.out (fun _ h => h) (fun k hk e => by have := (HOC.out.lt k hk).2;omega) ?_)
  intro v3 w3 hown3 hg3 _
  have hk3 : Kp No w w3 := HKB.out.grown hg3 (fun k hk hlt => by have := (HOC.out.lt k hk).1;omega)
  obtain ⟨A3,c3,rfl⟩ := hown3.shape
  obtain ⟨NB,hNB⟩ : ∃ NB,N ++ [({ data := #[98] } : ByteArray)] = NB := ⟨_,rfl⟩
  have HNBL : Hid (NB.length ≤ 81 ∧ ∀ s ∈ NB,s.size ≤ maxLen) := Lib.hid (by
   rw [← hNB]
   refine ⟨by rw [List.length_append,List.length_singleton];omega,fun s hs => ?_⟩
   rcases List.mem_append.1 hs with hs | hs
   · exact HNL.out.2 s hs
   · rw [List.mem_singleton.1 hs];decide)
  rw [hNB] at hown3 ⊢
  have HRN := Lib.hid hown3.readFrom
  have HK3 := Lib.hid hk3
  have hnbl : (NB.length : Int) ≤ 81 := by have := HNBL.out.1;omega
  clear hown3 hg3 hk3 hNB HLB HOB HSB HKB HOC HKC hnl
  go_wp2_with fail
  go_loopw [98] (fun iv wr => ∃ i : Nat,i ≤ NB.length ∧ iv = .int .i64 (i : Int) ∧ Hid (Kp No w wr) ∧ Hid (Kp No w3 wr)) (fun iv _ => NB.length - (intOf iv).toNat)
  case atStart => exact ⟨0,Nat.zero_le _,rfl,HK3,Lib.hid (Kp.refl _ _)⟩
  case round =>
   clear HK3
   obtain ⟨i,hi,rfl,HK,HK3⟩ := hrel
   by_cases hlt : i < NB.length
   case neg =>
    obtain rfl : i = NB.length := by omega
    have hT : (T.toList == T.toList) = true := beq_self_eq_true _
    clear hi hlt
    go_wp2_with fail
    refine (HPAC.out wr HK.out).mono ?_
    rintro e w4 ⟨rfl,hk⟩
    have HK4 := Lib.hid (HK.out.trans' hk)
    clear hk
    go_wp2_with fail
    refine (HRPA.out w4 HK4.out).mono ?_
    rintro e w5 ⟨rfl,hk⟩
    have HK5 := Lib.hid (HK4.out.trans' hk)
    clear hk
    go_wp2_with fail
    go_ret
    exact ⟨rfl,HK5.out⟩
   case pos =>
    have hil : (i : Int) < (NB.length : Int) := by omega
    have hi0 : (0 : Int) ≤ (i : Int) := by omega
    obtain ⟨nm,hx⟩ : ∃ x,NB[i]? = some x := ⟨_,List.getElem?_eq_getElem hlt⟩
    obtain ⟨ado,rfl,_,hcx,_⟩ := Rp.at_str (Rp.str.slice.keptNo HRN.out HK3.out) hx
    have HS1 := Lib.hid (HSHE.out wr HK.out nm)
    have HS2 := Lib.hid (fun w' hk => HRSH.out w' hk nm)
    obtain ⟨X,hX⟩ : ∃ X,(mget nm L.fold.live).isSome = X := ⟨_,rfl⟩
    obtain ⟨sz,hsz⟩ : ∃ v,(sheetOf nm L).1 = v := ⟨_,rfl⟩
    obtain ⟨hh,hhh⟩ : ∃ v,(sheetOf nm L).2 = v := ⟨_,rfl⟩
    rw [hX,hsz,hhh] at HS1 HS2
    have hXX : (X != X) = false := bne_self_eq_false X
    clear hX hsz hhh hx
    go_wp2_with fail
    refine HS1.out.mono ?_
    rintro e w4 ⟨A4,c4,rfl,hrd4,hk4⟩
    obtain ⟨x,hx⟩ : ∃ v,w4.heap.size = v := ⟨_,rfl⟩
    obtain ⟨w5,hw5⟩ : ∃ v,w4.alloc (.cells #[.int .i64 sz,.slice A4 hh.length c4] 34) = v := ⟨_,rfl⟩
    have hk5 : Kp No w4 w5 := by rw [← hw5];exact (Kp.refl _ _).alloc _
    have HB5 : Hid (Blk w5 x 34 [.int .i64 sz,.slice A4 hh.length c4]) := Lib.hid (by rw [← hw5,← hx];exact Blk.new w4 _ _)
    have HR5 := Lib.hid (Rp.str.slice.keptNo hrd4 hk5)
    have HK5 := Lib.hid ((HK.out.trans' hk4).trans' hk5)
    have HK35 := Lib.hid ((HK3.out.trans' hk4).trans' hk5)
    clear hrd4 hk4 hk5 hcx HS1
    go_upto_region 8 with fail
    try rw [hw5]
    try rw [hx]
    clear hw5 hx
    go_wp2_with fail
    refine (HS2.out w5 HK5.out).mono ?_
    rintro e w6 ⟨A6,c6,rfl,⟨S6,_,hrd6⟩,hk6⟩
    obtain ⟨y,hy⟩ : ∃ v,w6.heap.size = v := ⟨_,rfl⟩
    obtain ⟨w7,hw7⟩ : ∃ v,w6.alloc (.cells #[.int .i64 sz,.slice A6 hh.length c6] 34) = v := ⟨_,rfl⟩
    have hk7 : Kp No w6 w7 := by rw [← hw7];exact (Kp.refl _ _).alloc _
    have HB7 : Hid (Blk w7 y 34 [.int .i64 sz,.slice A6 hh.length c6]) := Lib.hid (by rw [← hw7,← hy];exact Blk.new w6 _ _)
    have HBX := Lib.hid ((HB5.out.kept hk6 (fun z => z)).kept hk7 (fun z => z))
    have hsm := r_sameS sz sz hh hh A4 A6 c4 c6 w7 _ _ (Rp.str.slice.keptNo (Rp.str.slice.keptNo HR5.out hk6) hk7) (Rp.str.slice.keptNo hrd6 hk7)
    rw [decide_eq_true (⟨rfl,rfl⟩ : sz = sz ∧ hh = hh)] at hsm
    have HSM := Lib.hid hsm
    have HK7 := Lib.hid ((HK5.out.trans' hk6).trans' hk7)
    have HK37 := Lib.hid ((HK35.out.trans' hk6).trans' hk7)
    clear hrd6 hk6 hk7 hsm HS2 HR5 HB5
    go_upto_region 9 with fail
    try rw [hw7]
    try rw [hy]
    clear hw7 hy
    have x0 : w7.cell? ⟨x,0,none⟩ = some _ := Blk.cell HBX.out rfl
    have x1 : w7.cell? ⟨x,1,none⟩ = some _ := Blk.cell HBX.out rfl
    have y0 : w7.cell? ⟨y,0,none⟩ = some _ := Blk.cell HB7.out rfl
    have y1 : w7.cell? ⟨y,1,none⟩ = some _ := Blk.cell HB7.out rfl
    cases X
    case false =>
     go_wp2_with fail
     go_roundw
     case rel => exact ⟨i + 1,by omega,by go_num,HK7,HK37⟩
     case measure => simp [intOf];omega
    case true =>
     go_wp2_with fail
     refine HSM.out.mono ?_
     rintro e w8 ⟨rfl,hk8⟩
     have HK8 := Lib.hid (HK7.out.trans' hk8)
     have HK38 := Lib.hid (HK37.out.trans' hk8)
     clear hk8 x0 x1 y0 y1 HSM
     go_wp2_with fail
     go_roundw
     case rel => exact ⟨i + 1,by omega,by go_num,HK8,HK38⟩
     case measure => simp [intOf];omega
end Go.Proofs.YtjlbacfedfkilaaGreat
