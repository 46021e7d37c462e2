/-
  Bytes that may be a backup have one sheet: and unlike ones unlike sheets; where no two unlike chunks of both have one digest: SheetOne answers true for every input. No condition.
-/
import Derived.Test.YtejmbbnndagejaaH5
import Derived.Test.YtejmbbnndagejaaH6
import Derived.Test.YtejmbbnndagejaaK2
import Derived.Test.YtejmbbnndagejaaPkL
import Derived.Test.YtejmbbnndagejaaFSheetOne
namespace Go.Proofs.Ytejmbbnndagejaa
open Go.RowKit Go.ChangeShapes Go.WideShapes Go.ChangeAt

theorem one_same {a b : ByteArray} (h : NoClash (cutsB a ++ cutsB b)) : decide ((a.size : Int) = (b.size : Int) ∧ hashesB a = hashesB b) = decide (a = b) := by
  by_cases he : a = b
  · subst he; rw [decide_eq_true rfl, decide_eq_true ⟨rfl, rfl⟩]
  · rw [decide_eq_false he, decide_eq_false (fun h2 => he (hashes_inj h h2.2))]
theorem one_pack {a b : ByteArray} (ha : a.size ≤ 512) (hb : b.size ≤ 512) (h : NoClash (cutsB a ++ cutsB b)) : ((bs (packB (a.size : Int) (hashesB a))).toList == (bs (packB (b.size : Int) (hashesB b))).toList) = decide (a = b) := by
  rw [bytes_list_beq]
  by_cases he : a = b
  · subst he; rw [decide_eq_true rfl, decide_eq_true rfl]
  · rw [decide_eq_false he, decide_eq_false]
    intro h2
    exact he (hashes_inj h (pack_inj (okSheet_made a ha) (okSheet_made b hb) (bs_inj h2)))

set_option maxRecDepth 100000 in
set_option maxHeartbeats 2000000 in
theorem sheetOne_walk : SheetOneWalk := by
  intro W v0 a v1 b h0 h1
  obtain ⟨h0, w0⟩ := h0
  obtain ⟨h1, w1⟩ := h1
  simp only [List.cons.injEq, and_true] at h0 h1
  subst h0 h1
  unfold maxLen at w0 w1
  go_enter Try.func10, Try.ntmps10
  go_wp2_with fail
  refine (awake08 _).mono ?_
  rintro e w2 ⟨rfl, hk2⟩
  have HK2 := Lib.hid hk2
  clear hk2
  by_cases ba : 512 < a.size
  · have bai : (512 : Int) < (a.size : Int) := by omega
    go_wp2_with fail
    refine (awake08 _).mono ?_
    rintro e w3 ⟨rfl, hk3⟩
    go_wp2_with fail
    go_ret
    exact ⟨rfl, HK2.out.trans' hk3⟩
  · have bai : ¬ (512 : Int) < (a.size : Int) := by omega
    by_cases bb : 512 < b.size
    · have bbi : (512 : Int) < (b.size : Int) := by omega
      go_wp2_with fail
      refine (awake08 _).mono ?_
      rintro e w3 ⟨rfl, hk3⟩
      go_wp2_with fail
      go_ret
      exact ⟨rfl, HK2.out.trans' hk3⟩
    · have bbi : ¬ (512 : Int) < (b.size : Int) := by omega
      go_wp2_with fail
      refine (c_cut a w2 (by omega)).mono ?_
      rintro e w3 ⟨A3, c3, rfl, ho3, hk3⟩
      have hca : (cutsB a).length ≤ 9 := by rw [cutsB_length]; omega
      have hcb : (cutsB b).length ≤ 9 := by rw [cutsB_length]; omega
      have hcs : ∀ x ∈ cutsB a ++ cutsB b, x.size ≤ 1048576 := fun x hx => by
        rcases List.mem_append.1 hx with h | h
        · have := cutsB_sizes a x h; omega
        · have := cutsB_sizes b x h; omega
      have HSAME := Lib.hid (@one_same a b)
      have HPACK := Lib.hid (@one_pack a b (by omega) (by omega))
      have HPA := Lib.hid (pack_size (okSheet_made a (by omega)))
      have HPB := Lib.hid (pack_size (okSheet_made b (by omega)))
      obtain ⟨CA, hCA⟩ : ∃ C, cutsB a = C := ⟨_, rfl⟩
      obtain ⟨CB, hCB⟩ : ∃ C, cutsB b = C := ⟨_, rfl⟩
      rw [hCA] at ho3 ⊢
      rw [hCA, hCB] at hcs HSAME HPACK
      rw [hCA] at hca
      rw [hCB] at hcb
      have HCB := Lib.hid hCB
      have HCS := Lib.hid hcs
      have HO3 := Lib.hid ho3
      have HK3 := Lib.hid (HK2.out.trans' hk3)
      have HS23 := Lib.hid hk3.size
      clear ho3 hk3 hCA hCB hcs
      go_wp2_with fail
      refine (c_cut b w3 (by omega)).mono ?_
      rintro e w4 ⟨A4, c4, rfl, ho4, hk4⟩
      rw [HCB.out] at ho4 ⊢
      have HO4 := Lib.hid ho4
      have HO34 := Lib.hid (HO3.out.keptNo hk4)
      have HK4 := Lib.hid (HK3.out.trans' hk4)
      have hlt : ∀ k, (Value.slice A3 CA.length c3).ownBlock = some k → k < w3.heap.size := fun k hk => (HO3.out.lt k hk).2
      have HLT := Lib.hid hlt
      have hs24 : w2.heap.size ≤ w4.heap.size := Nat.le_trans HS23.out hk4.size
      clear ho4 hk4 hlt HO3 HK3 HCB
      go_wp2_with (at_builtin; refine wpList_append_own w4 (.tmp 23) (.tmp 25) (by go_simp) rfl w2.heap.size w3.heap.size A3 c3 CA rfl HO34.out A4 c4 CB rfl HO4.out (fun k hk h2 => by have := HLT.out k hk; have := (HO4.out.lt k h2).1; omega) (by omega) hs24 ?_; intro A5 c5 w5 hown hk5)
      rw [← List.length_append]
      have hll : (CA ++ CB).length ≤ 1000000 := by rw [List.length_append]; omega
      have HO5 := Lib.hid ((hown.str_any (fun _ => True)).read (fun _ _ => trivial))
      have HK5 := Lib.hid (HK4.out.trans hk5 (fun i hi hv => by have h1 := (HO34.out.lt i hv).1; have := HK2.out.size; omega))
      clear hown hk5 HO34 HO4 HK4 HLT hs24
      refine (r_clash (CA ++ CB) A5 c5 w5 _ HO5.out hll HCS.out).mono ?_
      rintro e w6 ⟨rfl, hk6⟩
      have HK6 := Lib.hid (HK5.out.trans' hk6)
      clear hk6 HK5 HO5
      by_cases hcl : NoClash (CA ++ CB)
      · rw [decide_eq_true hcl]
        have hsame := HSAME.out hcl
        have hpack := HPACK.out hcl
        have HA := Lib.hid hsame
        have HP := Lib.hid hpack
        clear hcl hsame hpack HSAME HPACK HCS hll
        go_wp2_with fail
        refine (c_make a _ (by omega)).mono ?_
        rintro e w7 ⟨⟨A7, c7, rfl, ho7⟩, hk7⟩
        obtain ⟨LA, hLA⟩ : ∃ L, hashesB a = L := ⟨_, rfl⟩
        obtain ⟨LB, hLB⟩ : ∃ L, hashesB b = L := ⟨_, rfl⟩
        rw [hLA] at ho7 ⊢
        rw [hLA, hLB] at HA HP
        rw [hLA] at HPA
        rw [hLB] at HPB
        have HLB := Lib.hid hLB
        have HO7 := Lib.hid ((ho7.str_any (fun _ => True)).read (fun _ _ => trivial))
        have HK7 := Lib.hid (HK6.out.trans' hk7)
        clear ho7 hk7 hLA hLB HK6
        go_wp2_with fail
        obtain ⟨w8, hw8⟩ : ∃ w8, w7.alloc (.cells #[.int .i64 (a.size : Int), .slice A7 LA.length c7] 34) = w8 := ⟨_, rfl⟩
        have HS8 : Hid (Blk w8 w7.heap.size 34 [.int .i64 (a.size : Int), .slice A7 LA.length c7]) := Lib.hid (by rw [← hw8]; exact Blk.new w7 _ _)
        have hk78 : Kp No w7 w8 := by rw [← hw8]; exact (Kp.refl _ _).alloc _
        have HO8 := Lib.hid (Rp.str.slice.keptNo HO7.out hk78)
        have HK8 := Lib.hid (HK7.out.trans' hk78)
        obtain ⟨ga, hga⟩ : ∃ ga, w7.heap.size = ga := ⟨_, rfl⟩
        rw [hw8, hga]
        rw [hga] at HS8
        clear hw8 hk78 hga HO7 HK7
        refine (c_make b _ (by omega)).mono ?_
        rintro e w9 ⟨⟨A9, c9, rfl, ho9⟩, hk9⟩
        rw [HLB.out] at ho9 ⊢
        have HT9 := Lib.hid ((ho9.str_any (fun _ => True)).read (fun _ _ => trivial))
        have HS9 := Lib.hid (HS8.out.kept hk9 (fun x => x))
        have HO9 := Lib.hid (Rp.str.slice.keptNo HO8.out hk9)
        have HK9 := Lib.hid (HK8.out.trans' hk9)
        clear ho9 hk9 HLB HS8 HO8 HK8
        go_wp2_with fail
        obtain ⟨w10, hw10⟩ : ∃ w10, w9.alloc (.cells #[.int .i64 (b.size : Int), .slice A9 LB.length c9] 34) = w10 := ⟨_, rfl⟩
        have HR10 : Hid (Blk w10 w9.heap.size 34 [.int .i64 (b.size : Int), .slice A9 LB.length c9]) := Lib.hid (by rw [← hw10]; exact Blk.new w9 _ _)
        have hk910 : Kp No w9 w10 := by rw [← hw10]; exact (Kp.refl _ _).alloc _
        have HS10 := Lib.hid (HS9.out.kept hk910 (fun x => x))
        have HO10 := Lib.hid (Rp.str.slice.keptNo HO9.out hk910)
        have HT10 := Lib.hid (Rp.str.slice.keptNo HT9.out hk910)
        have HK10 := Lib.hid (HK9.out.trans' hk910)
        obtain ⟨gb, hgb⟩ : ∃ gb, w9.heap.size = gb := ⟨_, rfl⟩
        rw [hw10, hgb]
        rw [hgb] at HR10
        clear hw10 hk910 hgb HO9 HK9 HT9 HS9
        have hla : LA.length ≤ 1000000 := by have := HPA.out.2.2.1; omega
        have hlb : LB.length ≤ 1000000 := by have := HPB.out.2.2.1; omega
        have s0 : w10.cell? ⟨ga, 0, none⟩ = some (.int .i64 (a.size : Int)) := HS10.out.cell rfl
        have s1 : w10.cell? ⟨ga, 1, none⟩ = some (.slice A7 LA.length c7) := HS10.out.cell rfl
        have t0 : w10.cell? ⟨gb, 0, none⟩ = some (.int .i64 (b.size : Int)) := HR10.out.cell rfl
        have t1 : w10.cell? ⟨gb, 1, none⟩ = some (.slice A9 LB.length c9) := HR10.out.cell rfl
        by_cases hab : a = b
        · have hq : (a.toList == b.toList) = true := by rw [bytes_list_beq]; exact decide_eq_true hab
          rw [decide_eq_true hab] at HA HP
          clear hab
          refine Reg.wp_region_plan [⟨0, false, []⟩, ⟨1, false, []⟩, ⟨2, false, []⟩, ⟨3, false, []⟩, ⟨4, false, []⟩, ⟨5, true, [2]⟩, ⟨6, false, []⟩, ⟨7, false, []⟩, ⟨8, false, []⟩, ⟨10, false, []⟩, ⟨13, false, []⟩, ⟨14, false, []⟩, ⟨15, false, []⟩, ⟨9, true, [10, 15]⟩, ⟨11, true, [15]⟩, ⟨12, false, []⟩, ⟨16, false, []⟩, ⟨17, false, []⟩, ⟨18, false, []⟩] rfl (by kernel_rfl) ?_
          repeat (first | (refine Reg.look rfl rfl rfl (by go_simp; rfl) rfl ?_; go_simp) | (refine Reg.skip rfl rfl rfl ?_; go_simp))
          refine Reg.act rfl ?_
          have hss := r_sameS (a.size : Int) (b.size : Int) LA LB A7 A9 c7 c9 w10.drew _ _ (Rp.str.slice.keptNo HO10.out (Kp.refl _ _).drew) (Rp.str.slice.keptNo HT10.out (Kp.refl _ _).drew)
          rw [HA.out] at hss
          go_wp2_with fail
          refine hss.mono ?_
          rintro e w11 ⟨rfl, hk11⟩
          have hk11' : Kp No w10 w11 := (Kp.refl _ _).drew.trans' hk11
          have HS11 := Lib.hid (HS10.out.kept hk11' (fun x => x))
          have HR11 := Lib.hid (HR10.out.kept hk11' (fun x => x))
          have HO11 := Lib.hid (Rp.str.slice.keptNo HO10.out hk11')
          have HT11 := Lib.hid (Rp.str.slice.keptNo HT10.out hk11')
          have HK11 := Lib.hid (HK10.out.trans' hk11')
          clear hk11 hk11' hss s0 s1 t0 t1
          have s0 : w11.cell? ⟨ga, 0, none⟩ = some (.int .i64 (a.size : Int)) := HS11.out.cell rfl
          have s1 : w11.cell? ⟨ga, 1, none⟩ = some (.slice A7 LA.length c7) := HS11.out.cell rfl
          have t0 : w11.cell? ⟨gb, 0, none⟩ = some (.int .i64 (b.size : Int)) := HR11.out.cell rfl
          have t1 : w11.cell? ⟨gb, 1, none⟩ = some (.slice A9 LB.length c9) := HR11.out.cell rfl
          go_wp2_with fail
          (refine ⟨?anew, ?_⟩; case anew => ((repeat (refine Reg.anew_cons rfl rfl (fun _ => by go_simp) ?_)); exact Reg.anew_nil))
          repeat (first | (refine Reg.look rfl rfl rfl (by go_simp; rfl) rfl ?_; go_simp) | (refine Reg.skip rfl rfl rfl ?_; go_simp))
          refine Reg.act rfl ?_
          have hpa := c_packS (a.size : Int) LA A7 c7 w11 _ HO11.out (by omega) (by omega) (fun x hx => by have := HPA.out.2.2.2.2.2 x hx; omega) (by have := HPA.out.2.1; omega) hla
          have hpb := fun w hl => c_packS (b.size : Int) LB A9 c9 w (fun _ => True) hl (by omega) (by omega) (fun x hx => by have := HPB.out.2.2.2.2.2 x hx; omega) (by have := HPB.out.2.1; omega) hlb
          obtain ⟨T1, hT1⟩ : ∃ T, bs (packB (a.size : Int) LA) = T := ⟨_, rfl⟩
          obtain ⟨T2, hT2⟩ : ∃ T, bs (packB (b.size : Int) LB) = T := ⟨_, rfl⟩
          rw [hT1] at hpa HP
          rw [hT2] at hpb HP
          have HPB2 := Lib.hid hpb
          clear hT1 hT2 hpb
          go_wp2_with fail
          refine hpa.mono ?_
          rintro e w12 ⟨rfl, hk12⟩
          have HR12 := Lib.hid (HR11.out.kept hk12 (fun x => x))
          have HT12 := Lib.hid (Rp.str.slice.keptNo HT11.out hk12)
          have HK12 := Lib.hid (HK11.out.trans' hk12)
          clear hk12 hpa s0 s1 t0 t1
          have t0 : w12.cell? ⟨gb, 0, none⟩ = some (.int .i64 (b.size : Int)) := HR12.out.cell rfl
          have t1 : w12.cell? ⟨gb, 1, none⟩ = some (.slice A9 LB.length c9) := HR12.out.cell rfl
          go_wp2_with fail
          (refine ⟨?anew, ?_⟩; case anew => ((repeat (refine Reg.anew_cons rfl rfl (fun _ => by go_simp) ?_)); exact Reg.anew_nil))
          repeat (first | (refine Reg.look rfl rfl rfl (by go_simp; rfl) rfl ?_; go_simp) | (refine Reg.skip rfl rfl rfl ?_; go_simp))
          refine Reg.act rfl ?_
          go_wp2_with fail
          refine (HPB2.out w12 HT12.out).mono ?_
          rintro e w13 ⟨rfl, hk13⟩
          have HK13 := Lib.hid (HK12.out.trans' hk13)
          have hp := HP.out
          clear hk13
          go_wp2_with fail
          (refine ⟨?anew, ?_⟩; case anew => ((repeat (refine Reg.anew_cons rfl rfl (fun _ => by go_simp) ?_)); exact Reg.anew_nil))
          repeat (first | (refine Reg.look rfl rfl rfl (by go_simp; rfl) rfl ?_; go_simp) | (refine Reg.skip rfl rfl rfl ?_; go_simp))
          (refine Reg.done ?_; simp only [Exit.then])
          go_wp2_with fail
          go_ret
          exact ⟨rfl, HK13.out⟩
        · have hq : (a.toList == b.toList) = false := by rw [bytes_list_beq]; exact decide_eq_false hab
          rw [decide_eq_false hab] at HA HP
          clear hab
          refine Reg.wp_region_plan [⟨0, false, []⟩, ⟨1, false, []⟩, ⟨2, false, []⟩, ⟨3, false, []⟩, ⟨4, false, []⟩, ⟨5, true, [2]⟩, ⟨6, false, []⟩, ⟨7, false, []⟩, ⟨8, false, []⟩, ⟨10, false, []⟩, ⟨13, false, []⟩, ⟨14, false, []⟩, ⟨15, false, []⟩, ⟨9, true, [10, 15]⟩, ⟨11, true, [15]⟩, ⟨12, false, []⟩, ⟨16, false, []⟩, ⟨17, false, []⟩, ⟨18, false, []⟩] rfl (by kernel_rfl) ?_
          repeat (first | (refine Reg.look rfl rfl rfl (by go_simp; rfl) rfl ?_; go_simp) | (refine Reg.skip rfl rfl rfl ?_; go_simp))
          refine Reg.act rfl ?_
          have hss := r_sameS (a.size : Int) (b.size : Int) LA LB A7 A9 c7 c9 w10.drew _ _ (Rp.str.slice.keptNo HO10.out (Kp.refl _ _).drew) (Rp.str.slice.keptNo HT10.out (Kp.refl _ _).drew)
          rw [HA.out] at hss
          go_wp2_with fail
          refine hss.mono ?_
          rintro e w11 ⟨rfl, hk11⟩
          have hk11' : Kp No w10 w11 := (Kp.refl _ _).drew.trans' hk11
          have HS11 := Lib.hid (HS10.out.kept hk11' (fun x => x))
          have HR11 := Lib.hid (HR10.out.kept hk11' (fun x => x))
          have HO11 := Lib.hid (Rp.str.slice.keptNo HO10.out hk11')
          have HT11 := Lib.hid (Rp.str.slice.keptNo HT10.out hk11')
          have HK11 := Lib.hid (HK10.out.trans' hk11')
          clear hk11 hk11' hss s0 s1 t0 t1
          have s0 : w11.cell? ⟨ga, 0, none⟩ = some (.int .i64 (a.size : Int)) := HS11.out.cell rfl
          have s1 : w11.cell? ⟨ga, 1, none⟩ = some (.slice A7 LA.length c7) := HS11.out.cell rfl
          have t0 : w11.cell? ⟨gb, 0, none⟩ = some (.int .i64 (b.size : Int)) := HR11.out.cell rfl
          have t1 : w11.cell? ⟨gb, 1, none⟩ = some (.slice A9 LB.length c9) := HR11.out.cell rfl
          go_wp2_with fail
          (refine ⟨?anew, ?_⟩; case anew => ((repeat (refine Reg.anew_cons rfl rfl (fun _ => by go_simp) ?_)); exact Reg.anew_nil))
          repeat (first | (refine Reg.look rfl rfl rfl (by go_simp; rfl) rfl ?_; go_simp) | (refine Reg.skip rfl rfl rfl ?_; go_simp))
          refine Reg.act rfl ?_
          have hpa := c_packS (a.size : Int) LA A7 c7 w11 _ HO11.out (by omega) (by omega) (fun x hx => by have := HPA.out.2.2.2.2.2 x hx; omega) (by have := HPA.out.2.1; omega) hla
          have hpb := fun w hl => c_packS (b.size : Int) LB A9 c9 w (fun _ => True) hl (by omega) (by omega) (fun x hx => by have := HPB.out.2.2.2.2.2 x hx; omega) (by have := HPB.out.2.1; omega) hlb
          obtain ⟨T1, hT1⟩ : ∃ T, bs (packB (a.size : Int) LA) = T := ⟨_, rfl⟩
          obtain ⟨T2, hT2⟩ : ∃ T, bs (packB (b.size : Int) LB) = T := ⟨_, rfl⟩
          rw [hT1] at hpa HP
          rw [hT2] at hpb HP
          have HPB2 := Lib.hid hpb
          clear hT1 hT2 hpb
          go_wp2_with fail
          refine hpa.mono ?_
          rintro e w12 ⟨rfl, hk12⟩
          have HR12 := Lib.hid (HR11.out.kept hk12 (fun x => x))
          have HT12 := Lib.hid (Rp.str.slice.keptNo HT11.out hk12)
          have HK12 := Lib.hid (HK11.out.trans' hk12)
          clear hk12 hpa s0 s1 t0 t1
          have t0 : w12.cell? ⟨gb, 0, none⟩ = some (.int .i64 (b.size : Int)) := HR12.out.cell rfl
          have t1 : w12.cell? ⟨gb, 1, none⟩ = some (.slice A9 LB.length c9) := HR12.out.cell rfl
          go_wp2_with fail
          (refine ⟨?anew, ?_⟩; case anew => ((repeat (refine Reg.anew_cons rfl rfl (fun _ => by go_simp) ?_)); exact Reg.anew_nil))
          repeat (first | (refine Reg.look rfl rfl rfl (by go_simp; rfl) rfl ?_; go_simp) | (refine Reg.skip rfl rfl rfl ?_; go_simp))
          refine Reg.act rfl ?_
          go_wp2_with fail
          refine (HPB2.out w12 HT12.out).mono ?_
          rintro e w13 ⟨rfl, hk13⟩
          have HK13 := Lib.hid (HK12.out.trans' hk13)
          have hp := HP.out
          clear hk13
          go_wp2_with fail
          (refine ⟨?anew, ?_⟩; case anew => ((repeat (refine Reg.anew_cons rfl rfl (fun _ => by go_simp) ?_)); exact Reg.anew_nil))
          repeat (first | (refine Reg.look rfl rfl rfl (by go_simp; rfl) rfl ?_; go_simp) | (refine Reg.skip rfl rfl rfl ?_; go_simp))
          (refine Reg.done ?_; simp only [Exit.then])
          go_wp2_with fail
          go_ret
          exact ⟨rfl, HK13.out⟩
      · rw [decide_eq_false hcl]
        clear hcl
        go_wp2_with fail
        refine (awake08 _).mono ?_
        rintro e w7 ⟨rfl, hk7⟩
        go_wp2_with fail
        go_ret
        exact ⟨rfl, HK6.out.trans' hk7⟩
theorem sheetOne_holds : Rows.SheetOneSaid := sheetOne_of sheetOne_walk
#print axioms sheetOne_holds
end Go.Proofs.Ytejmbbnndagejaa
