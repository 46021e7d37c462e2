/-
  With other chunks than its own a backup isn't built: SheetElse answers true for every input. No condition.
-/
import Derived.Test.YtejmbbnndagejaaH5
import Derived.Test.YtejmbbnndagejaaEM
import Derived.Test.YtejmbbnndagejaaPkL
import Derived.Test.YtejmbbnndagejaaFSheetElse
namespace Go.Proofs.Ytejmbbnndagejaa
open Go.RowKit Go.ChangeShapes Go.WideShapes Go.ChangeAt

/-- the bytes with one turned -/
def turnedB (s : ByteArray) (k : Nat) (y : UInt8) : ByteArray := bs (s.data.toList.set k (s.data.toList.getD k 0 ^^^ y))
theorem turnedB_size (s : ByteArray) (k : Nat) (y : UInt8) : (turnedB s k y).size = s.size := by unfold turnedB; rw [bs_size, List.length_set, data_length]
theorem xor_ne {a b : UInt8} (h : b ≠ 0) : a ^^^ b ≠ a := by
  intro he
  apply h
  have h2 : a ^^^ (a ^^^ b) = a ^^^ a := by rw [he]
  rw [← UInt8.xor_assoc, UInt8.xor_self, UInt8.zero_xor] at h2
  exact h2
theorem turnedB_ne {s : ByteArray} {k : Nat} {y : UInt8} (hk : k < s.size) (hy : y ≠ 0) : turnedB s k y ≠ s := by
  intro h
  have h2 : (turnedB s k y).data.toList = s.data.toList := by rw [h]
  unfold turnedB at h2
  rw [bs_data] at h2
  have h3 : (s.data.toList.set k (s.data.toList.getD k 0 ^^^ y))[k]? = s.data.toList[k]? := by rw [h2]
  rw [List.getElem?_set_self (by rw [data_length]; exact hk), List.getElem?_eq_getElem (by rw [data_length]; exact hk), List.getD_eq_getElem?_getD, List.getElem?_eq_getElem (by rw [data_length]; exact hk)] at h3
  injection h3 with h3
  exact xor_ne hy h3
theorem turned_build {s : ByteArray} {k : Nat} {y : UInt8} (hs : s.size ≤ 512) (hk : k < s.size) (hy : y ≠ 0) (hc : NoClash (cutsB (turnedB s k y) ++ cutsB s)) : buildA (s.size : Int) (hashesB s) (cutsB (turnedB s k y)) = (ByteArray.empty, 101) := by
  refine buildA_bad (okSheet_made s hs) ?_ ?_
  · rw [cutsB_length, turnedB_size, hashesB_length]
  · intro h
    exact turnedB_ne hk hy (hashes_inj hc h)
/-- two chunks in each other's place -/
def swapB (l : List ByteArray) (i k : Nat) (x y : ByteArray) : List ByteArray := (l.set i y).set k x
theorem swap_build {s : ByteArray} {i k : Nat} {x y : ByteArray} (hs : s.size ≤ 512) (hx : (cutsB s)[i]? = some x) (hy : (cutsB s)[k]? = some y) (hne : x ≠ y) (hc : NoClash (cutsB s)) : buildA (s.size : Int) (hashesB s) (swapB (cutsB s) i k x y) = (ByteArray.empty, 101) := by
  refine buildA_bad (okSheet_made s hs) ?_ ?_
  · unfold swapB hashesB; rw [List.length_set, List.length_set, List.length_map]
  · intro h
    have hik : k ≠ i := by rintro rfl; rw [hx] at hy; injection hy with hy; exact hne hy
    have h1 : ((swapB (cutsB s) i k x y).map shaB)[i]? = (hashesB s)[i]? := by rw [h]
    unfold swapB hashesB at h1
    rw [List.getElem?_map, List.getElem?_map, List.getElem?_set_ne hik, List.getElem?_set_self (List.getElem?_eq_some_iff.1 hx).1, hx] at h1
    injection h1 with h1
    exact hne (hc x (List.mem_of_getElem? hx) y (List.mem_of_getElem? hy) h1.symm)

theorem joinB_le (l : List ByteArray) (h : ∀ x ∈ l, x.size ≤ 64) : (joinB l).size ≤ 64 * l.length := by
  unfold joinB
  rw [bs_size]
  induction l with
  | nil => simp
  | cons x l ih =>
    have h1 := ih (fun y hy => h y (List.mem_cons_of_mem _ hy))
    have h2 := h x (List.mem_cons_self ..)
    simp only [List.map_cons, List.flatten_cons, List.length_append, List.length_cons]
    rw [data_length]
    omega
theorem urem (a : Int) (n : Nat) (hn : 0 < n) (hl : n ≤ 1000000) : ∃ k : Nat, wrap64 ((IntKind.u64.wrap a).tmod (n : Int)) = (k : Int) ∧ IntKind.i64.wrap ((IntKind.u64.wrap a).tmod (n : Int)) = (k : Int) ∧ k < n := by
  obtain ⟨u, hu⟩ : ∃ u : Nat, IntKind.u64.wrap a = (u : Int) := ⟨(IntKind.u64.wrap a).toNat, by simp [IntKind.wrap, IntKind.signed, IntKind.bits]; omega⟩
  rw [show IntKind.i64.wrap ((IntKind.u64.wrap a).tmod (n : Int)) = wrap64 ((IntKind.u64.wrap a).tmod (n : Int)) from by unfold wrap64; exact IntKind.wrap_i64 _]
  refine ⟨u % n, ?_, ?_, Nat.mod_lt _ hn⟩
  all_goals
    have h1 : (u : Int).tmod (n : Int) = ((u % n : Nat) : Int) := rfl
    have h2 := Nat.mod_lt u hn
    rw [hu, h1]
    unfold wrap64
    omega
set_option maxRecDepth 100000 in
set_option maxHeartbeats 4000000 in
theorem sheetElse_walk : SheetElseWalk := by
  intro W v0 s v1 av v2 yv h0 h1 h2
  obtain ⟨h0, w0⟩ := h0
  obtain ⟨h1, wf1⟩ := h1
  obtain ⟨h2, wf2⟩ := h2
  simp only [List.cons.injEq, and_true] at h0 h1 h2
  subst h0 h1 h2
  unfold maxLen at w0
  have hab := bounds_i64 wf1
  have hyb : 0 ≤ yv ∧ yv < 256 := by
    simp [Lit.wf, IntKind.min, IntKind.max, IntKind.signed, IntKind.bits] at wf2
    omega
  clear wf1 wf2
  go_enter Try.func9, Try.ntmps9
  go_wp2_with fail
  refine (awake08 _).mono ?_
  rintro e w2 ⟨rfl, hk2⟩
  have HK2 := Lib.hid hk2
  clear hk2
  by_cases b0 : s.size < 1
  · have b0i : (s.size : Int) < 1 := by omega
    go_wp2_with fail
    refine (awake08 _).mono ?_
    rintro e w3 ⟨rfl, hk3⟩
    go_wp2_with fail
    go_ret
    exact ⟨rfl, HK2.out.trans' hk3⟩
  · have b0i : ¬ (s.size : Int) < 1 := by omega
    by_cases b1 : 512 < s.size
    · have b1i : (512 : Int) < (s.size : Int) := by omega
      go_wp2_with fail
      refine (awake08 _).mono ?_
      rintro e w3 ⟨rfl, hk3⟩
      go_wp2_with fail
      go_ret
      exact ⟨rfl, HK2.out.trans' hk3⟩
    · have b1i : ¬ (512 : Int) < (s.size : Int) := by omega
      have HPA := Lib.hid (pack_size (okSheet_made s (by omega)))
      have HOKS := Lib.hid (okSheet_made s (by omega))
      have HTB := Lib.hid (fun k y hk hy hc => @turned_build s k y (by omega) hk hy hc)
      have HSB := Lib.hid (fun i k x y hx hy hne hc => @swap_build s i k x y (by omega) hx hy hne hc)
      have hca : (cutsB s).length ≤ 9 ∧ 0 < (cutsB s).length := by rw [cutsB_length]; omega
      have HCS : Hid (∀ x ∈ cutsB s, x.size ≤ 1048576) := Lib.hid (fun x hx => by have := cutsB_sizes s x hx; omega)
      have HC64 : Hid (∀ x ∈ cutsB s, x.size ≤ 64) := Lib.hid (fun x hx => by have := cutsB_sizes s x hx; omega)
      have HLC : Hid ((hashesB s).length = (cutsB s).length) := Lib.hid (by unfold hashesB; rw [List.length_map])
      go_wp2_with fail
      refine (c_make s _ (by omega)).mono ?_
      rintro e w3 ⟨⟨A3, c3, rfl, ho3⟩, hk3⟩
      obtain ⟨L, hL⟩ : ∃ L, hashesB s = L := ⟨_, rfl⟩
      rw [hL] at ho3 HPA HOKS HTB HSB HLC ⊢
      have HK3 := Lib.hid (HK2.out.trans' hk3)
      have HO3 : Hid (Rp.str.slice.R w3 (fun k => k < w3.heap.size) [.slice A3 L.length c3] L) := Lib.hid ((ho3.str_any (fun k => k < w3.heap.size)).read (fun k hk => (ho3.lt k hk).2))
      clear hk3 HK2 hL ho3
      go_wp2_with fail
      obtain ⟨w4, hw4⟩ : ∃ w4, w3.alloc (.cells #[.int .i64 (s.size : Int), .slice A3 L.length c3] 34) = w4 := ⟨_, rfl⟩
      have HS4 : Hid (Blk w4 w3.heap.size 34 [.int .i64 (s.size : Int), .slice A3 L.length c3]) := Lib.hid (by rw [← hw4]; exact Blk.new w3 _ _)
      have hk34 : Kp No w3 w4 := by rw [← hw4]; exact (Kp.refl _ _).alloc _
      have HO4 := Lib.hid (Rp.str.slice.keptNo HO3.out hk34)
      have HK4 := Lib.hid (HK3.out.trans' hk34)
      obtain ⟨ga, hga⟩ : ∃ ga, w3.heap.size = ga := ⟨_, rfl⟩
      rw [hw4, hga]
      rw [hga] at HS4 HO4
      clear hw4 hk34 hga HO3 HK3
      have hll : L.length ≤ 1000000 := by have := HPA.out.2.2.1; omega
      refine (c_cut s _ (by omega)).mono ?_
      rintro e w5 ⟨A5, c5, rfl, ho5, hk5⟩
      obtain ⟨C, hC⟩ : ∃ C, cutsB s = C := ⟨_, rfl⟩
      rw [hC] at ho5 HTB HSB HCS HC64 HLC hca ⊢
      have HC5 := Lib.hid ho5
      have HS5 := Lib.hid (HS4.out.kept hk5 (fun x => x))
      have HO5 := Lib.hid (Rp.str.slice.keptNo HO4.out hk5)
      have HK5 := Lib.hid (HK4.out.trans' hk5)
      have hgl := HS4.out.lt
      have hw45 := hk5.size
      have hW4 := HK4.out.size
      clear ho5 hk5 hC HS4 HO4 HK4
      obtain ⟨y, rfl⟩ : ∃ y : Nat, yv = (y : Int) := ⟨yv.toNat, by omega⟩
      by_cases hy0 : y = 0
      · have hyq : ((y : Int) != 0) = false := by simp [hy0]
        clear hy0
        go_wp2_with fail
        refine (r_clash C A5 c5 w5 (fun _ => True) ((HC5.out.str_any (fun _ => True)).read (fun _ _ => trivial)) (by omega) HCS.out).mono ?_
        rintro e w6 ⟨rfl, hk6⟩
        have HS6 := Lib.hid (HS5.out.kept hk6 (fun x => x))
        have HO6 := Lib.hid (Rp.str.slice.keptNo HO5.out hk6)
        have HC6 := Lib.hid (HC5.out.keptNo hk6)
        have HK6 := Lib.hid (HK5.out.trans' hk6)
        clear hk6
        by_cases hcl : NoClash C
        · rw [decide_eq_true hcl]
          have HCL := Lib.hid hcl
          clear hcl
          have hC3 : IntKind.u64.wrap (C.length : Int) = (C.length : Int) := by simp [IntKind.wrap, IntKind.signed, IntKind.bits]; omega
          have hCn : ¬ C = [] := fun h => by rw [h] at hca; simp at hca
          obtain ⟨i, hiw, hiw2, hil⟩ := urem av C.length (by omega) (by omega)
          obtain ⟨k2, hk2w, hk2w2, hk2l⟩ := urem (y : Int) C.length (by omega) (by omega)
          go_wp2_with fail
          refine Reg.wp_region_plan [⟨0, false, []⟩, ⟨1, false, []⟩, ⟨2, false, []⟩, ⟨3, false, []⟩, ⟨4, false, []⟩, ⟨5, false, []⟩, ⟨6, false, []⟩, ⟨7, false, []⟩, ⟨8, false, []⟩, ⟨9, false, []⟩, ⟨10, false, []⟩, ⟨11, false, []⟩, ⟨12, false, []⟩, ⟨13, false, []⟩, ⟨14, false, []⟩, ⟨15, false, []⟩] rfl (by kernel_rfl) ?_
          repeat (first | (refine Reg.look rfl rfl rfl (by go_simp; rfl) rfl ?_; go_simp) | (refine Reg.skip rfl rfl rfl ?_; go_simp))
          (refine Reg.done ?_; simp only [Exit.then])
          obtain ⟨x, hx⟩ : ∃ x, C[i]? = some x := ⟨_, List.getElem?_eq_getElem hil⟩
          obtain ⟨z, hz⟩ : ∃ z, C[k2]? = some z := ⟨_, List.getElem?_eq_getElem hk2l⟩
          obtain ⟨gc, hA5, hgb, hgcl, hcx, hfx, _⟩ := Own.cellBy Rp.str_by HC6.out hx
          obtain ⟨gc', hA5', _, _, hcz, hfz, _⟩ := Own.cellBy Rp.str_by HC6.out hz
          rw [hA5] at hA5'
          injection hA5' with hA5'
          injection hA5' with hA5'
          subst hA5' hA5
          have hili : (i : Int) < (C.length : Int) := by omega
          have hk2li : (k2 : Int) < (C.length : Int) := by omega
          have hC1 : (1 : Int) ≤ (C.length : Int) := by omega
          have HX := Lib.hid hx
          have HZ := Lib.hid hz
          have hxs := HCS.out x (List.mem_of_getElem? hx)
          have hzs := HCS.out z (List.mem_of_getElem? hz)
          have hgw4 : W.heap.size ≤ gc := by omega
          have hgcl2 := hgcl
          clear hx hz
          by_cases hxz : x = z
          · have hne0 : (x.toList == z.toList) = true := by rw [bytes_list_beq]; exact decide_eq_true hxz
            have hne : (x.toList != z.toList) = false := by unfold bne; rw [hne0]; rfl
            clear hxz
            go_wp2_with fail
            refine Reg.wp_region_plan [⟨0, false, []⟩, ⟨1, false, []⟩, ⟨2, false, []⟩, ⟨3, false, []⟩, ⟨4, false, []⟩, ⟨5, false, []⟩, ⟨6, false, []⟩, ⟨7, false, []⟩, ⟨8, false, []⟩] rfl (by kernel_rfl) ?_
            repeat (first | (refine Reg.look rfl rfl rfl (by go_simp; rfl) rfl ?_; go_simp) | (refine Reg.skip rfl rfl rfl ?_; go_simp))
            (refine Reg.done ?_; simp only [Exit.then])
            go_wp2_with fail
            have hs22 : Blk (w6.drew.drew) ga 34 [.int .i64 (s.size : Int), .slice A3 L.length c3] := (HS6.out.kept (S := No) ((Kp.refl _ _).drew.drew) (fun x => x))
            have ho22 := (Rp.str.slice.keptNo HO6.out ((Kp.refl _ _).drew.drew))
            have hk22 : Kp No W (w6.drew.drew) := HK6.out.drew.drew
            have HO22 := Lib.hid ho22
            have HK22 := Lib.hid hk22
            have HS22 := Lib.hid hs22
            have s0 : Go.World.cell? (w6.drew.drew) ⟨ga, 0, none⟩ = some (.int .i64 (s.size : Int)) := HS22.out.cell rfl
            have s1 : Go.World.cell? (w6.drew.drew) ⟨ga, 1, none⟩ = some (.slice A3 L.length c3) := HS22.out.cell rfl
            clear ho22 hk22 hs22
            refine Reg.wp_region_plan [⟨0, false, []⟩, ⟨1, false, []⟩, ⟨2, false, []⟩, ⟨3, true, []⟩, ⟨4, false, []⟩, ⟨5, false, []⟩, ⟨6, false, []⟩, ⟨7, false, []⟩, ⟨8, false, []⟩] rfl (by kernel_rfl) ?_
            repeat (first | (refine Reg.look rfl rfl rfl (by go_simp; rfl) rfl ?_; go_simp) | (refine Reg.skip rfl rfl rfl ?_; go_simp))
            refine Reg.act rfl ?_
            have hlne : C.length - 1 ≠ L.length := by rw [HLC.out]; omega
            have hbl := fun w hl A2 c2 => c_build_len (s.size : Int) L A3 c3 w (fun k => k < ga) hl (by omega) (by omega) hll HOKS.out (C.length - 1) A2 c2 hlne
            have HBLN := Lib.hid hbl
            clear hbl hlne
            go_wp2_with fail
            all_goals refine (HBLN.out _ (Rp.str.slice.keptNo HO22.out (Kp.refl _ _).drew) _ _).mono ?_
            all_goals rintro e w23 ⟨rfl, hk23⟩
            all_goals have HK23 := Lib.hid (HK22.out.trans' ((Kp.refl _ _).drew.trans' hk23))
            all_goals clear hk23 s0 s1
            all_goals go_wp2_with fail
            all_goals (refine ⟨?anew, ?_⟩; case anew => ((repeat (refine Reg.anew_cons rfl rfl (fun _ => by go_simp) ?_)); exact Reg.anew_nil))
            all_goals repeat (first | (refine Reg.look rfl rfl rfl (by go_simp; rfl) rfl ?_; go_simp) | (refine Reg.skip rfl rfl rfl ?_; go_simp))
            all_goals (refine Reg.done ?_; simp only [Exit.then])
            all_goals go_wp2_with fail
            all_goals go_ret
            all_goals exact ⟨rfl, HK23.out⟩
          · have hne0 : (x.toList == z.toList) = false := by rw [bytes_list_beq]; exact decide_eq_false hxz
            have hne : (x.toList != z.toList) = true := by unfold bne; rw [hne0]; rfl
            have HXZ := Lib.hid hxz
            clear hxz
            go_wp2_with fail
            refine Reg.wp_region_plan [⟨0, false, []⟩, ⟨1, false, []⟩, ⟨2, false, []⟩, ⟨3, false, []⟩, ⟨4, false, []⟩, ⟨5, false, []⟩, ⟨6, false, []⟩, ⟨7, false, []⟩, ⟨8, false, []⟩] rfl (by kernel_rfl) ?_
            repeat (first | (refine Reg.look rfl rfl rfl (by go_simp; rfl) rfl ?_; go_simp) | (refine Reg.skip rfl rfl rfl ?_; go_simp))
            (refine Reg.done ?_; simp only [Exit.then])
            go_wp2_with fail
            refine Reg.wp_region_plan [⟨0, false, []⟩, ⟨1, false, []⟩, ⟨2, false, []⟩, ⟨3, false, []⟩, ⟨4, false, []⟩, ⟨5, false, []⟩, ⟨6, false, []⟩, ⟨7, false, []⟩, ⟨8, false, []⟩, ⟨9, false, []⟩, ⟨10, false, []⟩, ⟨11, false, []⟩, ⟨12, false, []⟩, ⟨13, true, []⟩, ⟨14, false, []⟩, ⟨15, true, []⟩] rfl (by kernel_rfl) ?_
            repeat (first | (refine Reg.look rfl rfl rfl (by go_simp; rfl) rfl ?_; go_simp) | (refine Reg.skip rfl rfl rfl ?_; go_simp))
            have hik : ¬ i = k2 := fun h => HXZ.out (by have h1 := HX.out; have h2 := HZ.out; rw [h] at h1; rw [h1] at h2; injection h2)
            have hki : ¬ k2 = i := fun h => hik h.symm
            refine Reg.act rfl ?_
            go_wp2
            (refine ⟨?anew, ?_⟩; case anew => ((repeat (refine Reg.anew_cons rfl rfl (fun _ => by go_simp) ?_)); exact Reg.anew_nil))
            repeat (first | (refine Reg.look rfl rfl rfl (by go_simp; rfl) rfl ?_; go_simp) | (refine Reg.skip rfl rfl rfl ?_; go_simp))
            refine Reg.act rfl ?_
            go_wp2
            refine ⟨Reg.anew_nil, ?_⟩
            (refine Reg.done ?_; simp only [Exit.then])
            have hst1 := Own.storeBy Rp.str_by HC6.out (i := i) hil (a := z) (by unfold maxLen; omega)
            have hl1 : (C.set i z).length = C.length := List.length_set
            rw [← hl1] at hst1
            have hst2 := Own.storeBy Rp.str_by hst1 (i := k2) (by rw [hl1]; exact hk2l) (a := x) (by unfold maxLen; omega)
            rw [hl1] at hst2
            obtain ⟨C2, hC2⟩ : ∃ C2, swapB C i k2 x z = C2 := ⟨_, rfl⟩
            have hC2l : C2.length = C.length := by rw [← hC2]; unfold swapB; rw [List.length_set, List.length_set]
            rw [show (C.set i z).set k2 x = C2 from hC2] at hst2
            have hbad := HSB.out i k2 x z HX.out HZ.out HXZ.out HCL.out
            rw [hC2] at hbad
            have hcs2 : ∀ q ∈ C2, q.size ≤ 1048576 := fun q hq => by
              rw [← hC2] at hq
              unfold swapB at hq
              rcases List.mem_or_eq_of_mem_set hq with hq | rfl
              · rcases List.mem_or_eq_of_mem_set hq with hq | rfl
                · exact HCS.out q hq
                · exact hzs
              · exact hxs
            have hjl : (joinB C2).size ≤ 1048576 := by
              have h64 : ∀ q ∈ C2, q.size ≤ 64 := fun q hq => by
                rw [← hC2] at hq
                unfold swapB at hq
                rcases List.mem_or_eq_of_mem_set hq with hq | rfl
                · rcases List.mem_or_eq_of_mem_set hq with hq | rfl
                  · exact HC64.out q hq
                  · exact HC64.out _ (List.mem_of_getElem? HZ.out)
                · exact HC64.out _ (List.mem_of_getElem? HX.out)
              have := joinB_le C2 h64
              omega
            have hkst : Kp (· = gc) w6 ((w6.setCell ⟨gc, i, none⟩ (.string z)).setCell ⟨gc, k2, none⟩ (.string x)) := ((Kp.refl (· = gc) w6).setCell (p := ⟨gc, i, none⟩) (fun _ => rfl) _).setCell (p := ⟨gc, k2, none⟩) (fun _ => rfl) _
            have HS18 := Lib.hid (HS6.out.kept hkst (fun e => by omega))
            have HO18 := Lib.hid (Rp.str.slice.kept HO6.out hkst (fun j hj _ e => by have h1 : j < ga := hj; omega))
            have HK18 := Lib.hid (HK6.out.trans hkst (fun j hj e => by omega))
            obtain ⟨w18, hw18⟩ : ∃ w18, ((w6.setCell ⟨gc, i, none⟩ (.string z)).setCell ⟨gc, k2, none⟩ (.string x)).drew.drew.drew = w18 := ⟨_, rfl⟩
            have hkd : Kp No ((w6.setCell ⟨gc, i, none⟩ (.string z)).setCell ⟨gc, k2, none⟩ (.string x)) w18 := by rw [← hw18]; exact (Kp.refl _ _).drew.drew.drew
            have hst3 := hst2.keptNo hkd
            rw [← hC2l] at hst3
            have HST := Lib.hid hst3
            have HBAD2 := Lib.hid hbad
            have HCS2 := Lib.hid hcs2
            have HS19 := Lib.hid (HS18.out.kept hkd (fun x => x))
            have HO19 := Lib.hid (Rp.str.slice.keptNo HO18.out hkd)
            have HK19 := Lib.hid (HK18.out.trans' hkd)
            have s0 : w18.cell? ⟨ga, 0, none⟩ = some (.int .i64 (s.size : Int)) := HS19.out.cell rfl
            have s1 : w18.cell? ⟨ga, 1, none⟩ = some (.slice A3 L.length c3) := HS19.out.cell rfl
            have HC2L := Lib.hid hC2l
            rw [hw18, ← hC2l]
            clear hst1 hst2 hst3 hl1 hC2 hbad hcs2 hkst hkd hcx hcz hfx hfz hne0 hne hw18 hC2l HS18 HO18 HK18
            go_wp2_with fail
            refine (c_build (s.size : Int) L A3 c3 w18 _ HO19.out (by omega) (by omega) hll C2 _ c5 _ HST.out (by have := HC2L.out; omega) HCS2.out hjl).mono ?_
            rintro e w20 ⟨hba, hk20⟩
            unfold BuildAns at hba
            rw [HBAD2.out] at hba
            subst hba
            have HS20 := Lib.hid (HS19.out.kept hk20 (fun x => x))
            have HO20 := Lib.hid (Rp.str.slice.keptNo HO19.out hk20)
            have HK20 := Lib.hid (HK19.out.trans' hk20)
            clear hk20 s0 s1 HS19 HO19 HK19 HST
            go_wp2_with fail
            rw [HC2L.out]
            have hs22 : Blk (w20) ga 34 [.int .i64 (s.size : Int), .slice A3 L.length c3] := HS20.out
            have ho22 := HO20.out
            have hk22 : Kp No W (w20) := HK20.out
            have HO22 := Lib.hid ho22
            have HK22 := Lib.hid hk22
            have HS22 := Lib.hid hs22
            have s0 : Go.World.cell? (w20) ⟨ga, 0, none⟩ = some (.int .i64 (s.size : Int)) := HS22.out.cell rfl
            have s1 : Go.World.cell? (w20) ⟨ga, 1, none⟩ = some (.slice A3 L.length c3) := HS22.out.cell rfl
            clear ho22 hk22 hs22
            refine Reg.wp_region_plan [⟨0, false, []⟩, ⟨1, false, []⟩, ⟨2, false, []⟩, ⟨3, true, []⟩, ⟨4, false, []⟩, ⟨5, false, []⟩, ⟨6, false, []⟩, ⟨7, false, []⟩, ⟨8, false, []⟩] rfl (by kernel_rfl) ?_
            repeat (first | (refine Reg.look rfl rfl rfl (by go_simp; rfl) rfl ?_; go_simp) | (refine Reg.skip rfl rfl rfl ?_; go_simp))
            refine Reg.act rfl ?_
            have hlne : C.length - 1 ≠ L.length := by rw [HLC.out]; omega
            have hbl := fun w hl A2 c2 => c_build_len (s.size : Int) L A3 c3 w (fun k => k < ga) hl (by omega) (by omega) hll HOKS.out (C.length - 1) A2 c2 hlne
            have HBLN := Lib.hid hbl
            clear hbl hlne
            go_wp2_with fail
            all_goals refine (HBLN.out _ (Rp.str.slice.keptNo HO22.out (Kp.refl _ _).drew) _ _).mono ?_
            all_goals rintro e w23 ⟨rfl, hk23⟩
            all_goals have HK23 := Lib.hid (HK22.out.trans' ((Kp.refl _ _).drew.trans' hk23))
            all_goals clear hk23 s0 s1
            all_goals go_wp2_with fail
            all_goals (refine ⟨?anew, ?_⟩; case anew => ((repeat (refine Reg.anew_cons rfl rfl (fun _ => by go_simp) ?_)); exact Reg.anew_nil))
            all_goals repeat (first | (refine Reg.look rfl rfl rfl (by go_simp; rfl) rfl ?_; go_simp) | (refine Reg.skip rfl rfl rfl ?_; go_simp))
            all_goals (refine Reg.done ?_; simp only [Exit.then])
            all_goals go_wp2_with fail
            all_goals go_ret
            all_goals exact ⟨rfl, HK23.out⟩
        · rw [decide_eq_false hcl]
          clear hcl
          go_wp2_with fail
          go_ret
          exact ⟨rfl, HK6.out⟩
      · have hyq : ((y : Int) != 0) = true := by simp; omega
        obtain ⟨k, hkw, hkw2, hkl⟩ := urem av s.size (by omega) (by omega)
        have hkli : (k : Int) < (s.size : Int) := by omega
        obtain ⟨cb, w6, hrun, hown, hk6⟩ := ownM_text (P := Try.prog) w5 51 9 5 bytely s (by omega) w5.heap.size (Nat.le_refl _)
        have hcell := hown.cell (i := k) (by rw [data_length]; exact hkl)
        obtain ⟨g', o', hgo, _, _, hcell⟩ := hcell
        injection hgo with hgo
        injection hgo with e1 e2
        subst e1 e2
        rw [Nat.zero_add] at hcell
        have hset := OwnM.set hown (i := k) (by rw [data_length]; exact hkl) (s.data.toList.getD k 0 ^^^ UInt8.ofNat y)
        have hfz := hset.2
        have hyN : y < 256 := by omega
        have hxor : ∀ N : Nat, N < 256 → bits .xor .u8 (N : Int) (y : Int) = ((N ^^^ y : Nat) : Int) := fun N hN => u8_xor_nat N y hN hyN
        obtain ⟨N, hN⟩ : ∃ N, (s.data.toList.getD k 0).toNat = N := ⟨_, rfl⟩
        have hN256 : N < 256 := by rw [← hN]; exact UInt8.toNat_lt _
        have hcellN : w6.cell? ⟨w5.heap.size, k, none⟩ = some (.int .u8 (N : Int)) := by rw [hcell]; unfold byteOf; rw [hN]
        have hx := hxor N hN256
        have hval : Hid (Value.int .u8 ((N ^^^ y : Nat) : Int) = byteOf (s.data.toList.getD k 0 ^^^ UInt8.ofNat y)) := Lib.hid (by
          unfold byteOf
          rw [UInt8.toNat_xor, hN, UInt8.toNat_ofNat', Nat.mod_eq_of_lt hyN])
        obtain ⟨w7, hw7⟩ : ∃ w7, w6.setCell ⟨w5.heap.size, k, none⟩ (.int .u8 ((N ^^^ y : Nat) : Int)) = w7 := ⟨_, rfl⟩
        have hset1 := hset.1
        rw [← hval.out, hw7] at hset1
        have hlen : (s.data.toList.set k (s.data.toList.getD k 0 ^^^ UInt8.ofNat y)).length = s.size := by rw [List.length_set, data_length]
        have hconv := run_textM (P := Try.prog) w7 51 9 5 bytely hset1
        rw [hlen] at hconv
        have HTB2 := Lib.hid (HTB.out k (UInt8.ofNat y) hkl (fun h => by have h2 := congrArg UInt8.toNat h; rw [UInt8.toNat_ofNat', Nat.mod_eq_of_lt hyN] at h2; exact hy0 h2))
        have hBs : (turnedB s k (UInt8.ofNat y)).size = s.size := turnedB_size _ _ _
        obtain ⟨B, hB⟩ : ∃ B, turnedB s k (UInt8.ofNat y) = B := ⟨_, rfl⟩
        have HBL : Hid (bs (s.data.toList.set k (s.data.toList.getD k 0 ^^^ UInt8.ofNat y)) = B) := Lib.hid hB
        rw [show bs (s.data.toList.set k (s.data.toList.getD k 0 ^^^ UInt8.ofNat y)) = B from hB] at hconv
        rw [hB] at HTB2 hBs
        have hk67 : Kp (· = w5.heap.size) w6 w7 := by rw [← hw7]; exact (Kp.refl (· = w5.heap.size) _).setCell (p := ⟨w5.heap.size, k, none⟩) (fun _ => rfl) _
        have hk57 : Kp No w5 w7 := (hk6.any.trans' hk67).mono (fun i hi e => by omega)
        have HS7 := Lib.hid (HS5.out.kept hk57 (fun x => x))
        have HO7 := Lib.hid (Rp.str.slice.keptNo HO5.out hk57)
        have HC7 := Lib.hid (HC5.out.keptNo hk57)
        have HK7 := Lib.hid (HK5.out.trans' hk57)
        have HM7 := Lib.hid hset1
        have hcb : (cutsB B).length ≤ 9 := by rw [cutsB_length]; omega
        have hcbs : ∀ x ∈ cutsB B, x.size ≤ 1048576 := fun x hx => by have := cutsB_sizes B x hx; omega
        have hjb : (joinB (cutsB B)).size ≤ 1048576 := by rw [joinB_cuts B]; omega
        have hw57 := hk57.size
        have hW7 := HK7.out.size
        clear hown hcell hset hset1 hxor hN hk6 hk67 hk57 hB
        go_wp2_with fail
        refine (c_cut B w7 (by omega)).mono ?_
        rintro e w8 ⟨A8, c8, rfl, ho8, hk8⟩
        obtain ⟨CB, hCB⟩ : ∃ C, cutsB B = C := ⟨_, rfl⟩
        rw [hCB] at ho8 HTB2 hcb hcbs hjb ⊢
        have HCB := Lib.hid hCB
        have HCBS := Lib.hid hcbs
        have HD8 := Lib.hid ho8
        have HS8 := Lib.hid (HS7.out.kept hk8 (fun x => x))
        have HO8 := Lib.hid (Rp.str.slice.keptNo HO7.out hk8)
        have HC8 := Lib.hid (HC7.out.keptNo hk8)
        have HM8 := Lib.hid (HM7.out.keptNo hk8)
        have HM7L := Lib.hid (fun g h => (HM7.out.lt g h).2)
        have HC8L : Hid (∀ k, (Value.slice A5 C.length c5).ownBlock = some k → k < w7.heap.size) := Lib.hid (fun k h => (HC7.out.lt k h).2)
        have HK8 := Lib.hid (HK7.out.trans' hk8)
        have hlt8 : w7.heap.size ≤ w8.heap.size := hk8.size
        clear ho8 hk8 hCB hcbs hconv hw7 hrun HS5 HO5 HC5 HK5 HS7 HO7 HC7 HM7 HK7
        have hne8 : ∀ k, (Value.slice A8 CB.length c8).ownBlock = some k → ¬ (Value.slice A5 C.length c5).ownBlock = some k := fun k h1 h2 => by have := (HD8.out.lt k h1).1; have := HC8L.out k h2; omega
        have HNE8 := Lib.hid hne8
        clear hne8
        go_wp2_with (at_builtin; refine wpList_append_own w8 (.tmp 60) (.tmp 61) (by go_simp) rfl w7.heap.size w4.heap.size A8 c8 CB rfl HD8.out A5 c5 C rfl HC8.out HNE8.out (by omega) hlt8 ?_; intro A9 c9 w9 hown hk9)
        rw [← List.length_append]
        have hll9 : (CB ++ C).length ≤ 1000000 := by rw [List.length_append]; omega
        have HX9 := Lib.hid ((hown.str_any (fun _ => True)).read (fun _ _ => trivial))
        have hold : ∀ i, i < w7.heap.size → ¬ (Value.slice A8 CB.length c8).ownBlock = some i := fun i hi hv => by have := (HD8.out.lt i hv).1; omega
        have HS9 := Lib.hid (HS8.out.kept hk9 (fun e => hold _ (by omega) e))
        have HO9 := Lib.hid (Rp.str.slice.kept HO8.out hk9 (fun i hi _ e => hold i (by omega) e))
        have HC9 := Lib.hid (HC8.out.kept hk9 (fun _ h => h.elim) (fun g hg e => HNE8.out g e hg))
        have HM9 := Lib.hid (HM8.out.kept hk9 (fun g hg e => hold g (HM7L.out g hg) e))
        have HK9 := Lib.hid (HK8.out.trans hk9 (fun i hi e => absurd e (hold i (by omega))))
        clear hown hk9 hold
        have hcs9 : ∀ x ∈ CB ++ C, x.size ≤ 1048576 := fun x hx => by rcases List.mem_append.1 hx with h | h; exact HCBS.out x h; exact HCS.out x h
        refine (r_clash (CB ++ C) A9 c9 w9 _ HX9.out hll9 hcs9).mono ?_
        rintro e w10 ⟨rfl, hk10⟩
        have HS10 := Lib.hid (HS9.out.kept hk10 (fun x => x))
        have HO10 := Lib.hid (Rp.str.slice.keptNo HO9.out hk10)
        have HC10 := Lib.hid (HC9.out.keptNo hk10)
        have HM10 := Lib.hid (HM9.out.keptNo hk10)
        have HK10 := Lib.hid (HK9.out.trans' hk10)
        clear hk10 HS8 HO8 HC8 HM8 HK8 HS9 HO9 HC9 HM9 HK9 HX9 HD8 HNE8 hcs9
        by_cases hcl : NoClash (CB ++ C)
        · rw [decide_eq_true hcl]
          have hbad := HTB2.out hcl
          have HBAD := Lib.hid hbad
          have hlen : (s.data.toList.set k (s.data.toList.getD k 0 ^^^ UInt8.ofNat y)).length = s.size := by rw [List.length_set, data_length]
          have hconv := run_textM (P := Try.prog) w10.drew 51 9 5 bytely (HM10.out.keptNo ((Kp.refl _ _).drew))
          rw [hlen, HBL.out] at hconv
          have s0 : w10.cell? ⟨ga, 0, none⟩ = some (.int .i64 (s.size : Int)) := HS10.out.cell rfl
          have s1 : w10.cell? ⟨ga, 1, none⟩ = some (.slice A3 L.length c3) := HS10.out.cell rfl
          clear hcl hbad hlen
          go_wp2_with fail
          refine Reg.wp_region_plan [⟨0, false, []⟩, ⟨1, false, []⟩, ⟨2, true, [0]⟩, ⟨3, true, [0]⟩, ⟨4, true, []⟩, ⟨5, false, []⟩, ⟨6, false, []⟩, ⟨7, false, []⟩, ⟨8, false, []⟩, ⟨9, false, []⟩] rfl (by kernel_rfl) ?_
          repeat (first | (refine Reg.look rfl rfl rfl (by go_simp; rfl) rfl ?_; go_simp) | (refine Reg.skip rfl rfl rfl ?_; go_simp))
          refine Reg.act rfl ?_
          go_wp2_with fail
          (refine ⟨?anew, ?_⟩; case anew => ((repeat (refine Reg.anew_cons rfl rfl (fun _ => by go_simp) ?_)); exact Reg.anew_nil))
          repeat (first | (refine Reg.look rfl rfl rfl (by go_simp; rfl) rfl ?_; go_simp) | (refine Reg.skip rfl rfl rfl ?_; go_simp))
          refine Reg.act rfl ?_
          go_wp2_with fail
          refine (c_cut B w10.drew (by omega)).mono ?_
          rintro e w11 ⟨A11, c11, rfl, ho11, hk11⟩
          rw [HCB.out] at ho11 ⊢
          have hk11' : Kp No w10 w11 := (Kp.refl _ _).drew.trans' hk11
          have HD11 := Lib.hid ho11
          have HS11 := Lib.hid (HS10.out.kept hk11' (fun x => x))
          have HO11 := Lib.hid (Rp.str.slice.keptNo HO10.out hk11')
          have HC11 := Lib.hid (HC10.out.keptNo hk11')
          have HK11 := Lib.hid (HK10.out.trans' hk11')
          clear ho11 hk11 hk11' hconv s0 s1 HS10 HO10 HC10 HM10 HK10
          have s0 : w11.cell? ⟨ga, 0, none⟩ = some (.int .i64 (s.size : Int)) := HS11.out.cell rfl
          have s1 : w11.cell? ⟨ga, 1, none⟩ = some (.slice A3 L.length c3) := HS11.out.cell rfl
          go_wp2_with fail
          (refine ⟨?anew, ?_⟩; case anew => ((repeat (refine Reg.anew_cons rfl rfl (fun _ => by go_simp) ?_)); exact Reg.anew_nil))
          repeat (first | (refine Reg.look rfl rfl rfl (by go_simp; rfl) rfl ?_; go_simp) | (refine Reg.skip rfl rfl rfl ?_; go_simp))
          refine Reg.act rfl ?_
          go_wp2_with fail
          refine (c_build (s.size : Int) L A3 c3 w11 _ HO11.out (by omega) (by omega) hll CB A11 c11 _ HD11.out (by omega) HCBS.out hjb).mono ?_
          rintro e w12 ⟨hba, hk12⟩
          unfold BuildAns at hba
          rw [HBAD.out] at hba
          subst hba
          have HS12 := Lib.hid (HS11.out.kept hk12 (fun x => x))
          have HO12 := Lib.hid (Rp.str.slice.keptNo HO11.out hk12)
          have HC12 := Lib.hid (HC11.out.keptNo hk12)
          have HK12 := Lib.hid (HK11.out.trans' hk12)
          clear hk12 s0 s1 HS11 HO11 HC11 HK11 HD11
          go_wp2_with fail
          (refine ⟨?anew, ?_⟩; case anew => ((repeat (refine Reg.anew_cons rfl rfl (fun _ => by go_simp) ?_)); exact Reg.anew_nil))
          repeat (first | (refine Reg.look rfl rfl rfl (by go_simp; rfl) rfl ?_; go_simp) | (refine Reg.skip rfl rfl rfl ?_; go_simp))
          (refine Reg.done ?_; simp only [Exit.then])
          go_wp2_with fail
          refine (r_clash C A5 c5 w12 (fun _ => True) ((HC12.out.str_any (fun _ => True)).read (fun _ _ => trivial)) (by omega) HCS.out).mono ?_
          rintro e w6 ⟨rfl, hk6⟩
          have HS6 := Lib.hid (HS12.out.kept hk6 (fun x => x))
          have HO6 := Lib.hid (Rp.str.slice.keptNo HO12.out hk6)
          have HC6 := Lib.hid (HC12.out.keptNo hk6)
          have HK6 := Lib.hid (HK12.out.trans' hk6)
          clear hk6
          by_cases hcl : NoClash C
          · rw [decide_eq_true hcl]
            have HCL := Lib.hid hcl
            clear hcl
            have hC3 : IntKind.u64.wrap (C.length : Int) = (C.length : Int) := by simp [IntKind.wrap, IntKind.signed, IntKind.bits]; omega
            have hCn : ¬ C = [] := fun h => by rw [h] at hca; simp at hca
            obtain ⟨i, hiw, hiw2, hil⟩ := urem av C.length (by omega) (by omega)
            obtain ⟨k2, hk2w, hk2w2, hk2l⟩ := urem (y : Int) C.length (by omega) (by omega)
            go_wp2_with fail
            refine Reg.wp_region_plan [⟨0, false, []⟩, ⟨1, false, []⟩, ⟨2, false, []⟩, ⟨3, false, []⟩, ⟨4, false, []⟩, ⟨5, false, []⟩, ⟨6, false, []⟩, ⟨7, false, []⟩, ⟨8, false, []⟩, ⟨9, false, []⟩, ⟨10, false, []⟩, ⟨11, false, []⟩, ⟨12, false, []⟩, ⟨13, false, []⟩, ⟨14, false, []⟩, ⟨15, false, []⟩] rfl (by kernel_rfl) ?_
            repeat (first | (refine Reg.look rfl rfl rfl (by go_simp; rfl) rfl ?_; go_simp) | (refine Reg.skip rfl rfl rfl ?_; go_simp))
            (refine Reg.done ?_; simp only [Exit.then])
            obtain ⟨x, hx⟩ : ∃ x, C[i]? = some x := ⟨_, List.getElem?_eq_getElem hil⟩
            obtain ⟨z, hz⟩ : ∃ z, C[k2]? = some z := ⟨_, List.getElem?_eq_getElem hk2l⟩
            obtain ⟨gc, hA5, hgb, hgcl, hcx, hfx, _⟩ := Own.cellBy Rp.str_by HC6.out hx
            obtain ⟨gc', hA5', _, _, hcz, hfz, _⟩ := Own.cellBy Rp.str_by HC6.out hz
            rw [hA5] at hA5'
            injection hA5' with hA5'
            injection hA5' with hA5'
            subst hA5' hA5
            have hili : (i : Int) < (C.length : Int) := by omega
            have hk2li : (k2 : Int) < (C.length : Int) := by omega
            have hC1 : (1 : Int) ≤ (C.length : Int) := by omega
            have HX := Lib.hid hx
            have HZ := Lib.hid hz
            have hxs := HCS.out x (List.mem_of_getElem? hx)
            have hzs := HCS.out z (List.mem_of_getElem? hz)
            have hgw4 : W.heap.size ≤ gc := by omega
            have hgcl2 := hgcl
            clear hx hz
            by_cases hxz : x = z
            · have hne0 : (x.toList == z.toList) = true := by rw [bytes_list_beq]; exact decide_eq_true hxz
              have hne : (x.toList != z.toList) = false := by unfold bne; rw [hne0]; rfl
              clear hxz
              go_wp2_with fail
              refine Reg.wp_region_plan [⟨0, false, []⟩, ⟨1, false, []⟩, ⟨2, false, []⟩, ⟨3, false, []⟩, ⟨4, false, []⟩, ⟨5, false, []⟩, ⟨6, false, []⟩, ⟨7, false, []⟩, ⟨8, false, []⟩] rfl (by kernel_rfl) ?_
              repeat (first | (refine Reg.look rfl rfl rfl (by go_simp; rfl) rfl ?_; go_simp) | (refine Reg.skip rfl rfl rfl ?_; go_simp))
              (refine Reg.done ?_; simp only [Exit.then])
              go_wp2_with fail
              have hs22 : Blk (w6.drew.drew) ga 34 [.int .i64 (s.size : Int), .slice A3 L.length c3] := (HS6.out.kept (S := No) ((Kp.refl _ _).drew.drew) (fun x => x))
              have ho22 := (Rp.str.slice.keptNo HO6.out ((Kp.refl _ _).drew.drew))
              have hk22 : Kp No W (w6.drew.drew) := HK6.out.drew.drew
              have HO22 := Lib.hid ho22
              have HK22 := Lib.hid hk22
              have HS22 := Lib.hid hs22
              have s0 : Go.World.cell? (w6.drew.drew) ⟨ga, 0, none⟩ = some (.int .i64 (s.size : Int)) := HS22.out.cell rfl
              have s1 : Go.World.cell? (w6.drew.drew) ⟨ga, 1, none⟩ = some (.slice A3 L.length c3) := HS22.out.cell rfl
              clear ho22 hk22 hs22
              refine Reg.wp_region_plan [⟨0, false, []⟩, ⟨1, false, []⟩, ⟨2, false, []⟩, ⟨3, true, []⟩, ⟨4, false, []⟩, ⟨5, false, []⟩, ⟨6, false, []⟩, ⟨7, false, []⟩, ⟨8, false, []⟩] rfl (by kernel_rfl) ?_
              repeat (first | (refine Reg.look rfl rfl rfl (by go_simp; rfl) rfl ?_; go_simp) | (refine Reg.skip rfl rfl rfl ?_; go_simp))
              refine Reg.act rfl ?_
              have hlne : C.length - 1 ≠ L.length := by rw [HLC.out]; omega
              have hbl := fun w hl A2 c2 => c_build_len (s.size : Int) L A3 c3 w (fun k => k < ga) hl (by omega) (by omega) hll HOKS.out (C.length - 1) A2 c2 hlne
              have HBLN := Lib.hid hbl
              clear hbl hlne
              go_wp2_with fail
              all_goals refine (HBLN.out _ (Rp.str.slice.keptNo HO22.out (Kp.refl _ _).drew) _ _).mono ?_
              all_goals rintro e w23 ⟨rfl, hk23⟩
              all_goals have HK23 := Lib.hid (HK22.out.trans' ((Kp.refl _ _).drew.trans' hk23))
              all_goals clear hk23 s0 s1
              all_goals go_wp2_with fail
              all_goals (refine ⟨?anew, ?_⟩; case anew => ((repeat (refine Reg.anew_cons rfl rfl (fun _ => by go_simp) ?_)); exact Reg.anew_nil))
              all_goals repeat (first | (refine Reg.look rfl rfl rfl (by go_simp; rfl) rfl ?_; go_simp) | (refine Reg.skip rfl rfl rfl ?_; go_simp))
              all_goals (refine Reg.done ?_; simp only [Exit.then])
              all_goals go_wp2_with fail
              all_goals go_ret
              all_goals exact ⟨rfl, HK23.out⟩
            · have hne0 : (x.toList == z.toList) = false := by rw [bytes_list_beq]; exact decide_eq_false hxz
              have hne : (x.toList != z.toList) = true := by unfold bne; rw [hne0]; rfl
              have HXZ := Lib.hid hxz
              clear hxz
              go_wp2_with fail
              refine Reg.wp_region_plan [⟨0, false, []⟩, ⟨1, false, []⟩, ⟨2, false, []⟩, ⟨3, false, []⟩, ⟨4, false, []⟩, ⟨5, false, []⟩, ⟨6, false, []⟩, ⟨7, false, []⟩, ⟨8, false, []⟩] rfl (by kernel_rfl) ?_
              repeat (first | (refine Reg.look rfl rfl rfl (by go_simp; rfl) rfl ?_; go_simp) | (refine Reg.skip rfl rfl rfl ?_; go_simp))
              (refine Reg.done ?_; simp only [Exit.then])
              go_wp2_with fail
              refine Reg.wp_region_plan [⟨0, false, []⟩, ⟨1, false, []⟩, ⟨2, false, []⟩, ⟨3, false, []⟩, ⟨4, false, []⟩, ⟨5, false, []⟩, ⟨6, false, []⟩, ⟨7, false, []⟩, ⟨8, false, []⟩, ⟨9, false, []⟩, ⟨10, false, []⟩, ⟨11, false, []⟩, ⟨12, false, []⟩, ⟨13, true, []⟩, ⟨14, false, []⟩, ⟨15, true, []⟩] rfl (by kernel_rfl) ?_
              repeat (first | (refine Reg.look rfl rfl rfl (by go_simp; rfl) rfl ?_; go_simp) | (refine Reg.skip rfl rfl rfl ?_; go_simp))
              have hik : ¬ i = k2 := fun h => HXZ.out (by have h1 := HX.out; have h2 := HZ.out; rw [h] at h1; rw [h1] at h2; injection h2)
              have hki : ¬ k2 = i := fun h => hik h.symm
              refine Reg.act rfl ?_
              go_wp2
              (refine ⟨?anew, ?_⟩; case anew => ((repeat (refine Reg.anew_cons rfl rfl (fun _ => by go_simp) ?_)); exact Reg.anew_nil))
              repeat (first | (refine Reg.look rfl rfl rfl (by go_simp; rfl) rfl ?_; go_simp) | (refine Reg.skip rfl rfl rfl ?_; go_simp))
              refine Reg.act rfl ?_
              go_wp2
              refine ⟨Reg.anew_nil, ?_⟩
              (refine Reg.done ?_; simp only [Exit.then])
              have hst1 := Own.storeBy Rp.str_by HC6.out (i := i) hil (a := z) (by unfold maxLen; omega)
              have hl1 : (C.set i z).length = C.length := List.length_set
              rw [← hl1] at hst1
              have hst2 := Own.storeBy Rp.str_by hst1 (i := k2) (by rw [hl1]; exact hk2l) (a := x) (by unfold maxLen; omega)
              rw [hl1] at hst2
              obtain ⟨C2, hC2⟩ : ∃ C2, swapB C i k2 x z = C2 := ⟨_, rfl⟩
              have hC2l : C2.length = C.length := by rw [← hC2]; unfold swapB; rw [List.length_set, List.length_set]
              rw [show (C.set i z).set k2 x = C2 from hC2] at hst2
              have hbad := HSB.out i k2 x z HX.out HZ.out HXZ.out HCL.out
              rw [hC2] at hbad
              have hcs2 : ∀ q ∈ C2, q.size ≤ 1048576 := fun q hq => by
                rw [← hC2] at hq
                unfold swapB at hq
                rcases List.mem_or_eq_of_mem_set hq with hq | rfl
                · rcases List.mem_or_eq_of_mem_set hq with hq | rfl
                  · exact HCS.out q hq
                  · exact hzs
                · exact hxs
              have hjl : (joinB C2).size ≤ 1048576 := by
                have h64 : ∀ q ∈ C2, q.size ≤ 64 := fun q hq => by
                  rw [← hC2] at hq
                  unfold swapB at hq
                  rcases List.mem_or_eq_of_mem_set hq with hq | rfl
                  · rcases List.mem_or_eq_of_mem_set hq with hq | rfl
                    · exact HC64.out q hq
                    · exact HC64.out _ (List.mem_of_getElem? HZ.out)
                  · exact HC64.out _ (List.mem_of_getElem? HX.out)
                have := joinB_le C2 h64
                omega
              have hkst : Kp (· = gc) w6 ((w6.setCell ⟨gc, i, none⟩ (.string z)).setCell ⟨gc, k2, none⟩ (.string x)) := ((Kp.refl (· = gc) w6).setCell (p := ⟨gc, i, none⟩) (fun _ => rfl) _).setCell (p := ⟨gc, k2, none⟩) (fun _ => rfl) _
              have HS18 := Lib.hid (HS6.out.kept hkst (fun e => by omega))
              have HO18 := Lib.hid (Rp.str.slice.kept HO6.out hkst (fun j hj _ e => by have h1 : j < ga := hj; omega))
              have HK18 := Lib.hid (HK6.out.trans hkst (fun j hj e => by omega))
              obtain ⟨w18, hw18⟩ : ∃ w18, ((w6.setCell ⟨gc, i, none⟩ (.string z)).setCell ⟨gc, k2, none⟩ (.string x)).drew.drew.drew = w18 := ⟨_, rfl⟩
              have hkd : Kp No ((w6.setCell ⟨gc, i, none⟩ (.string z)).setCell ⟨gc, k2, none⟩ (.string x)) w18 := by rw [← hw18]; exact (Kp.refl _ _).drew.drew.drew
              have hst3 := hst2.keptNo hkd
              rw [← hC2l] at hst3
              have HST := Lib.hid hst3
              have HBAD2 := Lib.hid hbad
              have HCS2 := Lib.hid hcs2
              have HS19 := Lib.hid (HS18.out.kept hkd (fun x => x))
              have HO19 := Lib.hid (Rp.str.slice.keptNo HO18.out hkd)
              have HK19 := Lib.hid (HK18.out.trans' hkd)
              have s0 : w18.cell? ⟨ga, 0, none⟩ = some (.int .i64 (s.size : Int)) := HS19.out.cell rfl
              have s1 : w18.cell? ⟨ga, 1, none⟩ = some (.slice A3 L.length c3) := HS19.out.cell rfl
              have HC2L := Lib.hid hC2l
              rw [hw18, ← hC2l]
              clear hst1 hst2 hst3 hl1 hC2 hbad hcs2 hkst hkd hcx hcz hfx hfz hne0 hne hw18 hC2l HS18 HO18 HK18
              go_wp2_with fail
              refine (c_build (s.size : Int) L A3 c3 w18 _ HO19.out (by omega) (by omega) hll C2 _ c5 _ HST.out (by have := HC2L.out; omega) HCS2.out hjl).mono ?_
              rintro e w20 ⟨hba, hk20⟩
              unfold BuildAns at hba
              rw [HBAD2.out] at hba
              subst hba
              have HS20 := Lib.hid (HS19.out.kept hk20 (fun x => x))
              have HO20 := Lib.hid (Rp.str.slice.keptNo HO19.out hk20)
              have HK20 := Lib.hid (HK19.out.trans' hk20)
              clear hk20 s0 s1 HS19 HO19 HK19 HST
              go_wp2_with fail
              rw [HC2L.out]
              have hs22 : Blk (w20) ga 34 [.int .i64 (s.size : Int), .slice A3 L.length c3] := HS20.out
              have ho22 := HO20.out
              have hk22 : Kp No W (w20) := HK20.out
              have HO22 := Lib.hid ho22
              have HK22 := Lib.hid hk22
              have HS22 := Lib.hid hs22
              have s0 : Go.World.cell? (w20) ⟨ga, 0, none⟩ = some (.int .i64 (s.size : Int)) := HS22.out.cell rfl
              have s1 : Go.World.cell? (w20) ⟨ga, 1, none⟩ = some (.slice A3 L.length c3) := HS22.out.cell rfl
              clear ho22 hk22 hs22
              refine Reg.wp_region_plan [⟨0, false, []⟩, ⟨1, false, []⟩, ⟨2, false, []⟩, ⟨3, true, []⟩, ⟨4, false, []⟩, ⟨5, false, []⟩, ⟨6, false, []⟩, ⟨7, false, []⟩, ⟨8, false, []⟩] rfl (by kernel_rfl) ?_
              repeat (first | (refine Reg.look rfl rfl rfl (by go_simp; rfl) rfl ?_; go_simp) | (refine Reg.skip rfl rfl rfl ?_; go_simp))
              refine Reg.act rfl ?_
              have hlne : C.length - 1 ≠ L.length := by rw [HLC.out]; omega
              have hbl := fun w hl A2 c2 => c_build_len (s.size : Int) L A3 c3 w (fun k => k < ga) hl (by omega) (by omega) hll HOKS.out (C.length - 1) A2 c2 hlne
              have HBLN := Lib.hid hbl
              clear hbl hlne
              go_wp2_with fail
              all_goals refine (HBLN.out _ (Rp.str.slice.keptNo HO22.out (Kp.refl _ _).drew) _ _).mono ?_
              all_goals rintro e w23 ⟨rfl, hk23⟩
              all_goals have HK23 := Lib.hid (HK22.out.trans' ((Kp.refl _ _).drew.trans' hk23))
              all_goals clear hk23 s0 s1
              all_goals go_wp2_with fail
              all_goals (refine ⟨?anew, ?_⟩; case anew => ((repeat (refine Reg.anew_cons rfl rfl (fun _ => by go_simp) ?_)); exact Reg.anew_nil))
              all_goals repeat (first | (refine Reg.look rfl rfl rfl (by go_simp; rfl) rfl ?_; go_simp) | (refine Reg.skip rfl rfl rfl ?_; go_simp))
              all_goals (refine Reg.done ?_; simp only [Exit.then])
              all_goals go_wp2_with fail
              all_goals go_ret
              all_goals exact ⟨rfl, HK23.out⟩
          · rw [decide_eq_false hcl]
            clear hcl
            go_wp2_with fail
            go_ret
            exact ⟨rfl, HK6.out⟩
        · rw [decide_eq_false hcl]
          clear hcl
          go_wp2_with fail
          go_ret
          exact ⟨rfl, HK10.out⟩
theorem sheetElse_holds : Rows.SheetElseSaid := sheetElse_of sheetElse_walk
#print axioms sheetElse_holds
end Go.Proofs.Ytejmbbnndagejaa
