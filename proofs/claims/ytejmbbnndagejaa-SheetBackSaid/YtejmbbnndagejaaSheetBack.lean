/-
  What was made of bytes builds them, out of their chunks, also when the sheet was written and read: SheetBack answers true for every input. No condition.
-/
import Derived.Test.YtejmbbnndagejaaH5
import Derived.Test.YtejmbbnndagejaaV1
import Derived.Test.YtejmbbnndagejaaFSheetBack
namespace Go.Proofs.Ytejmbbnndagejaa
open Go.RowKit Go.ChangeShapes Go.WideShapes Go.ChangeAt

theorem parse_pack {n : Int} {l : List ByteArray} (h : okSheet n l = true) : parseS (packB n l) = some (n, l) := by
  have h' := h
  unfold okSheet at h'
  rw [Bool.and_eq_true, decide_eq_true_eq, List.all_eq_true] at h'
  obtain ⟨⟨h0, h1, h2⟩, h3⟩ := h'
  have hsz : ∀ s ∈ l, s.size < 9223372036854775808 := fun s hs => by have := h3 s hs; simp at this; omega
  have hcn : cnt n ≤ 9 := by unfold cnt; split <;> omega
  unfold packB
  rw [List.append_assoc]
  have e1 := rdNum_numB n (numB l.length ++ textsB l) (by omega) (by omega)
  have e2 := rdNum_numB (l.length : Int) (textsB l) (by omega) (by omega)
  have e3 := rdTexts_textsB l [] hsz
  rw [List.append_nil] at e3
  rw [parseS_on (k := l.length) e1 e2, parseOn_some e3, if_pos ⟨rfl, h⟩]
theorem pack_size {n : Int} {l : List ByteArray} (h : okSheet n l = true) : (packB n l).length ≤ 1000 ∧ (textsB l).length ≤ 900 ∧ l.length ≤ 9 ∧ 0 ≤ n ∧ n ≤ 512 ∧ ∀ s ∈ l, s.size = 32 := by
  unfold okSheet at h
  rw [Bool.and_eq_true, decide_eq_true_eq, List.all_eq_true] at h
  obtain ⟨⟨h0, h1, h2⟩, h3⟩ := h
  have hcn : cnt n ≤ 9 := by unfold cnt; split <;> omega
  have h4 : ∀ m : List ByteArray, (∀ s ∈ m, (s.size == 32) = true) → (textsB m).length ≤ 42 * m.length := by
    intro m
    induction m with
    | nil => intro _; simp [textsB]
    | cons x m ih =>
      intro hm
      have h5 := ih (fun s hs => hm s (List.mem_cons_of_mem _ hs))
      have h6 := hm x (List.mem_cons_self ..)
      simp at h6
      have e2 : textsB (x :: m) = textB x ++ textsB m := by unfold textsB; rw [List.flatMap_cons]
      have h7 : (textB x).length ≤ 10 + x.size := by
        unfold textB
        rw [List.length_append, data_length]
        have := numB_length (x.size : Int) (by omega) (by omega)
        omega
      rw [e2, List.length_append, List.length_cons]
      omega
  have h5 := h4 l h3
  have h6 := numB_length n (by omega) (by omega)
  have h7 := numB_length (l.length : Int) (by omega) (by omega)
  refine ⟨?_, by omega, by omega, h0, h1, fun s hs => by have := h3 s hs; simpa using this⟩
  unfold packB
  rw [List.length_append, List.length_append]
  omega

set_option maxRecDepth 100000 in
set_option maxHeartbeats 2000000 in
theorem sheetBack_walk : SheetBackWalk := by
  intro W v0 s h0
  obtain ⟨h0, w0⟩ := h0
  simp only [List.cons.injEq, and_true] at h0
  subst h0
  unfold maxLen at w0
  go_enter Try.func12, Try.ntmps12
  go_wp2_with fail
  refine (awake08 _).mono ?_
  rintro e w2 ⟨rfl, hk2⟩
  have HK2 := Lib.hid hk2
  clear hk2
  by_cases b1 : 512 < s.size
  · go_wp2_with fail
    refine (awake08 _).mono ?_
    rintro e w3 ⟨rfl, hk3⟩
    go_wp2_with fail
    go_ret
    exact ⟨rfl, HK2.out.trans' hk3⟩
  · have hok := okSheet_made s (by omega)
    have hbuild : buildA (s.size : Int) (hashesB s) (cutsB s) = (s, 0) := by
      have hj := joinB_cuts s
      rw [buildA_all hok (by unfold hashesB; rw [List.length_map]) rfl (by rw [hj]), hj]
    have hcz : ∀ x ∈ cutsB s, x.size ≤ 1048576 := fun x hx => by have := cutsB_sizes s x hx; omega
    have hcl : (cutsB s).length ≤ 9 := by rw [cutsB_length]; omega
    have hjz : (joinB (cutsB s)).size ≤ 1048576 := by rw [joinB_cuts s]; omega
    have hps := pack_size hok
    have hpp := parse_pack hok
    have hchk : chkN (s.size : Int) (hashesB s) = 0 := by unfold chkN; rw [hok]; rfl
    have HB := Lib.hid hbuild
    have HCZ := Lib.hid hcz
    have HPS := Lib.hid hps
    have HPP := Lib.hid hpp
    have HCHK := Lib.hid hchk
    clear hbuild hcz hps hpp hchk hok
    go_wp2_with fail
    refine (c_make s _ (by omega)).mono ?_
    rintro e w3 ⟨⟨A3, c3, rfl, ho3⟩, hk3⟩
    obtain ⟨L, hL⟩ : ∃ L, hashesB s = L := ⟨_, rfl⟩
    rw [hL] at ho3 HB HPS HPP HCHK ⊢
    obtain ⟨C, hC⟩ : ∃ C, cutsB s = C := ⟨_, rfl⟩
    rw [hC] at HB HCZ hcl hjz
    have HC := Lib.hid hC
    have HK3 := Lib.hid (HK2.out.trans' hk3)
    have HO3 := Lib.hid ((ho3.str_any (fun _ => True)).read (fun _ _ => trivial))
    clear hk3 HK2 hL ho3 hC
    go_wp2_with fail
    obtain ⟨w4, hw4⟩ : ∃ w4, w3.alloc (.cells #[.int .i64 (s.size : Int), .slice A3 L.length c3] 34) = w4 := ⟨_, rfl⟩
    have HS4 : Hid (Blk w4 w3.heap.size 34 [.int .i64 (s.size : Int), .slice A3 L.length c3]) := Lib.hid (by rw [← hw4]; exact Blk.new w3 _ _)
    have hk34 : Kp No w3 w4 := by rw [← hw4]; exact (Kp.refl _ _).alloc _
    have HO4 := Lib.hid (Rp.str.slice.keptNo HO3.out hk34)
    have HK4 := Lib.hid (HK3.out.trans' hk34)
    obtain ⟨ga, hga⟩ : ∃ ga, w3.heap.size = ga := ⟨_, rfl⟩
    rw [hw4, hga]
    rw [hga] at HS4
    clear hw4 hk34 hga HO3 HK3
    have hll : L.length ≤ 1000000 := by have := HPS.out.2.2.1; omega
    refine (c_packS (s.size : Int) L A3 c3 w4 _ HO4.out (by omega) (by omega) (fun x hx => by have := HPS.out.2.2.2.2.2 x hx; omega) (by have := HPS.out.2.1; omega) hll).mono ?_
    rintro e w5 ⟨rfl, hk5⟩
    have HS5 := Lib.hid (HS4.out.kept hk5 (fun x => x))
    have HO5 := Lib.hid (Rp.str.slice.keptNo HO4.out hk5)
    have HK5 := Lib.hid (HK4.out.trans' hk5)
    have hcp := c_parse (bs (packB (s.size : Int) L)) w5 (by rw [bs_size]; have := HPS.out.1; omega)
    rw [bs_data, HPP.out] at hcp
    obtain ⟨T, hT⟩ : ∃ T, bs (packB (s.size : Int) L) = T := ⟨_, rfl⟩
    rw [hT] at hcp ⊢
    have HCP := Lib.hid hcp
    clear hk5 HS4 HO4 HK4 hcp hT
    go_wp2_with fail
    refine HCP.out.mono ?_
    rintro e w6 ⟨⟨A6, c6, rfl, ho6⟩, hk6⟩
    have HS6 := Lib.hid (HS5.out.kept hk6 (fun x => x))
    have HO6 := Lib.hid (Rp.str.slice.keptNo HO5.out hk6)
    have HK6 := Lib.hid (HK5.out.trans' hk6)
    have HT6 := Lib.hid ((ho6.str_any (fun _ => True)).read (fun _ _ => trivial))
    clear hk6 ho6 HS5 HO5 HK5 HCP
    go_wp2_with fail
    obtain ⟨w7, hw7⟩ : ∃ w7, w6.alloc (.cells #[.int .i64 (s.size : Int), .slice A6 L.length c6] 34) = w7 := ⟨_, rfl⟩
    have HR7 : Hid (Blk w7 w6.heap.size 34 [.int .i64 (s.size : Int), .slice A6 L.length c6]) := Lib.hid (by rw [← hw7]; exact Blk.new w6 _ _)
    have hk67 : Kp No w6 w7 := by rw [← hw7]; exact (Kp.refl _ _).alloc _
    have HS7 := Lib.hid (HS6.out.kept hk67 (fun x => x))
    have HO7 := Lib.hid (Rp.str.slice.keptNo HO6.out hk67)
    have HT7 := Lib.hid (Rp.str.slice.keptNo HT6.out hk67)
    have HK7 := Lib.hid (HK6.out.trans' hk67)
    obtain ⟨gb, hgb⟩ : ∃ gb, w6.heap.size = gb := ⟨_, rfl⟩
    rw [hw7, hgb]
    rw [hgb] at HR7
    clear hw7 hk67 hgb HO6 HK6 HT6 HS6
    have t0 : w7.cell? ⟨gb, 0, none⟩ = some (.int .i64 (s.size : Int)) := HR7.out.cell rfl
    have t1 : w7.cell? ⟨gb, 1, none⟩ = some (.slice A6 L.length c6) := HR7.out.cell rfl
    refine Reg.wp_region_plan [⟨0, false, []⟩, ⟨1, false, []⟩, ⟨2, true, [0]⟩, ⟨3, true, []⟩, ⟨4, false, []⟩, ⟨5, false, []⟩, ⟨6, false, []⟩, ⟨7, false, []⟩, ⟨8, false, []⟩] rfl (by kernel_rfl) ?_
    repeat (first | (refine Reg.look rfl rfl rfl (by go_simp; rfl) rfl ?_; go_simp) | (refine Reg.skip rfl rfl rfl ?_; go_simp))
    refine Reg.act rfl ?_
    go_wp2_with fail
    refine (c_cut s w7.drew (by omega)).mono ?_
    rintro e w8 ⟨A8, c8, rfl, ho8, hk8⟩
    rw [HC.out] at ho8 ⊢
    have hk8' : Kp No w7 w8 := (Kp.refl _ _).drew.trans' hk8
    have HC8 := Lib.hid ho8
    have HR8 := Lib.hid (HR7.out.kept hk8' (fun x => x))
    have HS8 := Lib.hid (HS7.out.kept hk8' (fun x => x))
    have HO8 := Lib.hid (Rp.str.slice.keptNo HO7.out hk8')
    have HT8 := Lib.hid (Rp.str.slice.keptNo HT7.out hk8')
    have HK8 := Lib.hid (HK7.out.trans' hk8')
    clear ho8 hk8 hk8' t0 t1 HR7 HS7 HO7 HT7 HK7
    have t0 : w8.cell? ⟨gb, 0, none⟩ = some (.int .i64 (s.size : Int)) := HR8.out.cell rfl
    have t1 : w8.cell? ⟨gb, 1, none⟩ = some (.slice A6 L.length c6) := HR8.out.cell rfl
    go_wp2_with fail
    (refine ⟨?anew, ?_⟩; case anew => ((repeat (refine Reg.anew_cons rfl rfl (fun _ => by go_simp) ?_)); exact Reg.anew_nil))
    repeat (first | (refine Reg.look rfl rfl rfl (by go_simp; rfl) rfl ?_; go_simp) | (refine Reg.skip rfl rfl rfl ?_; go_simp))
    refine Reg.act rfl ?_
    go_wp2_with fail
    refine (c_build (s.size : Int) L A6 c6 w8 _ HT8.out (by omega) (by omega) hll C A8 c8 _ HC8.out (by omega) HCZ.out hjz).mono ?_
    rintro e w9 ⟨hba, hk9⟩
    unfold BuildAns at hba
    rw [HB.out] at hba
    subst hba
    have HS9 := Lib.hid (HS8.out.kept hk9 (fun x => x))
    have HO9 := Lib.hid (Rp.str.slice.keptNo HO8.out hk9)
    have HK9 := Lib.hid (HK8.out.trans' hk9)
    clear hk9 t0 t1 HR8 HS8 HO8 HT8 HK8 HC8
    have hss : (s.toList == s.toList) = true := by rw [bytes_list_beq]; exact decide_eq_true rfl
    have s0 : w9.cell? ⟨ga, 0, none⟩ = some (.int .i64 (s.size : Int)) := HS9.out.cell rfl
    have s1 : w9.cell? ⟨ga, 1, none⟩ = some (.slice A3 L.length c3) := HS9.out.cell rfl
    go_wp2_with fail
    (refine ⟨?anew, ?_⟩; case anew => ((repeat (refine Reg.anew_cons rfl rfl (fun _ => by go_simp) ?_)); exact Reg.anew_nil))
    repeat (first | (refine Reg.look rfl rfl rfl (by go_simp; rfl) rfl ?_; go_simp) | (refine Reg.skip rfl rfl rfl ?_; go_simp))
    (refine Reg.done ?_; simp only [Exit.then])
    go_wp2_with fail
    have hck := c_check (s.size : Int) L A3 c3 w9 _ HO9.out (by omega) (by omega) hll
    rw [HCHK.out] at hck
    refine hck.mono ?_
    rintro e w10 ⟨rfl, hk10⟩
    have HK10 := Lib.hid (HK9.out.trans' hk10)
    clear hk10 hck
    go_wp2_with fail
    go_ret
    exact ⟨rfl, HK10.out⟩
theorem sheetBack_holds : Rows.SheetBackSaid := sheetBack_of sheetBack_walk
#print axioms sheetBack_holds
end Go.Proofs.Ytejmbbnndagejaa
