import Derived.Test.YtkghckeoplolpaaT5
namespace Go.Proofs.Ytkghckeoplolpaa
open Go.RowKit Go.ChangeShapes Go.WideShapes Go.ChangeAt

theorem r19_none (m t : Int) (A : Option Addr) (c : Nat) (w : World) :
    Calls Try.prog 19 #[.int .i64 m, .int .i64 t, .slice A 0 c] w fun e w' => e = .returned (.tuple #[.int .i64 (-1), .slice none 0 0]) ∧ w = w' := by
  go_enter Try.func19, Try.ntmps19
  go_wp2
  go_ret2
  exact ⟨rfl, rfl⟩

theorem raw_one {w : World} : ∀ cs a S', Rp.raw.R w S' cs a → ∀ u ∈ cs, u.oneCell' = true := by
  rintro cs a S' ⟨rfl, h⟩ u hu
  simp only [List.mem_cons, List.not_mem_nil, or_false] at hu
  subst hu; exact h

theorem Own.raw_any {w : World} {S S' : Nat → Prop} {base e : Nat} {v : Value} {l : List Value} (h : Own Rp.raw w S base e v l) : Own Rp.raw w S' base e v l :=
  Own.of_raw (Own.raw_vals h).1 (Own.raw_vals h).2


set_option maxHeartbeats 4000000 in
theorem r19_tick (m t : Nat) (l : List ByteArray) (A : Option Addr) (c : Nat) (w : World) (S : Nat → Prop) (hl : Rp.str.slice.R w S [.slice A l.length c] l) (hS : ∀ k, S k → k < w.heap.size) (hm : m ≤ 5) (ht : t ≤ 1000000) (hn : 0 < l.length) (hn2 : l.length ≤ 1000000) :
    Calls Try.prog 19 #[.int .i64 m, .int .i64 t, .slice A l.length c] w fun e w' =>
      (∃ A' c', e = .returned (.tuple #[.int .i64 (hTo m t), .slice A' (hGot t l).length c']) ∧ Rp.str.slice.R w' (fun k => w.heap.size ≤ k) [.slice A' (hGot t l).length c'] (hGot t l)) ∧ Kp No w w' := by
  have HL := Lib.hid hl
  clear hl
  have hl0 : ((l.length : Int) == 0) = false := by rw [beq_eq_false_iff_ne]; omega
  go_enter Try.func19, Try.ntmps19
  go_wp2
  clear hl0
  go_loopw [8, 9] (fun v i wr => ∃ k : Nat, k ≤ l.length ∧ i = .int .i64 k ∧ RowsAt l w.heap.size v k ((k + 3) / 4) wr ∧ Kp No w wr) (fun _ i _ => l.length - (intOf i).toNat)
  case atStart => exact ⟨0, Nat.zero_le _, rfl, RowsAt.start _ _ _, Kp.refl _ _⟩
  case round =>
    obtain ⟨k, hk, rfl, hr, hkp⟩ := hrel
    have HR := Lib.hid hr
    have HK := Lib.hid hkp
    clear hr hkp
    by_cases hlt : k < l.length
    · by_cases hk4 : k % 4 = 0
      · have hd : (((k : Int) % 4) == 0) = true := by simp; omega
        obtain ⟨vals, h1, h2, h3, h4⟩ := HR.out
        obtain ⟨Av, cv, rfl⟩ := h1.shape
        have H1 := Lib.hid h1
        have H2 := Lib.hid h2
        have H3 := Lib.hid h3
        have H4 := Lib.hid h4
        have hvl : vals.length ≤ 1000000 := by omega
        clear h1 h2 h3 h4 HR
        go_wp2_with (at_builtin; refine wpList_append_rp (E := Rp.raw) rfl _ (.tmp 22) (.tmp 23) 42 rfl w.heap.size 22 24 elem_strs (fun k => wr.heap.size ≤ k) _ vals rfl ((H1.out.alloc _).raw_any) (some ⟨wr.heap.size, 0, none⟩) 1 (fun k => wr.heap.size ≤ k) [.slice none 0 0] rfl (Rp.of_block1 (E := Rp.raw) rfl id (heap_alloc_new wr _) (Nat.le_refl _) rfl (by simp) (by simp [maxLen]) (by intro a ha; simp only [List.mem_cons, List.not_mem_nil, or_false] at ha; subst ha; exact ⟨rfl, rfl⟩)) raw_one ?c1 ?c2 ?c3 ?c4 ?c5 ?_)
        case c1 => simp [maxLen]; omega
        case c2 => simp; omega
        case c3 => simp; have := HK.out.size; omega
        case c4 => exact fun _ h => h
        case c5 => intro k' hk' hle; have := (H1.out.lt k' hk').2; omega
        intro v' w2 hown hgr hat
        have hkk : Kp (fun k => (Value.slice Av vals.length cv).ownBlock = some k) wr w2 := ((Kp.refl _ _).alloc _).grown hgr (fun g hg _ => hg)
        have hmore := RowsAt.more vals H1.out H2.out H3.out H4.out (by omega) hown.raw_any hkk
        have hk2 : Kp No w w2 := HK.out.trans hkk (fun i hi hv => absurd (H1.out.lt i hv).1 (by omega))
        clear hown hgr hat hkk H1 H2 H3 H4 HK
        have HK := Lib.hid hk2
        obtain ⟨vals2, hm1, hm2, hm3, hm4⟩ := hmore
        rw [show (k + 3) / 4 + 1 = k / 4 + 1 by omega] at hm2
        obtain ⟨Av2, cv2, rfl⟩ := hm1.shape
        clear hk2
        go_wp2_with fail
        go_ways
        obtain ⟨q, hq⟩ : ∃ q, k / 4 = q := ⟨_, rfl⟩
        rw [hq] at hm2
        obtain ⟨last, hlast⟩ : ∃ u, vals2[q]? = some u := ⟨_, List.getElem?_eq_getElem (by omega)⟩
        obtain ⟨gv, rfl, hgb, hglt, hcell, hfz⟩ := hm1.raw_cell hlast
        have hrow := hm3 _ _ hlast
        obtain ⟨row, hrowe⟩ : ∃ r, ((l.take k).drop (q * 4)).take 4 = r := ⟨_, rfl⟩
        rw [hrowe] at hrow
        have hrl : row.length ≤ 4 := by rw [← hrowe, List.length_take]; omega
        have hne : Value.ownBlock last ≠ some gv := hm1.ne_block hrow (by decide) rfl
        obtain ⟨Al, cl, rfl⟩ := hrow.shape
        obtain ⟨x, hx⟩ : ∃ x, l[k]? = some x := ⟨_, List.getElem?_eq_getElem hlt⟩
        obtain ⟨ad, hAd, hSb, hcx, hxs⟩ := Rp.at_str (Rp.str.slice.keptNo HL.out HK.out) hx
        subst hAd
        have hcap : l.length ≤ c := by obtain ⟨_, _, he, h1, _⟩ := HL.out; simp only [List.cons.injEq, Value.slice.injEq, and_true, true_and] at he; omega
        have hcx2 : ∀ o, (w2.alloc o).cell? (ad.add k) = some (.string x) := fun o => by rw [← hcx]; exact World.cell?_of_block (Below.heap_alloc w2 o _ (by have := lt_of_cell hcx; exact this))
        have hcell2 : ∀ o, (w2.alloc o).cell? ⟨gv, q, none⟩ = some (.slice Al row.length cl) := fun o => by rw [← hcell]; exact World.cell?_of_block (Below.heap_alloc w2 o _ (by have := lt_of_cell hcell; exact this))
        have e1 : IntKind.i64.wrap ((vals2.length : Int) - 1) = (q : Int) := by rw [IntKind.wrap_i64]; omega
        have HM1 := Lib.hid hm1
        have HM2 := Lib.hid hm2
        have HM3 := Lib.hid hm3
        have HM4 := Lib.hid hm4
        have HLAST := Lib.hid hlast
        have HROW := Lib.hid hrow
        have HRE := Lib.hid hrowe
        have HX := Lib.hid hx
        have HNE := Lib.hid hne
        have HCELL := Lib.hid hcell
        have HFZ := Lib.hid hfz
        have hlt4 : q < vals2.length := by omega
        have HQ := Lib.hid hq
        clear hm1 hm2 hm3 hm4 hlast hrow hrowe hx hne hSb hq
        refine Reg.wp_region_plan [⟨0, false, []⟩, ⟨1, false, []⟩, ⟨2, false, []⟩, ⟨3, false, []⟩, ⟨4, false, []⟩, ⟨5, false, []⟩, ⟨6, false, []⟩, ⟨7, false, []⟩, ⟨8, false, []⟩, ⟨9, false, []⟩, ⟨10, false, []⟩, ⟨11, false, []⟩, ⟨12, false, []⟩, ⟨13, false, []⟩, ⟨14, true, [2, 3, 6, 7, 8, 9]⟩, ⟨15, true, [2, 3]⟩, ⟨16, false, []⟩, ⟨17, true, []⟩] rfl (by kernel_rfl) ?_
        repeat (first | (refine Reg.look rfl rfl rfl (by go_simp; rfl) rfl ?_; go_simp) | (refine Reg.skip rfl rfl rfl ?_; go_simp))
        refine Reg.act rfl ?_
        go_wp2
        (refine ⟨?anew, ?_⟩; case anew => ((repeat (refine Reg.anew_cons rfl rfl (fun _ => by go_simp) ?_)); exact Reg.anew_nil))
        refine Reg.act rfl ?_
        refine wpList_append_rp (E := Rp.str) rfl _ (.tmp 34) (.tmp 39) 22 rfl w.heap.size 9 16 elem_str (fun k => w2.heap.size ≤ k) (.slice Al row.length cl) row rfl ?d0 (some ⟨w2.heap.size, 0, none⟩) 1 (fun k => w2.heap.size ≤ k) [x] rfl (Rp.of_block1 (E := Rp.str) rfl Value.string (heap_alloc_new w2 _) (Nat.le_refl _) rfl (by simp) (by simp [maxLen]) (by intro a ha; simp only [List.mem_cons, List.not_mem_nil, or_false] at ha; subst ha; exact ⟨rfl, hxs⟩)) Rp.str_one ?d1 ?d2 ?d3 ?d4 ?d5 ?_
        case d0 => exact ((HROW.out.alloc _).drew).str_any _
        case d1 => simp [maxLen]; omega
        case d2 => simp; omega
        case d3 => simp; have := HK.out.size; omega
        case d4 => exact fun _ h => h
        case d5 => intro k' hk' hle; have := (HROW.out.lt k' hk').2; omega
        intro r3 w3 hown hgr hat
        obtain ⟨Ar, cr, rfl⟩ := hown.shape
        have hkr : Kp (fun k => (Value.slice Al row.length cl).ownBlock = some k) w2 w3 := (((Kp.refl _ _).alloc _).drew).grown hgr (fun g hg _ => hg)
        have hc3 : w3.cell? ⟨gv, q, none⟩ = some (.slice Al row.length cl) := by rw [hkr.cell hglt HNE.out]; exact HCELL.out
        have hf3 : w3.frozen? ⟨gv, q, none⟩ = false := by rw [hkr.frozen hglt HNE.out]; exact HFZ.out
        have HOWN := Lib.hid hown
        have HKR := Lib.hid hkr
        have HAT := Lib.hid hat
        clear hown hgr hat hkr hcell hfz hcell2
        go_wp2
        (refine ⟨?anew, ?_⟩; case anew => ((repeat (refine Reg.anew_cons rfl rfl (fun _ => by go_simp) ?_)); exact Reg.anew_nil))
        repeat (first | (refine Reg.look rfl rfl rfl (by go_simp; rfl) rfl ?_; go_simp) | (refine Reg.skip rfl rfl rfl ?_; go_simp))
        refine Reg.act rfl ?_
        go_wp2
        refine ⟨Reg.anew_nil, ?_⟩
        (refine Reg.done ?_; simp only [Exit.then])
        go_wp2
        go_roundw
        case rel =>
          have hq := HQ.out
          subst hq
          have ho : Own Rp.str w3 No w.heap.size 9 (.slice Ar (row.length + 1) cr) (((l.take k).drop (k / 4 * 4)).take 4 ++ [x]) := by rw [HRE.out]; have h := HOWN.out.str_any No; rw [show (row ++ [x]).length = row.length + 1 by simp] at h; exact h
          have hat2 : ∀ g, (Value.slice Ar (row.length + 1) cr).ownBlock = some g → (Value.slice Al row.length cl).ownBlock = some g ∨ w2.heap.size ≤ g := by
            intro g hg
            replace hg : (Value.slice Ar (row ++ [x]).length cr).ownBlock = some g := by rw [← hg]; simp
            rcases HAT.out with h | h
            · exact .inl (h ▸ hg)
            · refine .inr ?_
              have hg : some _ = some g := h.symm.trans hg
              injection hg with hg
              rw [← hg]; simp
          have hgrow := RowsAt.grow vals2 HM1.out HM2.out HM3.out HM4.out HX.out HLAST.out ho HKR.out hat2 rfl
          refine ⟨k + 1, by omega, by go_num, ?_, ?_⟩
          · rw [show (k + 1 + 3) / 4 = k / 4 + 1 by omega]; exact hgrow
          · exact (HK.out.trans HKR.out (fun i hi hv => absurd (HROW.out.lt i hv).1 (by omega))).setCell (fun h => absurd h (by simp; omega)) _
        case measure => simp [intOf]; omega
      · have hd : (((k : Int) % 4) == 0) = false := by rw [beq_eq_false_iff_ne]; omega
        obtain ⟨vals2, hm1, hm2, hm3, hm4⟩ := HR.out
        rw [show (k + 3) / 4 = k / 4 + 1 by omega] at hm2
        obtain ⟨Av2, cv2, rfl⟩ := hm1.shape
        clear HR
        go_wp2_with fail
        go_ways
        obtain ⟨q, hq⟩ : ∃ q, k / 4 = q := ⟨_, rfl⟩
        rw [hq] at hm2
        obtain ⟨last, hlast⟩ : ∃ u, vals2[q]? = some u := ⟨_, List.getElem?_eq_getElem (by omega)⟩
        obtain ⟨gv, rfl, hgb, hglt, hcell, hfz⟩ := hm1.raw_cell hlast
        have hrow := hm3 _ _ hlast
        obtain ⟨row, hrowe⟩ : ∃ r, ((l.take k).drop (q * 4)).take 4 = r := ⟨_, rfl⟩
        rw [hrowe] at hrow
        have hrl : row.length ≤ 4 := by rw [← hrowe, List.length_take]; omega
        have hne : Value.ownBlock last ≠ some gv := hm1.ne_block hrow (by decide) rfl
        obtain ⟨Al, cl, rfl⟩ := hrow.shape
        obtain ⟨x, hx⟩ : ∃ x, l[k]? = some x := ⟨_, List.getElem?_eq_getElem hlt⟩
        obtain ⟨ad, hAd, hSb, hcx, hxs⟩ := Rp.at_str (Rp.str.slice.keptNo HL.out HK.out) hx
        subst hAd
        have hcap : l.length ≤ c := by obtain ⟨_, _, he, h1, _⟩ := HL.out; simp only [List.cons.injEq, Value.slice.injEq, and_true, true_and] at he; omega
        have hcx2 : ∀ o, (wr.alloc o).cell? (ad.add k) = some (.string x) := fun o => by rw [← hcx]; exact World.cell?_of_block (Below.heap_alloc wr o _ (by have := lt_of_cell hcx; exact this))
        have hcell2 : ∀ o, (wr.alloc o).cell? ⟨gv, q, none⟩ = some (.slice Al row.length cl) := fun o => by rw [← hcell]; exact World.cell?_of_block (Below.heap_alloc wr o _ (by have := lt_of_cell hcell; exact this))
        have e1 : IntKind.i64.wrap ((vals2.length : Int) - 1) = (q : Int) := by rw [IntKind.wrap_i64]; omega
        have HM1 := Lib.hid hm1
        have HM2 := Lib.hid hm2
        have HM3 := Lib.hid hm3
        have HM4 := Lib.hid hm4
        have HLAST := Lib.hid hlast
        have HROW := Lib.hid hrow
        have HRE := Lib.hid hrowe
        have HX := Lib.hid hx
        have HNE := Lib.hid hne
        have HCELL := Lib.hid hcell
        have HFZ := Lib.hid hfz
        have hlt4 : q < vals2.length := by omega
        have HQ := Lib.hid hq
        clear hm1 hm2 hm3 hm4 hlast hrow hrowe hx hne hSb hq
        refine Reg.wp_region_plan [⟨0, false, []⟩, ⟨1, false, []⟩, ⟨2, false, []⟩, ⟨3, false, []⟩, ⟨4, false, []⟩, ⟨5, false, []⟩, ⟨6, false, []⟩, ⟨7, false, []⟩, ⟨8, false, []⟩, ⟨9, false, []⟩, ⟨10, false, []⟩, ⟨11, false, []⟩, ⟨12, false, []⟩, ⟨13, false, []⟩, ⟨14, true, [2, 3, 6, 7, 8, 9]⟩, ⟨15, true, [2, 3]⟩, ⟨16, false, []⟩, ⟨17, true, []⟩] rfl (by kernel_rfl) ?_
        repeat (first | (refine Reg.look rfl rfl rfl (by go_simp; rfl) rfl ?_; go_simp) | (refine Reg.skip rfl rfl rfl ?_; go_simp))
        refine Reg.act rfl ?_
        go_wp2
        (refine ⟨?anew, ?_⟩; case anew => ((repeat (refine Reg.anew_cons rfl rfl (fun _ => by go_simp) ?_)); exact Reg.anew_nil))
        refine Reg.act rfl ?_
        refine wpList_append_rp (E := Rp.str) rfl _ (.tmp 34) (.tmp 39) 22 rfl w.heap.size 9 16 elem_str (fun k => wr.heap.size ≤ k) (.slice Al row.length cl) row rfl ?d0 (some ⟨wr.heap.size, 0, none⟩) 1 (fun k => wr.heap.size ≤ k) [x] rfl (Rp.of_block1 (E := Rp.str) rfl Value.string (heap_alloc_new wr _) (Nat.le_refl _) rfl (by simp) (by simp [maxLen]) (by intro a ha; simp only [List.mem_cons, List.not_mem_nil, or_false] at ha; subst ha; exact ⟨rfl, hxs⟩)) Rp.str_one ?d1 ?d2 ?d3 ?d4 ?d5 ?_
        case d0 => exact ((HROW.out.alloc _).drew).str_any _
        case d1 => simp [maxLen]; omega
        case d2 => simp; omega
        case d3 => simp; have := HK.out.size; omega
        case d4 => exact fun _ h => h
        case d5 => intro k' hk' hle; have := (HROW.out.lt k' hk').2; omega
        intro r3 w3 hown hgr hat
        obtain ⟨Ar, cr, rfl⟩ := hown.shape
        have hkr : Kp (fun k => (Value.slice Al row.length cl).ownBlock = some k) wr w3 := (((Kp.refl _ _).alloc _).drew).grown hgr (fun g hg _ => hg)
        have hc3 : w3.cell? ⟨gv, q, none⟩ = some (.slice Al row.length cl) := by rw [hkr.cell hglt HNE.out]; exact HCELL.out
        have hf3 : w3.frozen? ⟨gv, q, none⟩ = false := by rw [hkr.frozen hglt HNE.out]; exact HFZ.out
        have HOWN := Lib.hid hown
        have HKR := Lib.hid hkr
        have HAT := Lib.hid hat
        clear hown hgr hat hkr hcell hfz hcell2
        go_wp2
        (refine ⟨?anew, ?_⟩; case anew => ((repeat (refine Reg.anew_cons rfl rfl (fun _ => by go_simp) ?_)); exact Reg.anew_nil))
        repeat (first | (refine Reg.look rfl rfl rfl (by go_simp; rfl) rfl ?_; go_simp) | (refine Reg.skip rfl rfl rfl ?_; go_simp))
        refine Reg.act rfl ?_
        go_wp2
        refine ⟨Reg.anew_nil, ?_⟩
        (refine Reg.done ?_; simp only [Exit.then])
        go_wp2
        go_roundw
        case rel =>
          have hq := HQ.out
          subst hq
          have ho : Own Rp.str w3 No w.heap.size 9 (.slice Ar (row.length + 1) cr) (((l.take k).drop (k / 4 * 4)).take 4 ++ [x]) := by rw [HRE.out]; have h := HOWN.out.str_any No; rw [show (row ++ [x]).length = row.length + 1 by simp] at h; exact h
          have hat2 : ∀ g, (Value.slice Ar (row.length + 1) cr).ownBlock = some g → (Value.slice Al row.length cl).ownBlock = some g ∨ wr.heap.size ≤ g := by
            intro g hg
            replace hg : (Value.slice Ar (row ++ [x]).length cr).ownBlock = some g := by rw [← hg]; simp
            rcases HAT.out with h | h
            · exact .inl (h ▸ hg)
            · refine .inr ?_
              have hg : some _ = some g := h.symm.trans hg
              injection hg with hg
              rw [← hg]; simp
          have hgrow := RowsAt.grow vals2 HM1.out HM2.out HM3.out HM4.out HX.out HLAST.out ho HKR.out hat2 rfl
          refine ⟨k + 1, by omega, by go_num, ?_, ?_⟩
          · rw [show (k + 1 + 3) / 4 = k / 4 + 1 by omega]; exact hgrow
          · exact (HK.out.trans HKR.out (fun i hi hv => absurd (HROW.out.lt i hv).1 (by omega))).setCell (fun h => absurd h (by simp; omega)) _
        case measure => simp [intOf]; omega
    · obtain rfl : k = l.length := by omega
      obtain ⟨vals, h1, h2, h3, h4⟩ := HR.out
      obtain ⟨Av, cv, rfl⟩ := h1.shape
      have hq0 : hRow t l.length = t / 5 % vals.length * 4 := by rw [h2]; rfl
      have hqlt : t / 5 % vals.length < vals.length := Nat.mod_lt _ (by omega)
      have e8 : ((t : Int) / 5).tmod (vals.length : Int) = ((t / 5 % vals.length : Nat) : Int) := by rw [Int.tmod_eq_emod_of_nonneg (by omega)]; push_cast; rfl
      have e9 : (t : Int) / 5 % (vals.length : Int) = ((t / 5 % vals.length : Nat) : Int) := by push_cast; rfl
      obtain ⟨q, hq⟩ : ∃ q, t / 5 % vals.length = q := ⟨_, rfl⟩
      rw [hq] at hq0 hqlt e8 e9
      obtain ⟨u, hu⟩ : ∃ u, vals[q]? = some u := ⟨_, List.getElem?_eq_getElem hqlt⟩
      have hrow := h3 _ _ hu
      have hgot : ((l.take l.length).drop (q * 4)).take 4 = hGot t l := by unfold hGot; rw [hq0, List.take_length]
      rw [hgot] at hrow
      obtain ⟨Au, cu, rfl⟩ := hrow.shape
      obtain ⟨gv, rfl, hgb, hglt, hcell, hfz⟩ := h1.raw_cell hu
      have e1 : IntKind.i64.wrap ((t : Int) / 5) = (t : Int) / 5 := by rw [IntKind.wrap_i64]; omega
      have e2 : (t : Int).tmod 5 = (t : Int) % 5 := by rw [Int.tmod_eq_emod_of_nonneg (by omega)]
      have e4 : IntKind.i64.wrap ((m : Int) + 1) = m + 1 := by rw [IntKind.wrap_i64]; omega
      have e5 : IntKind.i64.wrap ((m : Int) + 1 + (t : Int) % 5) = m + 1 + (t : Int) % 5 := by rw [IntKind.wrap_i64]; omega
      have e6 : ((m : Int) + 1 + (t : Int) % 5).tmod 6 = hTo m t := by rw [Int.tmod_eq_emod_of_nonneg (by omega)]; rfl
      have HROW := Lib.hid hrow
      clear h1 h3 h4 hq0 hq hgot hrow HR hu
      clear h2
      obtain ⟨vn, hvn⟩ : ∃ vn, vals.length = vn := ⟨_, rfl⟩
      rw [hvn] at hqlt e8 e9 ⊢
      clear hvn
      have hne0 : ¬ vn = 0 := by omega
      go_wp2_with fail
      refine Reg.wp_region_plan [⟨0, false, []⟩, ⟨1, false, []⟩, ⟨2, false, []⟩, ⟨3, false, []⟩, ⟨4, false, []⟩, ⟨5, false, []⟩, ⟨6, false, []⟩, ⟨7, false, []⟩, ⟨8, false, []⟩, ⟨9, false, []⟩, ⟨10, false, []⟩, ⟨11, false, []⟩, ⟨12, false, []⟩, ⟨13, false, []⟩, ⟨14, false, []⟩, ⟨15, false, []⟩] rfl (by kernel_rfl) ?_
      repeat (first | (refine Reg.look rfl rfl rfl (by go_simp; rfl) rfl ?_; go_simp) | (refine Reg.skip rfl rfl rfl ?_; go_simp))
      (refine Reg.done ?_; simp only [Exit.then])
      go_wp2
      go_ret2
      exact ⟨⟨Au, cu, rfl, (HROW.out.drew.str_any (fun k => w.heap.size ≤ k)).read fun k hk => (HROW.out.lt k hk).1⟩, HK.out.drew⟩
end Go.Proofs.Ytkghckeoplolpaa
