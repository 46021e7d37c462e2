/-
  (*Model).See.
-/
import Derived.Test.YtamfgmlhopjppaaGE
import Derived.Test.YtamfgmlhopjppaaRegT
namespace Go.Proofs.Ytamfgmlhopjppaa
open Go.RowKit Go.ChangeShapes Go.WideShapes Go.ChangeAt

set_option maxRecDepth 100000 in
theorem m_see_nil (A : Option Addr) (n c : Nat) (w : World) : Calls Try.prog 7 #[.pointer none, .slice A n c] w fun e w' => e = .returned (.int .i64 2) ∧ w' = w := by
  go_enter Try.func7, Try.ntmps7
  go_wp2_with fail
  go_ret
  exact ⟨rfl, rfl⟩
set_option maxRecDepth 100000 in
set_option maxHeartbeats 40000000 in
theorem m_see (l : List OpL) (A : Option Addr) (c : Nat) (SO : Nat → Prop) (m : Nat) (M : MV) (F : Nat → Prop) (w : World) (hM : MAt w m M F) (hok : OkM M) (hl : Rp.opl.slice.R w SO [.slice A l.length c] l) (hll : l.length ≤ 1000000) (hsm : ∀ o ∈ l, o.hashes.length ≤ 1000000) :
    Calls Try.prog 7 #[.pointer (some ⟨m, 0, none⟩), .slice A l.length c] w fun e w' => e = .returned (.int .i64 (seeL l M).1) ∧ ∃ F', MAt w' m (seeL l M).2 F' ∧ Upd F w w' F' := by
  have HM := Lib.hid hM
  obtain ⟨P, hP⟩ : ∃ P, seeL l M = P := ⟨_, rfl⟩
  have HP := Lib.hid hP
  rw [hP]
  have hrow := c_row 0 0 l A c w SO hl hll hsm
  have hlin := fun w' (hk : Kp No w w') => m_lined l A c w' SO (Rp.opl.slice.keptNo hl hk) hll hsm
  have HOK := Lib.hid hok
  have HROW := Lib.hid hrow
  have HLIN := Lib.hid hlin
  obtain ⟨n, hn⟩ : ∃ n, l.length = n := ⟨_, rfl⟩
  obtain ⟨D, hD⟩ : ∃ D, linedL (0, 0) l = D := ⟨_, rfl⟩
  have HDL : Hid (D.length = n) := Lib.hid (by rw [← hD, linedL_length, hn])
  rw [hn] at HROW HLIN hll ⊢
  rw [hD] at HLIN
  obtain ⟨B, hB⟩ : ∃ B, rowB 0 0 l = B := ⟨_, rfl⟩
  rw [hB] at HROW
  have HPB : Hid (P = if B = false then (3, M) else if D.any (clash M.lines) = true then (200, M) else (0, { M with lines := putAll M.lines D })) := Lib.hid (by rw [← HP.out]; unfold seeL; rw [hB, hD])
  clear hrow hlin hok hM hP HP hl hsm hn hD hB
  go_enter Try.func7, Try.ntmps7
  go_wp2_with fail
  refine HROW.out.mono ?_
  rintro e w1 ⟨rfl, hk1⟩
  have HK1 := Lib.hid hk1
  clear hk1
  cases B
  case false =>
    have hP : P = (3, M) := HPB.out
    subst hP
    go_wp2_with fail
    go_ret
    exact ⟨rfl, F, HM.out.keptNo HK1.out, HK1.out.any, fun k hk => .inl hk⟩
  case true =>
    have HPB : Hid (P = if D.any (clash M.lines) = true then (200, M) else (0, { M with lines := putAll M.lines D })) := Lib.hid HPB.out
    go_wp2_with fail
    refine (HLIN.out w1 HK1.out).mono ?_
    rintro e w2 ⟨g, rfl, hg, hln, hk2⟩
    have HLN := Lib.hid (hln.more (T := fun k => w.heap.size ≤ k ∧ k ≠ g) (fun k hk => ⟨Nat.le_trans HK1.out.size hk.1, hk.2⟩))
    have HK2 := Lib.hid (HK1.out.trans' hk2)
    have HGW : Hid (w.heap.size ≤ g) := Lib.hid (Nat.le_trans HK1.out.size hg)
    have HM2 := Lib.hid (HM.out.keptNo HK2.out)
    clear hg hln hk2 HROW HLIN HK1
    go_wp2_with fail
    go_loopw [24] (fun iv wr => ∃ i : Nat, i ≤ n ∧ iv = .int .i64 (i : Int) ∧ Hid (∀ a ∈ D.take i, clash M.lines a = false) ∧ Hid (Kp No w2 wr)) (fun iv _ => n - (intOf iv).toNat)
    case atStart => exact ⟨0, Nat.zero_le _, rfl, Lib.hid (fun a ha => by simp at ha), Lib.hid (Kp.refl _ _)⟩
    case round =>
      obtain ⟨i, hi, rfl, HNC, HKR⟩ := hrel
      by_cases hlt : i < n
      · have hli : (i : Int) < (n : Int) := by omega
        obtain ⟨a, ha⟩ : ∃ a, D[i]? = some a := ⟨_, List.getElem?_eq_getElem (by rw [HDL.out]; exact hlt)⟩
        obtain ⟨hnum, A5, c5, hcell, hr5⟩ := (HLN.out.keptNo HKR.out).at_ ha
        have hld := run_load_line hcell
        unfold lineV at hld
        have HLD := Lib.hid hld
        obtain ⟨y, hy⟩ : ∃ v, wr.heap.size = v := ⟨_, rfl⟩
        obtain ⟨w3, hw3⟩ : ∃ v, wr.alloc (.cells #[.int .i64 a.op.n, .int .i64 a.op.epoch, .int .i64 a.op.kind, .int .i64 a.op.site, .int .i64 a.op.client, .int .i64 a.op.seq, .string a.op.name, .int .i64 a.op.size, .slice A5 a.op.hashes.length c5, .int .i64 a.an, .int .i64 a.ae] 71) = v := ⟨_, rfl⟩
        have hk3 : Kp No wr w3 := by rw [← hw3]; exact (Kp.refl _ _).alloc _
        have hb3 : Blk w3 y 71 [.int .i64 a.op.n, .int .i64 a.op.epoch, .int .i64 a.op.kind, .int .i64 a.op.site, .int .i64 a.op.client, .int .i64 a.op.seq, .string a.op.name, .int .i64 a.op.size, .slice A5 a.op.hashes.length c5, .int .i64 a.an, .int .i64 a.ae] := by rw [← hw3, ← hy]; exact Blk.new wr _ _
        have HB3 := Lib.hid hb3
        have HK3 := Lib.hid (HKR.out.trans' hk3)
        have HR5 := Lib.hid (Rp.str.slice.keptNo hr5 hk3)
        clear hnum hcell hr5 hld hk3 hb3
        go_upto_region 9 with (refine wpl_load (by first | rfl | go_simp) 71 _ rfl _ _ (by go_simp) HLD.out ?_; go_simp)
        clear hw3 hy HLD
        obtain ⟨bb, av, S, hin, hft⟩ := HM2.out.keptNo HK3.out
        obtain ⟨was, A6, n6, c6, B, hlook, hB⟩ := hin.look (a.op.n, a.op.epoch)
        have HBM := Lib.hid hin.blk
        have HB := Lib.hid hB
        have HLOOK := Lib.hid hlook
        clear hin hft hB hlook
        go_cut [8, 9] (fun pv bv wx => ∃ z, pv = .pointer (some ⟨z, 0, none⟩) ∧ bv = .bool B ∧ Hid (Blk wx z 71 [.int .i64 was.op.n, .int .i64 was.op.epoch, .int .i64 was.op.kind, .int .i64 was.op.site, .int .i64 was.op.client, .int .i64 was.op.seq, .string was.op.name, .int .i64 was.op.size, .slice A6 n6 c6, .int .i64 was.an, .int .i64 was.ae]) ∧ Hid (Kp No w3 wx))
        case first =>
          obtain ⟨wd, hwd⟩ : ∃ v, w3.drew = v := ⟨_, rfl⟩
          have HKD : Hid (Kp No w3 wd) := Lib.hid (by rw [← hwd]; exact (Kp.refl _ _).drew)
          have hbm := HBM.out.kept HKD.out (fun z => z)
          have hby := HB3.out.kept HKD.out (fun z => z)
          have k0 : wd.cell? ⟨m, 0, none⟩ = some _ := Blk.cell hbm rfl
          have y0 : wd.cell? ⟨y, 0, none⟩ = some _ := Blk.cell hby rfl
          have y1 : wd.cell? ⟨y, 1, none⟩ = some _ := Blk.cell hby rfl
          have y2 : wd.cell? ⟨y, 2, none⟩ = some _ := Blk.cell hby rfl
          have y3 : wd.cell? ⟨y, 3, none⟩ = some _ := Blk.cell hby rfl
          have y4 : wd.cell? ⟨y, 4, none⟩ = some _ := Blk.cell hby rfl
          have y5 : wd.cell? ⟨y, 5, none⟩ = some _ := Blk.cell hby rfl
          have y6 : wd.cell? ⟨y, 6, none⟩ = some _ := Blk.cell hby rfl
          have y7 : wd.cell? ⟨y, 7, none⟩ = some _ := Blk.cell hby rfl
          have y8 : wd.cell? ⟨y, 8, none⟩ = some _ := Blk.cell hby rfl
          have hpl := fun w' => m_place a.op (.slice A5 a.op.hashes.length c5) w'
          unfold opV at hpl
          have HPL := Lib.hid hpl
          clear hbm hby hpl
          refine Reg.wp_region_tree (.look 0 (.look 1 (.look 2 (.look 3 (.look 4 (.look 5 (.two 6 [1, 2, 3] (.look 7 (.look 8 (.look 9 (.look 10 (.one 11 [1, 2, 3, 7, 9, 10] (.one 12 [10] (.look 13 (.done)))))))) 11 [1, 2, 3, 4, 5] (.one 6 [1, 2, 3] (.look 7 (.look 8 (.look 9 (.look 10 (.one 12 [10] (.look 13 (.done))))))))))))))) [6, 11, 12] rfl (by kernel_rfl) ?_
          rw [hwd]
          clear hwd
          repeat (first | (refine Reg.lookT rfl rfl rfl (by go_simp; rfl) rfl ?_; go_simp))
          refine Reg.twoT rfl rfl ?_ ?_
          · skip
            go_wp2_with fail
            refine (HPL.out wd).mono ?_
            rintro e w4 ⟨rfl, hk4⟩
            have HK4 := Lib.hid (HKD.out.trans' hk4)
            clear hk4 k0 y0 y1 y2 y3 y4 y5 y6 y7 y8
            have k0 : w4.cell? ⟨m, 0, none⟩ = some _ := Blk.cell (HBM.out.kept HK4.out (fun z => z)) rfl
            have hl := HLOOK.out w4 HK4.out
            go_wp2_with fail
            (refine ⟨?anew, ?_⟩; case anew => ((repeat (refine Reg.anew_cons rfl rfl (fun _ => by go_simp) ?_)); exact Reg.anew_nil))
            repeat (first | (refine Reg.lookT rfl rfl rfl (by go_simp; rfl) rfl ?_; go_simp))
            obtain ⟨z, hz⟩ : ∃ v, w4.heap.size = v := ⟨_, rfl⟩
            obtain ⟨w5, hw5⟩ : ∃ v, w4.alloc (.cells #[.int .i64 0, .int .i64 0, .int .i64 0, .int .i64 0, .int .i64 0, .int .i64 0, .string { data := #[] }, .int .i64 0, .slice none 0 0, .int .i64 0, .int .i64 0] 71) = v := ⟨_, rfl⟩
            have HBZ : Hid (Blk w5 z 71 [.int .i64 0, .int .i64 0, .int .i64 0, .int .i64 0, .int .i64 0, .int .i64 0, .string { data := #[] }, .int .i64 0, .slice none 0 0, .int .i64 0, .int .i64 0]) := Lib.hid (by rw [← hw5, ← hz]; exact Blk.new w4 _ _)
            have HK5 : Hid (Kp No w3 w5) := Lib.hid (by rw [← hw5]; exact HK4.out.alloc _)
            have HZW : Hid (w3.heap.size ≤ z) := Lib.hid (by rw [← hz]; exact HK4.out.size)
            refine Reg.oneT rfl ?_
            go_wp2_with fail
            clear k0 hl hw5 hz
            have k0 : w5.cell? ⟨m, 0, none⟩ = some _ := Blk.cell (HBM.out.kept HK5.out (fun z => z)) rfl
            have hl := HLOOK.out w5 HK5.out
            (refine ⟨?anew, ?_⟩; case anew => ((repeat (refine Reg.anew_cons rfl rfl (fun _ => by go_simp) ?_)); exact Reg.anew_nil))
            repeat (first | (refine Reg.lookT rfl rfl rfl (by go_simp; rfl) rfl ?_; go_simp))
            have hst := run_store_line w5 z 0 was A6 n6 c6 _ _ _ _ _ _ _ _ _ _ _ (Blk.cell HBZ.out (i := 0) rfl) (Blk.cell HBZ.out (i := 1) rfl) (Blk.cell HBZ.out (i := 2) rfl) (Blk.cell HBZ.out (i := 3) rfl) (Blk.cell HBZ.out (i := 4) rfl) (Blk.cell HBZ.out (i := 5) rfl) (Blk.cell HBZ.out (i := 6) rfl) (Blk.cell HBZ.out (i := 7) rfl) (Blk.cell HBZ.out (i := 8) rfl) (Blk.cell HBZ.out (i := 9) rfl) (Blk.cell HBZ.out (i := 10) rfl) (Blk.fr HBZ.out)
            obtain ⟨w6, hw6⟩ : ∃ v, wset w5 z 0 (was.cells (.slice A6 n6 c6)) = v := ⟨_, rfl⟩
            have hb6 := wset_blk (vs := was.cells (.slice A6 n6 c6)) (o := 0) HBZ.out
            have hk6 : Kp (· = z) w5 (wset w5 z 0 (was.cells (.slice A6 n6 c6))) := wset_kp
            rw [hw6] at hst hb6 hk6
            have HB6 := Lib.hid hb6
            have HK6 := Lib.hid (HK5.out.trans hk6 (fun k hk e => by have := HZW.out; omega))
            have HST := Lib.hid hst
            clear hst hb6 hk6 hw6 k0 hl
            refine Reg.oneT rfl ?_
            go_wp2_with (refine wpl_store (by first | rfl | go_simp) 71 _ _ rfl _ _ (by go_simp) (by go_simp) HST.out ?_; go_simp)
            (refine ⟨?anew, ?_⟩; case anew => ((repeat (refine Reg.anew_cons rfl rfl (fun _ => by go_simp) ?_)); exact Reg.anew_nil))
            repeat (first | (refine Reg.lookT rfl rfl rfl (by go_simp; rfl) rfl ?_; go_simp))
            refine Reg.doneT ?_
            simp only [Exit.then]
            go_wp2_with fail
            go_meet
            exact ⟨z, rfl, rfl, Lib.hid HB6.out, HK6⟩
          · skip
            obtain ⟨z, hz⟩ : ∃ v, wd.heap.size = v := ⟨_, rfl⟩
            obtain ⟨w5, hw5⟩ : ∃ v, wd.alloc (.cells #[.int .i64 0, .int .i64 0, .int .i64 0, .int .i64 0, .int .i64 0, .int .i64 0, .string { data := #[] }, .int .i64 0, .slice none 0 0, .int .i64 0, .int .i64 0] 71) = v := ⟨_, rfl⟩
            have HBZ : Hid (Blk w5 z 71 [.int .i64 0, .int .i64 0, .int .i64 0, .int .i64 0, .int .i64 0, .int .i64 0, .string { data := #[] }, .int .i64 0, .slice none 0 0, .int .i64 0, .int .i64 0]) := Lib.hid (by rw [← hw5, ← hz]; exact Blk.new wd _ _)
            have HK5 : Hid (Kp No w3 w5) := Lib.hid (by rw [← hw5]; exact HKD.out.alloc _)
            have HZW : Hid (w3.heap.size ≤ z) := Lib.hid (by rw [← hz]; exact HKD.out.size)
            go_wp2_with fail
            clear k0 hw5 hz
            clear y0 y1 y2 y3 y4 y5 y6 y7 y8
            have k0 : w5.cell? ⟨m, 0, none⟩ = some _ := Blk.cell (HBM.out.kept HK5.out (fun z => z)) rfl
            have hl := HLOOK.out w5 HK5.out
            have hby := HB3.out.kept HK5.out (fun z => z)
            have y0 : w5.cell? ⟨y, 0, none⟩ = some _ := Blk.cell hby rfl
            have y1 : w5.cell? ⟨y, 1, none⟩ = some _ := Blk.cell hby rfl
            have y2 : w5.cell? ⟨y, 2, none⟩ = some _ := Blk.cell hby rfl
            have y3 : w5.cell? ⟨y, 3, none⟩ = some _ := Blk.cell hby rfl
            have y4 : w5.cell? ⟨y, 4, none⟩ = some _ := Blk.cell hby rfl
            have y5 : w5.cell? ⟨y, 5, none⟩ = some _ := Blk.cell hby rfl
            have y6 : w5.cell? ⟨y, 6, none⟩ = some _ := Blk.cell hby rfl
            have y7 : w5.cell? ⟨y, 7, none⟩ = some _ := Blk.cell hby rfl
            have y8 : w5.cell? ⟨y, 8, none⟩ = some _ := Blk.cell hby rfl
            clear hby
            (refine ⟨?anew, ?_⟩; case anew => ((repeat (refine Reg.anew_cons rfl rfl (fun _ => by go_simp) ?_)); exact Reg.anew_nil))
            repeat (first | (refine Reg.lookT rfl rfl rfl (by go_simp; rfl) rfl ?_; go_simp))
            refine Reg.oneT rfl ?_
            go_wp2_with fail
            refine (HPL.out w5).mono ?_
            rintro e w4 ⟨rfl, hk4⟩
            have HK4 := Lib.hid (HK5.out.trans' hk4)
            have HBZ := Lib.hid (HBZ.out.kept hk4 (fun z => z))
            clear hk4 k0 hl y0 y1 y2 y3 y4 y5 y6 y7 y8
            have k0 : w4.cell? ⟨m, 0, none⟩ = some _ := Blk.cell (HBM.out.kept HK4.out (fun z => z)) rfl
            have hl := HLOOK.out w4 HK4.out
            go_wp2_with fail
            (refine ⟨?anew, ?_⟩; case anew => ((repeat (refine Reg.anew_cons rfl rfl (fun _ => by go_simp) ?_)); exact Reg.anew_nil))
            repeat (first | (refine Reg.lookT rfl rfl rfl (by go_simp; rfl) rfl ?_; go_simp))
            have hst := run_store_line w4 z 0 was A6 n6 c6 _ _ _ _ _ _ _ _ _ _ _ (Blk.cell HBZ.out (i := 0) rfl) (Blk.cell HBZ.out (i := 1) rfl) (Blk.cell HBZ.out (i := 2) rfl) (Blk.cell HBZ.out (i := 3) rfl) (Blk.cell HBZ.out (i := 4) rfl) (Blk.cell HBZ.out (i := 5) rfl) (Blk.cell HBZ.out (i := 6) rfl) (Blk.cell HBZ.out (i := 7) rfl) (Blk.cell HBZ.out (i := 8) rfl) (Blk.cell HBZ.out (i := 9) rfl) (Blk.cell HBZ.out (i := 10) rfl) (Blk.fr HBZ.out)
            obtain ⟨w6, hw6⟩ : ∃ v, wset w4 z 0 (was.cells (.slice A6 n6 c6)) = v := ⟨_, rfl⟩
            have hb6 := wset_blk (vs := was.cells (.slice A6 n6 c6)) (o := 0) HBZ.out
            have hk6 : Kp (· = z) w4 (wset w4 z 0 (was.cells (.slice A6 n6 c6))) := wset_kp
            rw [hw6] at hst hb6 hk6
            have HB6 := Lib.hid hb6
            have HK6 := Lib.hid (HK4.out.trans hk6 (fun k hk e => by have := HZW.out; omega))
            have HST := Lib.hid hst
            clear hst hb6 hk6 hw6 k0 hl
            refine Reg.oneT rfl ?_
            go_wp2_with (refine wpl_store (by first | rfl | go_simp) 71 _ _ rfl _ _ (by go_simp) (by go_simp) HST.out ?_; go_simp)
            (refine ⟨?anew, ?_⟩; case anew => ((repeat (refine Reg.anew_cons rfl rfl (fun _ => by go_simp) ?_)); exact Reg.anew_nil))
            repeat (first | (refine Reg.lookT rfl rfl rfl (by go_simp; rfl) rfl ?_; go_simp))
            refine Reg.doneT ?_
            simp only [Exit.then]
            go_wp2_with fail
            go_meet
            exact ⟨z, rfl, rfl, Lib.hid HB6.out, HK6⟩
        case rest =>
          obtain ⟨z, rfl, rfl, HZ, HKZ⟩ := hcut
          have hbz := HZ.out
          have hby := HB3.out.kept HKZ.out (fun z => z)
          have HKW : Hid (Kp No w2 wc) := Lib.hid (HK3.out.trans' HKZ.out)
          have hmem : a ∈ D := List.mem_of_getElem? ha
          have HTK : Hid (D.take (i + 1) = D.take i ++ [a]) := Lib.hid (by
            obtain ⟨e1, e2⟩ := List.getElem?_eq_some_iff.1 ha
            rw [List.take_succ_eq_append_getElem e1, e2])
          have HNN : Hid (clash M.lines a = false → ∀ b ∈ D.take (i + 1), clash M.lines b = false) := Lib.hid (fun h b hb => by
            rw [HTK.out] at hb
            rcases List.mem_append.1 hb with hb | hb
            · exact HNC.out b hb
            · rw [List.mem_singleton.1 hb]; exact h)
          have HPC : Hid (clash M.lines a = true → P = (200, M)) := Lib.hid (fun h => by
            rw [HPB.out, if_pos (List.any_eq_true.2 ⟨a, hmem, h⟩)])
          have HEND : Hid (∀ w', Kp No wc w' → ∃ F', MAt w' m M F' ∧ Upd F w w' F') := Lib.hid (fun w' hk => ⟨F, HM2.out.keptNo (HKW.out.trans' hk), (HK2.out.trans' (HKW.out.trans' hk)).any, fun k hk => .inl hk⟩)
          cases B
          case false =>
            have hcl : clash M.lines a = false := by
              rcases HB.out with h | ⟨_, h⟩
              · cases h.1
              · unfold clash LineL.place; rw [h]
            have HN2 := Lib.hid (HNN.out hcl)
            clear hcl hbz hby hmem ha
            go_wp2_with fail
            go_roundw
            case rel => exact ⟨i + 1, by omega, by go_num, HN2, HKW⟩
            case measure => simp [intOf]; omega
          case true =>
            obtain ⟨hg5, rfl, hr6⟩ : mget (a.op.n, a.op.epoch) M.lines = some was ∧ n6 = was.op.hashes.length ∧ Rp.str.slice.R w3 S [.slice A6 n6 c6] was.op.hashes := by
              rcases HB.out with h | h
              · exact h.2
              · cases h.1
            have hcla : clash M.lines a = !(decide ((was.an, was.ae) = (a.an, a.ae)) && decide (EqP was.op a.op)) := by unfold clash LineL.place; rw [hg5]
            have heq := m_equal was.op a.op A6 A5 c6 c5 wc S _ (Rp.str.slice.keptNo hr6 HKZ.out) (Rp.str.slice.keptNo HR5.out HKZ.out)
            have HLZ := Lib.hid (run_load_lop hbz)
            have HLY := Lib.hid (run_load_lop hby)
            have z9 : wc.cell? ⟨z, 9, none⟩ = some _ := Blk.cell hbz rfl
            have z10 : wc.cell? ⟨z, 10, none⟩ = some _ := Blk.cell hbz rfl
            have y9 : wc.cell? ⟨y, 9, none⟩ = some _ := Blk.cell hby rfl
            have y10 : wc.cell? ⟨y, 10, none⟩ = some _ := Blk.cell hby rfl
            have HEQ := Lib.hid heq
            clear hg5 hr6 heq hbz hby hmem ha
            obtain ⟨wan, hwan⟩ : ∃ v, was.an = v := ⟨_, rfl⟩
            obtain ⟨wae, hwae⟩ : ∃ v, was.ae = v := ⟨_, rfl⟩
            obtain ⟨aan, haan⟩ : ∃ v, a.an = v := ⟨_, rfl⟩
            obtain ⟨aae, haae⟩ : ∃ v, a.ae = v := ⟨_, rfl⟩
            rw [hwan, hwae, haan, haae] at hcla
            rw [hwan] at z9
            rw [hwae] at z10
            rw [haan] at y9
            rw [haae] at y10
            clear hwan hwae haan haae
            by_cases e1 : wan = aan
            case neg =>
              have hb1 : (wan == aan) = false := beq_eq_false_iff_ne.2 e1
              have hP : P = (200, M) := HPC.out (by rw [hcla]; simp [e1])
              subst hP
              clear hcla e1
              go_wp2_with fail
              go_ret
              exact ⟨rfl, HEND.out _ (Kp.refl _ _)⟩
            by_cases e2 : wae = aae
            case neg =>
              have hb1 : (wae == aae) = false := beq_eq_false_iff_ne.2 e2
              have hP : P = (200, M) := HPC.out (by rw [hcla]; simp [e2])
              subst e1 hP
              clear hcla e2
              go_wp2_with fail
              go_ret
              exact ⟨rfl, HEND.out _ (Kp.refl _ _)⟩
            subst e1 e2
            obtain ⟨Q, hQ⟩ : ∃ Q, decide (EqP was.op a.op) = Q := ⟨_, rfl⟩
            rw [hQ] at HEQ hcla
            have HCLA : Hid (clash M.lines a = !Q) := Lib.hid (by rw [hcla]; simp)
            clear hcla hQ
            go_wp2_with (first | (refine wpl_load (by first | rfl | go_simp) 58 _ rfl _ _ rfl HLZ.out ?_; go_simp) | (refine wpl_load (by first | rfl | go_simp) 58 _ rfl _ _ rfl HLY.out ?_; go_simp))
            refine HEQ.out.mono ?_
            rintro e w7 ⟨rfl, hk7⟩
            have HK7 := Lib.hid hk7
            clear hk7 z9 z10 y9 y10
            cases Q
            case false =>
              have hP : P = (200, M) := HPC.out HCLA.out
              subst hP
              go_wp2_with fail
              go_ret
              exact ⟨rfl, HEND.out _ HK7.out⟩
            case true =>
              have HN2 := Lib.hid (HNN.out HCLA.out)
              go_wp2_with fail
              go_roundw
              case rel => exact ⟨i + 1, by omega, by go_num, HN2, Lib.hid (HKW.out.trans' HK7.out)⟩
              case measure => simp [intOf]; omega
      · obtain rfl : i = n := by omega
        have hany : ¬ D.any (clash M.lines) = true := by
          intro h
          obtain ⟨b, hb, hc⟩ := List.any_eq_true.1 h
          rw [HNC.out b (by rw [List.take_of_length_le (Nat.le_of_eq HDL.out)]; exact hb)] at hc
          cases hc
        have hP : P = (0, { M with lines := putAll M.lines D }) := by rw [HPB.out, if_neg hany]
        subst hP
        obtain ⟨w9, rfl⟩ : ∃ v, v = wr := ⟨_, rfl⟩
        obtain ⟨bb, av, S, hin, hft⟩ := HM2.out.keptNo HKR.out
        have hFl : ∀ k, F k → k < w.heap.size := fun k hk => HM.out.lt hk
        have hbw : bb < w.heap.size := hFl bb ((hft bb).2 (.inr (.inl rfl)))
        have HFL := Lib.hid hFl
        have HBW := Lib.hid hbw
        have HIN := Lib.hid hin
        have HFT := Lib.hid hft
        have HKX := Lib.hid (HK2.out.trans' HKR.out)
        have HLX := Lib.hid (HLN.out.keptNo HKR.out)
        have HMP : Hid (MapRp Rp.line w9 (fun k => S k ∨ (w.heap.size ≤ k ∧ k ≠ g)) bb spotV (putAll M.lines (D.take 0))) := Lib.hid (hin.map.more (fun k hk => .inl hk))
        clear hany hin hft hFl hbw HNC HKR HLN HM2 HK2
        go_wp2_with fail
        go_loopw [58] (fun iv wx => ∃ j : Nat, j ≤ i ∧ iv = .int .i64 (j : Int) ∧ Hid (MapRp Rp.line wx (fun k => S k ∨ (w.heap.size ≤ k ∧ k ≠ g)) bb spotV (putAll M.lines (D.take j))) ∧ Hid (Kp (· = bb) w9 wx)) (fun iv _ => i - (intOf iv).toNat)
        case atStart => exact ⟨0, Nat.zero_le _, rfl, HMP, Lib.hid (Kp.refl _ _)⟩
        case round =>
          clear HMP
          obtain ⟨j, hj, rfl, HMP, HKJ⟩ := hrel
          have HGB : Hid (g ≠ bb) := Lib.hid (by have := HGW.out; have := HBW.out; omega)
          by_cases hlt : j < i
          · have hli : (j : Int) < (i : Int) := by omega
            obtain ⟨a, ha⟩ : ∃ a, D[j]? = some a := ⟨_, List.getElem?_eq_getElem (by rw [HDL.out]; exact hlt)⟩
            have HTK : Hid (putAll M.lines (D.take (j + 1)) = mput (a.op.n, a.op.epoch) a (putAll M.lines (D.take j))) := Lib.hid (by
              obtain ⟨e1, e2⟩ := List.getElem?_eq_some_iff.1 ha
              rw [List.take_succ_eq_append_getElem e1, e2, putAll_snoc]; rfl)
            obtain ⟨hnum, A5, c5, hcell, hr5⟩ := (HLX.out.kept HKJ.out HGB.out (fun k hk _ e => by have := HBW.out; have := hk.1; omega)).at_ ha
            have hld := run_load_line hcell
            unfold lineV at hld
            have HLD := Lib.hid hld
            obtain ⟨y, hy⟩ : ∃ v, wr.heap.size = v := ⟨_, rfl⟩
            obtain ⟨w3, hw3⟩ : ∃ v, wr.alloc (.cells #[.int .i64 a.op.n, .int .i64 a.op.epoch, .int .i64 a.op.kind, .int .i64 a.op.site, .int .i64 a.op.client, .int .i64 a.op.seq, .string a.op.name, .int .i64 a.op.size, .slice A5 a.op.hashes.length c5, .int .i64 a.an, .int .i64 a.ae] 71) = v := ⟨_, rfl⟩
            have hk3 : Kp No wr w3 := by rw [← hw3]; exact (Kp.refl _ _).alloc _
            have hb3 : Blk w3 y 71 [.int .i64 a.op.n, .int .i64 a.op.epoch, .int .i64 a.op.kind, .int .i64 a.op.site, .int .i64 a.op.client, .int .i64 a.op.seq, .string a.op.name, .int .i64 a.op.size, .slice A5 a.op.hashes.length c5, .int .i64 a.an, .int .i64 a.ae] := by rw [← hw3, ← hy]; exact Blk.new wr _ _
            have HB3 := Lib.hid hb3
            have HK3 := Lib.hid hk3
            have HR5 := Lib.hid (Rp.str.slice.keptNo hr5 hk3)
            have HNUM := Lib.hid hnum
            have HMW : Hid (m < w.heap.size ∧ m ≠ bb) := Lib.hid ⟨HFL.out m ((HFT.out m).2 (.inl rfl)), HIN.out.mb⟩
            have HBM : Hid (Blk w3 m 66 [.map (some bb), av]) := Lib.hid ((HIN.out.blk.kept HKJ.out HMW.out.2).kept hk3 (fun z => z))
            clear hnum hcell hr5 hld hk3 hb3 ha
            go_upto_region 16 with (refine wpl_load (by first | rfl | go_simp) 71 _ rfl _ _ (by go_simp) HLD.out ?_; go_simp)
            clear hw3 hy HLD
            obtain ⟨wd, hwd⟩ : ∃ v, w3.drew = v := ⟨_, rfl⟩
            have HKD : Hid (Kp No w3 wd) := Lib.hid (by rw [← hwd]; exact (Kp.refl _ _).drew)
            have hpl := fun w' => m_place a.op (.slice A5 a.op.hashes.length c5) w'
            unfold opV at hpl
            have HPL := Lib.hid hpl
            clear hpl
            have hbm := HBM.out.kept HKD.out (fun z => z)
            have hby := HB3.out.kept HKD.out (fun z => z)
            have k0 : wd.cell? ⟨m, 0, none⟩ = some _ := Blk.cell hbm rfl
            have y0 : wd.cell? ⟨y, 0, none⟩ = some _ := Blk.cell hby rfl
            have y1 : wd.cell? ⟨y, 1, none⟩ = some _ := Blk.cell hby rfl
            have y2 : wd.cell? ⟨y, 2, none⟩ = some _ := Blk.cell hby rfl
            have y3 : wd.cell? ⟨y, 3, none⟩ = some _ := Blk.cell hby rfl
            have y4 : wd.cell? ⟨y, 4, none⟩ = some _ := Blk.cell hby rfl
            have y5 : wd.cell? ⟨y, 5, none⟩ = some _ := Blk.cell hby rfl
            have y6 : wd.cell? ⟨y, 6, none⟩ = some _ := Blk.cell hby rfl
            have y7 : wd.cell? ⟨y, 7, none⟩ = some _ := Blk.cell hby rfl
            have y8 : wd.cell? ⟨y, 8, none⟩ = some _ := Blk.cell hby rfl
            have y9 : wd.cell? ⟨y, 9, none⟩ = some _ := Blk.cell hby rfl
            have y10 : wd.cell? ⟨y, 10, none⟩ = some _ := Blk.cell hby rfl
            clear hbm hby
            refine Reg.wp_region_plan [⟨0, false, []⟩, ⟨1, false, []⟩, ⟨2, false, []⟩, ⟨3, false, []⟩, ⟨4, false, []⟩, ⟨5, false, []⟩, ⟨7, false, []⟩, ⟨6, true, [1, 2, 3, 7]⟩, ⟨8, true, []⟩] rfl (by kernel_rfl) ?_
            rw [hwd]
            clear hwd
            repeat (first | (refine Reg.look rfl rfl rfl (by go_simp; rfl) rfl ?_; go_simp) | (refine Reg.skip rfl rfl rfl ?_; go_simp))
            refine Reg.act rfl ?_
            go_wp2_with fail
            refine (HPL.out wd).mono ?_
            rintro e w4 ⟨rfl, hk4⟩
            have HK4 := Lib.hid (HKD.out.trans' hk4)
            clear hk4 k0 y0 y1 y2 y3 y4 y5 y6 y7 y8 y9 y10
            have hbm := HBM.out.kept HK4.out (fun z => z)
            have hby := HB3.out.kept HK4.out (fun z => z)
            have k0 : w4.cell? ⟨m, 0, none⟩ = some _ := Blk.cell hbm rfl
            have y0 : w4.cell? ⟨y, 0, none⟩ = some _ := Blk.cell hby rfl
            have y1 : w4.cell? ⟨y, 1, none⟩ = some _ := Blk.cell hby rfl
            have y2 : w4.cell? ⟨y, 2, none⟩ = some _ := Blk.cell hby rfl
            have y3 : w4.cell? ⟨y, 3, none⟩ = some _ := Blk.cell hby rfl
            have y4 : w4.cell? ⟨y, 4, none⟩ = some _ := Blk.cell hby rfl
            have y5 : w4.cell? ⟨y, 5, none⟩ = some _ := Blk.cell hby rfl
            have y6 : w4.cell? ⟨y, 6, none⟩ = some _ := Blk.cell hby rfl
            have y7 : w4.cell? ⟨y, 7, none⟩ = some _ := Blk.cell hby rfl
            have y8 : w4.cell? ⟨y, 8, none⟩ = some _ := Blk.cell hby rfl
            have y9 : w4.cell? ⟨y, 9, none⟩ = some _ := Blk.cell hby rfl
            have y10 : w4.cell? ⟨y, 10, none⟩ = some _ := Blk.cell hby rfl
            clear hbm hby
            go_wp2_with fail
            (refine ⟨?anew, ?_⟩; case anew => ((repeat (refine Reg.anew_cons rfl rfl (fun _ => by go_simp) ?_)); exact Reg.anew_nil))
            repeat (first | (refine Reg.look rfl rfl rfl (by go_simp; rfl) rfl ?_; go_simp) | (refine Reg.skip rfl rfl rfl ?_; go_simp))
            refine Reg.act rfl ?_
            obtain ⟨w5, hrun, hm5, hk5⟩ := (HMP.out.keptNo (HK3.out.trans' HK4.out)).update (P := Try.prog) spot_key Try.underlying64 (by
              rintro (h | h)
              · exact HIN.out.sb h
              · have := HBW.out; have := h.1; omega) (a.op.n, a.op.epoch) (a := a) (cs := a.cells (.slice A5 a.op.hashes.length c5)) ⟨_, rfl, HNUM.out, Rp.str.slice.keptNo (Rp.str.slice.more HR5.out (fun k hk => .inr hk)) HK4.out⟩
            have hrun2 : (Instr.mapUpdate 64 (.map (some bb)) (spotV (a.op.n, a.op.epoch)) (.agg #[.int .i64 a.op.n, .int .i64 a.op.epoch, .int .i64 a.op.kind, .int .i64 a.op.site, .int .i64 a.op.client, .int .i64 a.op.seq, .string a.op.name, .int .i64 a.op.size, .slice A5 a.op.hashes.length c5, .int .i64 a.an, .int .i64 a.ae])).run Try.prog w4 = .ok () w5 := hrun
            have HRUN := Lib.hid hrun2
            have HM5 := Lib.hid hm5
            have HK5 : Hid (Kp (· = bb) w9 w5) := Lib.hid ((HKJ.out.trans (HK3.out.trans' HK4.out).any (fun _ _ h => h)).trans hk5 (fun _ _ h => h))
            clear hrun hrun2 hm5 hk5 k0 y0 y1 y2 y3 y4 y5 y6 y7 y8 y9 y10
            go_wp2_with (refine wpl_update (by first | rfl | go_simp) 64 _ _ _ rfl _ _ _ (by go_simp) (by go_simp) (by go_simp) HRUN.out ?_; go_simp)
            refine ⟨Reg.anew_nil, ?_⟩
            (refine Reg.done ?_; simp only [Exit.then])
            go_wp2_with fail
            go_roundw
            case rel => exact ⟨j + 1, by omega, by go_num, by rw [HTK.out]; exact HM5, HK5⟩
            case measure => simp [intOf]; omega
          · obtain rfl : j = i := by omega
            have HMQ := HMP.out.bnd
            rw [List.take_of_length_le (Nat.le_of_eq HDL.out)] at HMQ
            have HMQ := Lib.hid HMQ
            go_wp2_with fail
            go_ret
            have hmw : m < w.heap.size := HFL.out m ((HFT.out m).2 (.inl rfl))
            have havw : ∀ k, av.ownBlock = some k → k < w.heap.size := fun k hk => HFL.out k ((HFT.out k).2 (.inr (.inr (.inl hk))))
            refine ⟨rfl, MFoot m bb av (fun k => (S k ∨ (w.heap.size ≤ k ∧ k ≠ g)) ∧ k < wr.heap.size), ⟨bb, av, _, ⟨HIN.out.blk.kept HKJ.out HIN.out.mb, HMQ.out, HIN.out.ask.kept HKJ.out (fun _ hs _ _ => hs) (fun k hv e => HIN.out.ab (e ▸ hv)), HIN.out.mb, ?_, ?_, HIN.out.am, HIN.out.ab, ?_, fun k hk => hk.2⟩, fun k => Iff.rfl⟩, ⟨?_, ?_⟩⟩
            · rintro ⟨h | h, _⟩
              · exact HIN.out.sm h
              · omega
            · rintro ⟨h | h, _⟩
              · exact HIN.out.sb h
              · have := HBW.out; omega
            · rintro k ⟨h | h, _⟩ e
              · exact HIN.out.sa k h e
              · have := havw k e; omega
            · exact (HKX.out.any).trans HKJ.out (fun k _ e => (HFT.out k).2 (.inr (.inl e)))
            · rintro k (h | h | h | ⟨h | h, _⟩)
              · exact .inl ((HFT.out k).2 (.inl h))
              · exact .inl ((HFT.out k).2 (.inr (.inl h)))
              · exact .inl ((HFT.out k).2 (.inr (.inr (.inl h))))
              · exact .inl ((HFT.out k).2 (.inr (.inr (.inr h))))
              · exact .inr h.1
end Go.Proofs.Ytamfgmlhopjppaa
