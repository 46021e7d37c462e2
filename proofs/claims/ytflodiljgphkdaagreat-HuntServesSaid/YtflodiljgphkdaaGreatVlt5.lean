/-
  vault: Put.
-/
import Derived.Test.YtflodiljgphkdaaGreatM4
import Derived.Test.YtflodiljgphkdaaGreatDisk6
namespace Go.Proofs.YtflodiljgphkdaaGreat
open Go.RowKit Go.ChangeShapes Go.WideShapes Go.ChangeAt

theorem Upd.same {w : World} {F : Nat → Prop} : Upd F w w F := ⟨Kp.refl _ _, fun _ h => .inl h⟩
theorem Upd.kp {w w' : World} {F : Nat → Prop} (h : Kp No w w') : Upd F w w' F := ⟨h.any, fun _ h => .inl h⟩
theorem Upd.trans {a b c : World} {F G H : Nat → Prop} (h : Upd F a b G) (k : Upd G b c H) : Upd F a c H :=
  ⟨h.1.trans k.1 (fun i hi hg => (h.2 i hg).elim id fun hl => absurd hl (by omega)), fun i hi => by
    rcases k.2 i hi with hg | hl
    · exact h.2 i hg
    · exact .inr (Nat.le_trans h.1.size hl)⟩
theorem Upd.vault {w w' : World} {v b kp : Nat} {FF F0 F2 : Nat → Prop} (hF : ∀ k, FF k ↔ k = v ∨ k = b ∨ k = kp ∨ F0 k) (hu : Upd F0 w w' F2) : Upd FF w w' (fun k => k = v ∨ k = b ∨ k = kp ∨ F2 k) :=
  ⟨hu.1.mono fun k _ h => (hF k).2 (.inr (.inr (.inr h))), by
    rintro k (rfl | rfl | rfl | hk)
    · exact .inl ((hF _).2 (.inl rfl))
    · exact .inl ((hF _).2 (.inr (.inl rfl)))
    · exact .inl ((hF _).2 (.inr (.inr (.inl rfl))))
    · exact (hu.2 k hk).imp (fun h => (hF _).2 (.inr (.inr (.inr h)))) id⟩
theorem OkV.gained {X : VV} (h : OkV X) (n : ByteArray) {q : Int} (hq : 1 ≤ q ∧ q ≤ 64) (hl : X.kept.length < 2000000) : OkV { X with kept := ins n q X.kept } :=
  ⟨h.dk, h.quota, h.kept.ins n q, h.held, fun p hp => by
    rcases mem_ins hp with rfl | hp
    · exact hq
    · exact h.each p hp, Nat.le_trans (ins_length _) hl⟩
theorem VIn.gained {w w' : World} {v b d kp : Nat} {lb lk : List (ByteArray × Value)} {X : VV} {F : Nat → Prop} (h : VIn w v b d kp lb lk X F) {n : ByteArray} {q : Int} (hm : MapOf w' kp Value.string (mput n (.int .i64 q) lk)) (hk : Kp (· = kp) w w') (hq : 1 ≤ q ∧ q ≤ 64) (hl : X.kept.length < 2000000) :
    VIn w' v b d kp lb (mput n (.int .i64 q) lk) { X with kept := ins n q X.kept } F := by
  refine ⟨Blk.kept h.blk hk h.v_ne_k, h.needs.kept hk h.ne, hm, h.bents, fun m => ?_, h.disk.kept hk (fun k hF e => h.nk (e ▸ hF)), h.ne, h.nv, h.nb, h.nk, h.ok.gained n hq hl⟩
  rw [mget_put n m, mget_ins n m, h.kents m]
  split <;> rfl
theorem dropV_kept (h : ByteArray) (X : VV) : (dropV h X).2.kept.length ≤ X.kept.length := by
  unfold dropV
  split
  · exact mdel_length h X.kept
  · exact Nat.le_refl _
theorem bytesV_le {X : VV} (h : OkV X) : 0 ≤ bytesV X ∧ bytesV X ≤ 128000000 := by
  unfold bytesV
  split
  · omega
  · have h1 := sumV_le h.each
    have h2 := h.many
    omega

set_option maxRecDepth 100000 in
set_option maxHeartbeats 4000000 in
theorem v_put (v d : Nat) (X : VV) (F : Nat → Prop) (c : ByteArray) (w : World) (hv : VAt w v d X F) (hl : X.kept.length < 2000000) :
    Calls Tryz.prog 10 #[.pointer (some ⟨v, 0, none⟩), .string c] w fun e w' => e = .returned (.tuple #[.string (putV c X).1.1, .int .i64 (putV c X).1.2]) ∧ ∃ F', VAt w' v d (putV c X).2 F' ∧ Upd F w w' F' := by
  have HA := Lib.hid hv
  have HL := Lib.hid hl
  obtain ⟨b, kp, lb, lk, F0, hv, hF⟩ := hv
  have H := Lib.hid hv
  have HF := Lib.hid hF
  have c1 : w.cell? ⟨v, 1, none⟩ = some (.pointer (some ⟨d, 0, none⟩)) := Blk.cell hv.blk rfl
  have hdown := d_down d X.d F0 w hv.disk
  obtain ⟨Z, hZ⟩ : ∃ Z, putV c X = Z := ⟨_, rfl⟩
  rw [hZ]
  clear hv hF hl
  by_cases h0 : c.size = 0
  · obtain rfl := toList_empty h0
    have e : Z = ((.empty, 1), X) := by rw [← hZ]; exact if_pos (.inl rfl)
    rw [e]
    clear hdown
    go_enter Tryz.func10, Tryz.ntmps10
    go_wp2_with fail
    go_ret2
    exact ⟨rfl, F, HA.out, Upd.same⟩
  · have hne := toList_ne h0
    have hne' : c.toList.isEmpty = false := by simpa using hne
    by_cases h64 : (64 : Int) < (c.size : Int)
    · have e : Z = ((.empty, 1), X) := by rw [← hZ]; exact if_pos (.inr (by omega))
      rw [e]
      clear hdown
      go_enter Tryz.func10, Tryz.ntmps10
      go_wp2_with fail
      go_ret2
      exact ⟨rfl, F, HA.out, Upd.same⟩
    · have hn64 : ¬ (c.size = 0 ∨ 64 < c.size) := by omega
      have HCS : Hid (1 ≤ c.size ∧ c.size ≤ 64) := Lib.hid (by omega)
      unfold putV at hZ
      rw [if_neg hn64] at hZ
      cases hoff : X.d.off with
      | true =>
        rw [hoff] at hdown hZ
        have e : Z = ((.empty, 50), X) := by rw [← hZ]; rfl
        rw [e]
        clear hZ hoff
        go_enter Tryz.func10, Tryz.ntmps10
        go_wp2_with fail
        refine hdown.mono ?_
        rintro e w1 ⟨rfl, rfl⟩
        clear hdown
        go_wp2_with fail
        go_ret2
        exact ⟨rfl, F, HA.out, Upd.same⟩
      | false =>
        rw [hoff] at hdown hZ
        simp only [Bool.false_eq_true, if_false] at hZ
        have HDN := Lib.hid hdown
        have hsum := fun (w3 : World) => t_sum1 c (w3.alloc (.cells #[.string c] 9)) (g := w3.heap.size) (heap_alloc_new w3 _) (by omega)
        have HSUM := Lib.hid hsum
        clear hsum hdown hoff hn64
        cases hhs : hasV (digest c) X with
        | true =>
          rw [hhs] at hZ
          have HZ : Hid (Z = ((digest c, 0), X)) := Lib.hid (by rw [← hZ]; rfl)
          clear hZ
          go_enter Tryz.func10, Tryz.ntmps10
          go_wp2_with fail
          refine HDN.out.mono ?_
          rintro e w1 ⟨rfl, rfl⟩
          go_wp2_with fail
          refine (HSUM.out _).mono ?_
          rintro e w2 ⟨rfl, hk2⟩
          have hk2 : Kp No w1 w2 := ((Kp.refl No w1).alloc _).trans' hk2
          have HK2 := Lib.hid hk2
          clear hk2
          rw [show shaB c = digest c from rfl]
          go_wp2_with fail
          have hhas := v_has v d X F (digest c) (by rw [digest_size]; omega) w2 (HA.out.keptNo HK2.out)
          rw [hhs] at hhas
          refine hhas.mono ?_
          rintro e w3 ⟨rfl, hk3⟩
          have HK3 := Lib.hid (HK2.out.trans' hk3)
          clear hhas hk3 hhs
          go_wp2_with fail
          go_ret2
          rw [HZ.out]
          exact ⟨rfl, F, HA.out.keptNo HK3.out, Upd.kp HK3.out⟩
        | false =>
          rw [hhs] at hZ
          simp only [Bool.false_eq_true, if_false] at hZ
          have HHS := Lib.hid hhs
          have HKX := Lib.hid hZ
          clear hZ hhs
          have hkeep : keepsV (digest c) X = (mget (digest c) X.kept).isSome := rfl
          cases hm : mget (digest c) X.kept with
          | none =>
            rw [hm] at hkeep
            have HW : Hid (writeV c (digest c) X = Z) := Lib.hid (by have := HKX.out; rw [hkeep] at this; exact this)
            have HM := Lib.hid hm
            clear hkeep hm
            go_enter Tryz.func10, Tryz.ntmps10
            go_wp2_with fail
            refine HDN.out.mono ?_
            rintro e w1 ⟨rfl, rfl⟩
            go_wp2_with fail
            refine (HSUM.out _).mono ?_
            rintro e w2 ⟨rfl, hk2⟩
            have hk2 : Kp No w1 w2 := ((Kp.refl No w1).alloc _).trans' hk2
            have HK2 := Lib.hid hk2
            clear hk2
            rw [show shaB c = digest c from rfl]
            go_wp2_with fail
            have hhas := v_has v d X F (digest c) (by rw [digest_size]; omega) w2 (HA.out.keptNo HK2.out)
            rw [HHS.out] at hhas
            refine hhas.mono ?_
            rintro e w3 ⟨rfl, hk3⟩
            have hk3 := HK2.out.trans' hk3
            have HV := Lib.hid (H.out.keptNo hk3)
            have HFF := HF
            have HUU : Hid (Upd F w1 w3 F) := Lib.hid (Upd.kp hk3)
            have e3 : w3.cell? ⟨v, 3, none⟩ = some (.map (some kp)) := Blk.cell HV.out.blk rfl
            have hlook := HV.out.keeps.look_ok (P := Tryz.prog) key_dsk Tryz.underlying70 (digest c) (zero_int w3)
            rw [HV.out.kents (digest c), HM.out] at hlook
            simp only [Option.map_none, Option.getD_none, Option.isSome_none] at hlook
            have HKL := HL
            clear hhas hk3 c1
            go_wp2_with fail
            clear e3 hlook
            obtain ⟨Y, hY⟩ : ∃ Y, X = Y := ⟨_, rfl⟩
            rw [hY] at HV HW HKL
            obtain ⟨FF, hFF⟩ : ∃ FF, F = FF := ⟨_, rfl⟩
            have HUU : Hid (Upd F w1 w3 FF) := by rw [← hFF]; exact HUU
            rw [hFF] at HFF
            clear hY hFF
            have hby := bytesV_le HV.out.ok
            have hcs := HCS.out
            have hqq := HV.out.ok.quota
            have hva : VAt w3 v d Y FF := ⟨b, kp, lb, lk, F0, HV.out, HFF.out⟩
            have hbytes := v_bytes v d Y FF w3.drew (hva.keptNo ((Kp.refl No _).drew))
            have e2 : w3.cell? ⟨v, 2, none⟩ = some (.int .i64 Y.quota) := Blk.cell HV.out.blk rfl
            obtain ⟨BV, hBV⟩ : ∃ B, bytesV Y = B := ⟨_, rfl⟩
            obtain ⟨QV, hQV⟩ : ∃ B, Y.quota = B := ⟨_, rfl⟩
            rw [hBV] at hbytes hby
            rw [hQV] at e2 hqq
            have HBV := Lib.hid (And.intro hBV hQV)
            have hwr : IntKind.i64.wrap (BV + (c.size : Int)) = BV + (c.size : Int) := wrap_i64 (by omega) (by omega)
            clear hva hBV hQV hqq
            refine Reg.wp_region_plan [⟨0, false, []⟩, ⟨2, false, []⟩, ⟨3, false, []⟩, ⟨5, false, []⟩, ⟨6, false, []⟩, ⟨7, false, []⟩, ⟨8, false, []⟩, ⟨1, true, [3, 6, 7, 8]⟩, ⟨4, false, []⟩, ⟨9, false, []⟩] rfl (by kernel_rfl) ?_
            repeat (first | (refine Reg.look rfl rfl rfl (by go_simp; rfl) rfl ?_; go_simp) | (refine Reg.skip rfl rfl rfl ?_; go_simp))
            refine Reg.act rfl ?_
            go_wp2_with fail
            refine hbytes.mono ?_
            rintro e w4 ⟨rfl, hk4⟩
            have hk4 : Kp No w3 w4 := ((Kp.refl No _).drew).trans' hk4
            have HK4 := Lib.hid hk4
            have e4 : w4.cell? ⟨v, 2, none⟩ = some (.int .i64 QV) := by rw [← HBV.out.2]; exact Blk.cell (HV.out.keptNo hk4).blk rfl
            clear hbytes hk4 e2
            go_wp2_with fail
            (refine ⟨?anew, ?_⟩; case anew => ((repeat (refine Reg.anew_cons rfl rfl (fun _ => by go_simp) ?_)); exact Reg.anew_nil))
            repeat (first | (refine Reg.look rfl rfl rfl (by go_simp; rfl) rfl ?_; go_simp) | (refine Reg.skip rfl rfl rfl ?_; go_simp))
            (refine Reg.done ?_; simp only [Exit.then])
            by_cases hq : QV < BV + (c.size : Int)
            · have HQ := Lib.hid hq
              go_wp2_with fail
              go_ret2
              have e : Z = ((.empty, 102), Y) := by rw [← HW.out]; unfold writeV; rw [HBV.out.1, HBV.out.2, if_pos HQ.out]
              rw [e]
              exact ⟨rfl, FF, ⟨b, kp, lb, lk, F0, HV.out.keptNo HK4.out, HFF.out⟩, HUU.out.trans (Upd.kp HK4.out)⟩
            · have HQ := Lib.hid hq
              have HV4 := Lib.hid (HV.out.keptNo HK4.out)
              have g1 : w4.cell? ⟨v, 1, none⟩ = some (.pointer (some ⟨d, 0, none⟩)) := Blk.cell HV4.out.blk rfl
              clear e4 hq
              go_wp2_with fail
              refine Reg.wp_region_plan [⟨0, false, []⟩, ⟨1, false, []⟩, ⟨2, false, []⟩, ⟨3, false, []⟩, ⟨4, false, []⟩, ⟨6, false, []⟩, ⟨5, true, [1, 2, 3]⟩, ⟨7, true, []⟩, ⟨8, false, []⟩] rfl (by kernel_rfl) ?_
              repeat (first | (refine Reg.look rfl rfl rfl (by go_simp; rfl) rfl ?_; go_simp) | (refine Reg.skip rfl rfl rfl ?_; go_simp))
              refine Reg.act rfl ?_
              go_wp2_with fail
              refine (v_file (digest c) (by rw [digest_size]; omega) _).mono ?_
              rintro e w5 ⟨rfl, hk⟩
              have hk : Kp No w4 w5 := ((Kp.refl No _).drew).trans' hk
              have HK5 := Lib.hid (HK4.out.trans' hk)
              have HV5 := Lib.hid (HV4.out.keptNo hk)
              have g2 : w5.cell? ⟨v, 1, none⟩ = some (.pointer (some ⟨d, 0, none⟩)) := Blk.cell HV5.out.blk rfl
              clear hk
              obtain ⟨⟨r1, y1⟩, hR1⟩ : ∃ R, appendD (fileN (digest c)) c Y.d = R := ⟨_, rfl⟩
              have happ := d_append d Y.d F0 (fileN (digest c)) c w5 HV5.out.disk
              have hok1 := appendD_ok HV5.out.ok.dk (fileN (digest c)) c
              rw [hR1] at happ hok1
              have HR1 := Lib.hid hR1
              have HOK1 : Hid (OkD y1) := Lib.hid hok1
              clear hR1 hok1
              go_wp2_with fail
              (refine ⟨?anew, ?_⟩; case anew => ((repeat (refine Reg.anew_cons rfl rfl (fun _ => by go_simp) ?_)); exact Reg.anew_nil))
              repeat (first | (refine Reg.look rfl rfl rfl (by go_simp; rfl) rfl ?_; go_simp) | (refine Reg.skip rfl rfl rfl ?_; go_simp))
              refine Reg.act rfl ?_
              go_wp2_with fail
              refine happ.mono ?_
              rintro e w6 ⟨rfl, F6, hd6, hu6⟩
              have HV6 := Lib.hid (HV5.out.turned hd6 hu6 HOK1.out)
              have HU6 := Lib.hid ((HUU.out.trans (Upd.kp HK5.out)).trans (Upd.vault HFF.out hu6))
              clear happ hd6 hu6 g1 g2
              go_wp2_with fail
              refine ⟨Reg.anew_nil, ?_⟩
              repeat (first | (refine Reg.look rfl rfl rfl (by go_simp; rfl) rfl ?_; go_simp) | (refine Reg.skip rfl rfl rfl ?_; go_simp))
              (refine Reg.done ?_; simp only [Exit.then])
              by_cases h1 : r1 = 0
              · subst h1
                have g6 : w6.cell? ⟨v, 1, none⟩ = some (.pointer (some ⟨d, 0, none⟩)) := Blk.cell HV6.out.blk rfl
                go_wp2_with fail
                refine Reg.wp_region_plan [⟨0, false, []⟩, ⟨1, false, []⟩, ⟨2, false, []⟩, ⟨3, false, []⟩, ⟨4, false, []⟩, ⟨5, true, [1, 2, 3]⟩, ⟨6, true, []⟩, ⟨7, false, []⟩] rfl (by kernel_rfl) ?_
                repeat (first | (refine Reg.look rfl rfl rfl (by go_simp; rfl) rfl ?_; go_simp) | (refine Reg.skip rfl rfl rfl ?_; go_simp))
                refine Reg.act rfl ?_
                go_wp2_with fail
                refine (v_file (digest c) (by rw [digest_size]; omega) _).mono ?_
                rintro e w7 ⟨rfl, hk⟩
                have hk : Kp No w6 w7 := ((Kp.refl No _).drew).trans' hk
                have HK7 := Lib.hid hk
                have HV7 := Lib.hid (HV6.out.keptNo hk)
                have g7 : w7.cell? ⟨v, 1, none⟩ = some (.pointer (some ⟨d, 0, none⟩)) := Blk.cell HV7.out.blk rfl
                clear hk
                obtain ⟨⟨r2, y2⟩, hR2⟩ : ∃ R, syncD (fileN (digest c)) y1 = R := ⟨_, rfl⟩
                have hsyn := d_sync d y1 F6 (fileN (digest c)) w7 HV7.out.disk
                have hok2 := syncD_ok HOK1.out (fileN (digest c))
                rw [hR2] at hsyn hok2
                have HR2 := Lib.hid hR2
                have HOK2 : Hid (OkD y2) := Lib.hid hok2
                clear hR2 hok2
                go_wp2_with fail
                (refine ⟨?anew, ?_⟩; case anew => ((repeat (refine Reg.anew_cons rfl rfl (fun _ => by go_simp) ?_)); exact Reg.anew_nil))
                repeat (first | (refine Reg.look rfl rfl rfl (by go_simp; rfl) rfl ?_; go_simp) | (refine Reg.skip rfl rfl rfl ?_; go_simp))
                refine Reg.act rfl ?_
                go_wp2_with fail
                refine hsyn.mono ?_
                rintro e w8 ⟨rfl, F8, hd8, hu8⟩
                have HV8 := Lib.hid (HV7.out.turned hd8 hu8 HOK2.out)
                have HU8 := Lib.hid ((HU6.out.trans (Upd.kp HK7.out)).trans (Upd.vault (fun k => Iff.rfl) hu8))
                clear hsyn hd8 hu8 g6 g7
                go_wp2_with fail
                refine ⟨Reg.anew_nil, ?_⟩
                repeat (first | (refine Reg.look rfl rfl rfl (by go_simp; rfl) rfl ?_; go_simp) | (refine Reg.skip rfl rfl rfl ?_; go_simp))
                (refine Reg.done ?_; simp only [Exit.then])
                by_cases h2 : r2 = 0
                · subst h2
                  have g8 : w8.cell? ⟨v, 3, none⟩ = some (.map (some kp)) := Blk.cell HV8.out.blk rfl
                  obtain ⟨w9, hrun, hm9, hk9⟩ := HV8.out.keeps.update (P := Tryz.prog) key_dsk Tryz.underlying70 (digest c) (.int .i64 (c.size : Int))
                  have HV9 := Lib.hid (HV8.out.gained hm9 hk9 ⟨by omega, by omega⟩ HKL.out)
                  have HK9 := Lib.hid hk9
                  clear hm9 hk9
                  go_wp2_with fail
                  go_ret2
                  have e : Z = ((digest c, 0), { Y with d := y2, kept := ins (digest c) c.size Y.kept }) := by
                    rw [← HW.out]; unfold writeV
                    rw [HBV.out.1, HBV.out.2, if_neg (Int.not_lt.2 HQ.out), HR1.out]
                    simp only [ne_eq, not_true_eq_false, if_false]
                    rw [HR2.out]
                    simp only [not_true_eq_false, if_false]
                  rw [e]
                  refine ⟨rfl, _, ⟨b, kp, lb, _, F8, HV9.out, fun k => Iff.rfl⟩, HU8.out.trans ⟨HK9.out.mono fun k _ e => .inr (.inr (.inl e)), fun k hk => .inl hk⟩⟩
                · have h2d : (r2 != 0) = true := by simpa using h2
                  go_wp2_with fail
                  go_ret2
                  have e : Z = ((.empty, r2), { Y with d := y2 }) := by
                    rw [← HW.out]; unfold writeV
                    rw [HBV.out.1, HBV.out.2, if_neg (Int.not_lt.2 HQ.out), HR1.out]
                    simp only [ne_eq, not_true_eq_false, if_false]
                    rw [HR2.out]
                    rw [if_pos h2]
                  rw [e]
                  exact ⟨rfl, _, ⟨b, kp, lb, lk, F8, HV8.out, fun k => Iff.rfl⟩, HU8.out⟩
              · have h1d : (r1 == 0) = false := by simpa using h1
                have h1e : (r1 != 0) = true := by simpa using h1
                go_wp2_with fail
                go_ret2
                have e : Z = ((.empty, r1), { Y with d := y1 }) := by
                  rw [← HW.out]; unfold writeV
                  rw [HBV.out.1, HBV.out.2, if_neg (Int.not_lt.2 HQ.out), HR1.out, if_pos h1]
                rw [e]
                exact ⟨rfl, _, ⟨b, kp, lb, lk, F6, HV6.out, fun k => Iff.rfl⟩, HU6.out⟩
          | some q =>
            rw [hm] at hkeep
            obtain ⟨⟨r0, Y⟩, hR⟩ : ∃ R, dropV (digest c) X = R := ⟨_, rfl⟩
            have hyl : Y.kept.length ≤ X.kept.length := by have := dropV_kept (digest c) X; rw [hR] at this; exact this
            have HKL : Hid (Y.kept.length < 2000000) := Lib.hid (by have := HL.out; omega)
            have HW0 : Hid ((if r0 = 0 then writeV c (digest c) Y else ((.empty, r0), Y)) = Z) := Lib.hid (by
              have := HKX.out
              rw [hkeep, hR] at this
              exact this)
            have HM := Lib.hid hm
            have HR := Lib.hid hR
            clear hkeep hm hyl hR
            go_enter Tryz.func10, Tryz.ntmps10
            go_wp2_with fail
            refine HDN.out.mono ?_
            rintro e w1 ⟨rfl, rfl⟩
            go_wp2_with fail
            refine (HSUM.out _).mono ?_
            rintro e w2 ⟨rfl, hk2⟩
            have hk2 : Kp No w1 w2 := ((Kp.refl No w1).alloc _).trans' hk2
            have HK2 := Lib.hid hk2
            clear hk2
            rw [show shaB c = digest c from rfl]
            go_wp2_with fail
            have hhas := v_has v d X F (digest c) (by rw [digest_size]; omega) w2 (HA.out.keptNo HK2.out)
            rw [HHS.out] at hhas
            refine hhas.mono ?_
            rintro e w2b ⟨rfl, hk3⟩
            have hk3 := HK2.out.trans' hk3
            have HA3 := Lib.hid (HA.out.keptNo hk3)
            have HK3 := Lib.hid hk3
            have H3 := H.out.keptNo hk3
            have e3 : w2b.cell? ⟨v, 3, none⟩ = some (.map (some kp)) := Blk.cell H3.blk rfl
            have hlook := H3.keeps.look_ok (P := Tryz.prog) key_dsk Tryz.underlying70 (digest c) (zero_int w2b)
            rw [H3.kents (digest c), HM.out] at hlook
            simp only [Option.map_some, Option.getD_some, Option.isSome_some] at hlook
            clear hhas hk3 c1 H3
            go_wp2_with fail
            have hdr := v_drop v d X F (digest c) (by rw [digest_size]; omega) w2b HA3.out
            rw [HR.out] at hdr
            refine hdr.mono ?_
            rintro e w3 ⟨rfl, FF, hva, hu3⟩
            have HUU : Hid (Upd F w1 w3 FF) := Lib.hid ((Upd.kp HK3.out).trans hu3)
            clear hdr hu3 e3 hlook
            by_cases hr0 : r0 = 0
            · subst hr0
              have HW : Hid (writeV c (digest c) Y = Z) := Lib.hid (by have := HW0.out; rw [if_pos rfl] at this; exact this)
              obtain ⟨b, kp, lb, lk, F0, hv4, hF4⟩ := hva
              have HV := Lib.hid hv4
              have HFF := Lib.hid hF4
              clear hv4 hF4
              go_wp2_with fail
              have hby := bytesV_le HV.out.ok
              have hcs := HCS.out
              have hqq := HV.out.ok.quota
              have hva : VAt w3 v d Y FF := ⟨b, kp, lb, lk, F0, HV.out, HFF.out⟩
              have hbytes := v_bytes v d Y FF w3.drew (hva.keptNo ((Kp.refl No _).drew))
              have e2 : w3.cell? ⟨v, 2, none⟩ = some (.int .i64 Y.quota) := Blk.cell HV.out.blk rfl
              obtain ⟨BV, hBV⟩ : ∃ B, bytesV Y = B := ⟨_, rfl⟩
              obtain ⟨QV, hQV⟩ : ∃ B, Y.quota = B := ⟨_, rfl⟩
              rw [hBV] at hbytes hby
              rw [hQV] at e2 hqq
              have HBV := Lib.hid (And.intro hBV hQV)
              have hwr : IntKind.i64.wrap (BV + (c.size : Int)) = BV + (c.size : Int) := wrap_i64 (by omega) (by omega)
              clear hva hBV hQV hqq
              refine Reg.wp_region_plan [⟨0, false, []⟩, ⟨2, false, []⟩, ⟨3, false, []⟩, ⟨5, false, []⟩, ⟨6, false, []⟩, ⟨7, false, []⟩, ⟨8, false, []⟩, ⟨1, true, [3, 6, 7, 8]⟩, ⟨4, false, []⟩, ⟨9, false, []⟩] rfl (by kernel_rfl) ?_
              repeat (first | (refine Reg.look rfl rfl rfl (by go_simp; rfl) rfl ?_; go_simp) | (refine Reg.skip rfl rfl rfl ?_; go_simp))
              refine Reg.act rfl ?_
              go_wp2_with fail
              refine hbytes.mono ?_
              rintro e w4 ⟨rfl, hk4⟩
              have hk4 : Kp No w3 w4 := ((Kp.refl No _).drew).trans' hk4
              have HK4 := Lib.hid hk4
              have e4 : w4.cell? ⟨v, 2, none⟩ = some (.int .i64 QV) := by rw [← HBV.out.2]; exact Blk.cell (HV.out.keptNo hk4).blk rfl
              clear hbytes hk4 e2
              go_wp2_with fail
              (refine ⟨?anew, ?_⟩; case anew => ((repeat (refine Reg.anew_cons rfl rfl (fun _ => by go_simp) ?_)); exact Reg.anew_nil))
              repeat (first | (refine Reg.look rfl rfl rfl (by go_simp; rfl) rfl ?_; go_simp) | (refine Reg.skip rfl rfl rfl ?_; go_simp))
              (refine Reg.done ?_; simp only [Exit.then])
              by_cases hq : QV < BV + (c.size : Int)
              · have HQ := Lib.hid hq
                go_wp2_with fail
                go_ret2
                have e : Z = ((.empty, 102), Y) := by rw [← HW.out]; unfold writeV; rw [HBV.out.1, HBV.out.2, if_pos HQ.out]
                rw [e]
                exact ⟨rfl, FF, ⟨b, kp, lb, lk, F0, HV.out.keptNo HK4.out, HFF.out⟩, HUU.out.trans (Upd.kp HK4.out)⟩
              · have HQ := Lib.hid hq
                have HV4 := Lib.hid (HV.out.keptNo HK4.out)
                have g1 : w4.cell? ⟨v, 1, none⟩ = some (.pointer (some ⟨d, 0, none⟩)) := Blk.cell HV4.out.blk rfl
                clear e4 hq
                go_wp2_with fail
                refine Reg.wp_region_plan [⟨0, false, []⟩, ⟨1, false, []⟩, ⟨2, false, []⟩, ⟨3, false, []⟩, ⟨4, false, []⟩, ⟨6, false, []⟩, ⟨5, true, [1, 2, 3]⟩, ⟨7, true, []⟩, ⟨8, false, []⟩] rfl (by kernel_rfl) ?_
                repeat (first | (refine Reg.look rfl rfl rfl (by go_simp; rfl) rfl ?_; go_simp) | (refine Reg.skip rfl rfl rfl ?_; go_simp))
                refine Reg.act rfl ?_
                go_wp2_with fail
                refine (v_file (digest c) (by rw [digest_size]; omega) _).mono ?_
                rintro e w5 ⟨rfl, hk⟩
                have hk : Kp No w4 w5 := ((Kp.refl No _).drew).trans' hk
                have HK5 := Lib.hid (HK4.out.trans' hk)
                have HV5 := Lib.hid (HV4.out.keptNo hk)
                have g2 : w5.cell? ⟨v, 1, none⟩ = some (.pointer (some ⟨d, 0, none⟩)) := Blk.cell HV5.out.blk rfl
                clear hk
                obtain ⟨⟨r1, y1⟩, hR1⟩ : ∃ R, appendD (fileN (digest c)) c Y.d = R := ⟨_, rfl⟩
                have happ := d_append d Y.d F0 (fileN (digest c)) c w5 HV5.out.disk
                have hok1 := appendD_ok HV5.out.ok.dk (fileN (digest c)) c
                rw [hR1] at happ hok1
                have HR1 := Lib.hid hR1
                have HOK1 : Hid (OkD y1) := Lib.hid hok1
                clear hR1 hok1
                go_wp2_with fail
                (refine ⟨?anew, ?_⟩; case anew => ((repeat (refine Reg.anew_cons rfl rfl (fun _ => by go_simp) ?_)); exact Reg.anew_nil))
                repeat (first | (refine Reg.look rfl rfl rfl (by go_simp; rfl) rfl ?_; go_simp) | (refine Reg.skip rfl rfl rfl ?_; go_simp))
                refine Reg.act rfl ?_
                go_wp2_with fail
                refine happ.mono ?_
                rintro e w6 ⟨rfl, F6, hd6, hu6⟩
                have HV6 := Lib.hid (HV5.out.turned hd6 hu6 HOK1.out)
                have HU6 := Lib.hid ((HUU.out.trans (Upd.kp HK5.out)).trans (Upd.vault HFF.out hu6))
                clear happ hd6 hu6 g1 g2
                go_wp2_with fail
                refine ⟨Reg.anew_nil, ?_⟩
                repeat (first | (refine Reg.look rfl rfl rfl (by go_simp; rfl) rfl ?_; go_simp) | (refine Reg.skip rfl rfl rfl ?_; go_simp))
                (refine Reg.done ?_; simp only [Exit.then])
                by_cases h1 : r1 = 0
                · subst h1
                  have g6 : w6.cell? ⟨v, 1, none⟩ = some (.pointer (some ⟨d, 0, none⟩)) := Blk.cell HV6.out.blk rfl
                  go_wp2_with fail
                  refine Reg.wp_region_plan [⟨0, false, []⟩, ⟨1, false, []⟩, ⟨2, false, []⟩, ⟨3, false, []⟩, ⟨4, false, []⟩, ⟨5, true, [1, 2, 3]⟩, ⟨6, true, []⟩, ⟨7, false, []⟩] rfl (by kernel_rfl) ?_
                  repeat (first | (refine Reg.look rfl rfl rfl (by go_simp; rfl) rfl ?_; go_simp) | (refine Reg.skip rfl rfl rfl ?_; go_simp))
                  refine Reg.act rfl ?_
                  go_wp2_with fail
                  refine (v_file (digest c) (by rw [digest_size]; omega) _).mono ?_
                  rintro e w7 ⟨rfl, hk⟩
                  have hk : Kp No w6 w7 := ((Kp.refl No _).drew).trans' hk
                  have HK7 := Lib.hid hk
                  have HV7 := Lib.hid (HV6.out.keptNo hk)
                  have g7 : w7.cell? ⟨v, 1, none⟩ = some (.pointer (some ⟨d, 0, none⟩)) := Blk.cell HV7.out.blk rfl
                  clear hk
                  obtain ⟨⟨r2, y2⟩, hR2⟩ : ∃ R, syncD (fileN (digest c)) y1 = R := ⟨_, rfl⟩
                  have hsyn := d_sync d y1 F6 (fileN (digest c)) w7 HV7.out.disk
                  have hok2 := syncD_ok HOK1.out (fileN (digest c))
                  rw [hR2] at hsyn hok2
                  have HR2 := Lib.hid hR2
                  have HOK2 : Hid (OkD y2) := Lib.hid hok2
                  clear hR2 hok2
                  go_wp2_with fail
                  (refine ⟨?anew, ?_⟩; case anew => ((repeat (refine Reg.anew_cons rfl rfl (fun _ => by go_simp) ?_)); exact Reg.anew_nil))
                  repeat (first | (refine Reg.look rfl rfl rfl (by go_simp; rfl) rfl ?_; go_simp) | (refine Reg.skip rfl rfl rfl ?_; go_simp))
                  refine Reg.act rfl ?_
                  go_wp2_with fail
                  refine hsyn.mono ?_
                  rintro e w8 ⟨rfl, F8, hd8, hu8⟩
                  have HV8 := Lib.hid (HV7.out.turned hd8 hu8 HOK2.out)
                  have HU8 := Lib.hid ((HU6.out.trans (Upd.kp HK7.out)).trans (Upd.vault (fun k => Iff.rfl) hu8))
                  clear hsyn hd8 hu8 g6 g7
                  go_wp2_with fail
                  refine ⟨Reg.anew_nil, ?_⟩
                  repeat (first | (refine Reg.look rfl rfl rfl (by go_simp; rfl) rfl ?_; go_simp) | (refine Reg.skip rfl rfl rfl ?_; go_simp))
                  (refine Reg.done ?_; simp only [Exit.then])
                  by_cases h2 : r2 = 0
                  · subst h2
                    have g8 : w8.cell? ⟨v, 3, none⟩ = some (.map (some kp)) := Blk.cell HV8.out.blk rfl
                    obtain ⟨w9, hrun, hm9, hk9⟩ := HV8.out.keeps.update (P := Tryz.prog) key_dsk Tryz.underlying70 (digest c) (.int .i64 (c.size : Int))
                    have HV9 := Lib.hid (HV8.out.gained hm9 hk9 ⟨by omega, by omega⟩ HKL.out)
                    have HK9 := Lib.hid hk9
                    clear hm9 hk9
                    go_wp2_with fail
                    go_ret2
                    have e : Z = ((digest c, 0), { Y with d := y2, kept := ins (digest c) c.size Y.kept }) := by
                      rw [← HW.out]; unfold writeV
                      rw [HBV.out.1, HBV.out.2, if_neg (Int.not_lt.2 HQ.out), HR1.out]
                      simp only [ne_eq, not_true_eq_false, if_false]
                      rw [HR2.out]
                      simp only [not_true_eq_false, if_false]
                    rw [e]
                    refine ⟨rfl, _, ⟨b, kp, lb, _, F8, HV9.out, fun k => Iff.rfl⟩, HU8.out.trans ⟨HK9.out.mono fun k _ e => .inr (.inr (.inl e)), fun k hk => .inl hk⟩⟩
                  · have h2d : (r2 != 0) = true := by simpa using h2
                    go_wp2_with fail
                    go_ret2
                    have e : Z = ((.empty, r2), { Y with d := y2 }) := by
                      rw [← HW.out]; unfold writeV
                      rw [HBV.out.1, HBV.out.2, if_neg (Int.not_lt.2 HQ.out), HR1.out]
                      simp only [ne_eq, not_true_eq_false, if_false]
                      rw [HR2.out]
                      rw [if_pos h2]
                    rw [e]
                    exact ⟨rfl, _, ⟨b, kp, lb, lk, F8, HV8.out, fun k => Iff.rfl⟩, HU8.out⟩
                · have h1d : (r1 == 0) = false := by simpa using h1
                  have h1e : (r1 != 0) = true := by simpa using h1
                  go_wp2_with fail
                  go_ret2
                  have e : Z = ((.empty, r1), { Y with d := y1 }) := by
                    rw [← HW.out]; unfold writeV
                    rw [HBV.out.1, HBV.out.2, if_neg (Int.not_lt.2 HQ.out), HR1.out, if_pos h1]
                  rw [e]
                  exact ⟨rfl, _, ⟨b, kp, lb, lk, F6, HV6.out, fun k => Iff.rfl⟩, HU6.out⟩
            · have h0d : (r0 != 0) = true := by simpa using hr0
              have HVA := Lib.hid hva
              have HW : Hid (((.empty, r0), Y) = Z) := Lib.hid (by have := HW0.out; rw [if_neg hr0] at this; exact this)
              clear hva
              go_wp2_with fail
              go_ret2
              rw [← HW.out]
              exact ⟨rfl, FF, HVA.out, HUU.out⟩
end Go.Proofs.YtflodiljgphkdaaGreat
