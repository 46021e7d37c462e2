/-
  vault: drop, Has, Get.
-/
import Derived.Test.YtflodiljgphkdaaVlt1
import Derived.Test.YtflodiljgphkdaaDisk7
namespace Go.Proofs.Ytflodiljgphkdaa
open Go.RowKit Go.ChangeShapes Go.WideShapes Go.ChangeAt

theorem zero_int (w : World) : (zeroValue 3).run Try.prog w = .ok (.int .i64 0) w := by
  go_simp
theorem MapOf.nodup {κ : Type} {w : World} {b : Nat} {enc : κ → Value} {l : List (κ × Value)} (h : MapOf w b enc l) : (l.map (·.1)).Nodup := by
  obtain ⟨_, _, _, _, h, _⟩ := h; exact h
theorem OkV.lost {X : VV} (h : OkV X) (n : ByteArray) : OkV { X with kept := mdel n X.kept } :=
  ⟨h.dk, h.quota, h.kept.mdel n, h.held, fun p hp => h.each p ((mdel_sub n _).subset hp), Nat.le_trans (mdel_length n _) h.many⟩
theorem VIn.lost {w w' : World} {v b d kp : Nat} {lb lk : List (ByteArray × Value)} {X : VV} {F : Nat → Prop} (h : VIn w v b d kp lb lk X F) {n : ByteArray} (hm : MapOf w' kp Value.string (mdel n lk)) (hk : Kp (· = kp) w w') :
    VIn w' v b d kp lb (mdel n lk) { X with kept := mdel n X.kept } F := by
  refine ⟨Blk.kept h.blk hk h.v_ne_k, h.needs.kept hk h.ne, hm, h.bents, fun m => ?_, h.disk.kept hk (fun k hF e => h.nk (e ▸ hF)), h.ne, h.nv, h.nb, h.nk, h.ok.lost n⟩
  rw [mget_del n m _ h.keeps.nodup, mget_del n m _ h.ok.kept.nodup, h.kents m]
  split <;> rfl

set_option maxRecDepth 100000 in
set_option maxHeartbeats 1000000 in
theorem v_drop (v d : Nat) (X : VV) (F : Nat → Prop) (h : ByteArray) (hs : h.size ≤ 1048576) (w : World) (hv : VAt w v d X F) :
    Calls Try.prog 78 #[.pointer (some ⟨v, 0, none⟩), .string h] w fun e w' => e = .returned (.int .i64 (dropV h X).1) ∧ ∃ F', VAt w' v d (dropV h X).2 F' ∧ Upd F w w' F' := by
  obtain ⟨b, kp, lb, lk, F0, hv, hF⟩ := hv
  have H := Lib.hid hv
  have HF := Lib.hid hF
  have c1 : w.cell? ⟨v, 1, none⟩ = some (.pointer (some ⟨d, 0, none⟩)) := Blk.cell hv.blk rfl
  have hfile := v_file h hs
  have HFI := Lib.hid hfile
  obtain ⟨⟨r, y⟩, hR⟩ : ∃ R, removeD (fileN h) X.d = R := ⟨_, rfl⟩
  have hok := removeD_ok hv.ok.dk (fileN h)
  rw [hR] at hok
  have HR := Lib.hid hR
  have HOK : Hid (OkD y) := Lib.hid hok
  unfold dropV
  rw [hR]
  clear hv hs hfile hR hok hF
  by_cases h0 : r = 0
  · subst h0
    simp only [if_true]
    go_enter Try.func78, Try.ntmps78
    go_wp2_with fail
    refine Reg.wp_region_plan [⟨0, false, []⟩, ⟨1, false, []⟩, ⟨2, false, []⟩, ⟨3, false, []⟩, ⟨4, false, []⟩, ⟨5, true, [1, 2, 3]⟩, ⟨6, true, []⟩, ⟨7, false, []⟩] rfl (by kernel_rfl) ?_
    repeat (first | (refine Reg.look rfl rfl rfl (by go_simp; rfl) rfl ?_; go_simp) | (refine Reg.skip rfl rfl rfl ?_; go_simp))
    refine Reg.act rfl ?_
    go_wp2_with fail
    refine (HFI.out _).mono ?_
    rintro e w1 ⟨rfl, hk⟩
    have hk : Kp No w w1 := ((Kp.refl No w).drew).trans' hk
    have HK := Lib.hid hk
    have H1 := Lib.hid (H.out.keptNo hk)
    have c2 : w1.cell? ⟨v, 1, none⟩ = some (.pointer (some ⟨d, 0, none⟩)) := Blk.cell H1.out.blk rfl
    clear hk
    go_wp2_with fail
    (refine ⟨?anew, ?_⟩; case anew => ((repeat (refine Reg.anew_cons rfl rfl (fun _ => by go_simp) ?_)); exact Reg.anew_nil))
    repeat (first | (refine Reg.look rfl rfl rfl (by go_simp; rfl) rfl ?_; go_simp) | (refine Reg.skip rfl rfl rfl ?_; go_simp))
    refine Reg.act rfl ?_
    go_wp2_with fail
    have hrem := d_remove d X.d F0 (fileN h) w1 H1.out.disk
    rw [HR.out] at hrem
    refine hrem.mono ?_
    rintro e w2 ⟨rfl, F2, hd2, hu2⟩
    have H2 := Lib.hid (H1.out.turned hd2 hu2 HOK.out)
    have HU2 := Lib.hid hu2
    have c3 : w2.cell? ⟨v, 3, none⟩ = some (.map (some kp)) := Blk.cell H2.out.blk rfl
    clear hrem c1 c2 hd2 hu2
    go_wp2_with fail
    refine ⟨Reg.anew_nil, ?_⟩
    repeat (first | (refine Reg.look rfl rfl rfl (by go_simp; rfl) rfl ?_; go_simp) | (refine Reg.skip rfl rfl rfl ?_; go_simp))
    (refine Reg.done ?_; simp only [Exit.then])
    obtain ⟨w3, hrun, hm3, hk3⟩ := H2.out.keeps.delete (P := Try.prog) key_dsk Try.underlying69 h 9 0
    have H3 := Lib.hid (H2.out.lost hm3 hk3)
    have HK3 := Lib.hid hk3
    clear hm3 hk3
    go_wp2_with fail
    try rw [hrun]
    try go_wp2_with fail
    go_ret
    refine ⟨rfl, fun k => k = v ∨ k = b ∨ k = kp ∨ F2 k, ⟨b, kp, _, _, F2, H3.out, fun k => Iff.rfl⟩, ?_, ?_⟩
    · refine (HK.out.any.trans HU2.out.1 (fun k _ hf => (HF.out k).2 (.inr (.inr (.inr hf))))).trans HK3.out (fun k _ e => (HF.out k).2 (.inr (.inr (.inl e))))
    · rintro k (rfl | rfl | rfl | hk)
      · exact .inl ((HF.out _).2 (.inl rfl))
      · exact .inl ((HF.out _).2 (.inr (.inl rfl)))
      · exact .inl ((HF.out _).2 (.inr (.inr (.inl rfl))))
      · rcases HU2.out.2 k hk with h | h
        · exact .inl ((HF.out _).2 (.inr (.inr (.inr h))))
        · have := HK.out.size
          right; omega
  · have h0d : (r != 0) = true := by simpa using h0
    simp only [if_neg h0]
    go_enter Try.func78, Try.ntmps78
    go_wp2_with fail
    refine Reg.wp_region_plan [⟨0, false, []⟩, ⟨1, false, []⟩, ⟨2, false, []⟩, ⟨3, false, []⟩, ⟨4, false, []⟩, ⟨5, true, [1, 2, 3]⟩, ⟨6, true, []⟩, ⟨7, false, []⟩] rfl (by kernel_rfl) ?_
    repeat (first | (refine Reg.look rfl rfl rfl (by go_simp; rfl) rfl ?_; go_simp) | (refine Reg.skip rfl rfl rfl ?_; go_simp))
    refine Reg.act rfl ?_
    go_wp2_with fail
    refine (HFI.out _).mono ?_
    rintro e w1 ⟨rfl, hk⟩
    have hk : Kp No w w1 := ((Kp.refl No w).drew).trans' hk
    have HK := Lib.hid hk
    have H1 := Lib.hid (H.out.keptNo hk)
    have c2 : w1.cell? ⟨v, 1, none⟩ = some (.pointer (some ⟨d, 0, none⟩)) := Blk.cell H1.out.blk rfl
    clear hk
    go_wp2_with fail
    (refine ⟨?anew, ?_⟩; case anew => ((repeat (refine Reg.anew_cons rfl rfl (fun _ => by go_simp) ?_)); exact Reg.anew_nil))
    repeat (first | (refine Reg.look rfl rfl rfl (by go_simp; rfl) rfl ?_; go_simp) | (refine Reg.skip rfl rfl rfl ?_; go_simp))
    refine Reg.act rfl ?_
    go_wp2_with fail
    have hrem := d_remove d X.d F0 (fileN h) w1 H1.out.disk
    rw [HR.out] at hrem
    refine hrem.mono ?_
    rintro e w2 ⟨rfl, F2, hd2, hu2⟩
    have H2 := Lib.hid (H1.out.turned hd2 hu2 HOK.out)
    have HU2 := Lib.hid hu2
    have c3 : w2.cell? ⟨v, 3, none⟩ = some (.map (some kp)) := Blk.cell H2.out.blk rfl
    clear hrem c1 c2 hd2 hu2
    go_wp2_with fail
    refine ⟨Reg.anew_nil, ?_⟩
    repeat (first | (refine Reg.look rfl rfl rfl (by go_simp; rfl) rfl ?_; go_simp) | (refine Reg.skip rfl rfl rfl ?_; go_simp))
    (refine Reg.done ?_; simp only [Exit.then])
    go_wp2_with fail
    go_ret
    refine ⟨rfl, fun k => k = v ∨ k = b ∨ k = kp ∨ F2 k, ⟨b, kp, _, _, F2, H2.out, fun k => Iff.rfl⟩, ?_, ?_⟩
    · exact HK.out.any.trans HU2.out.1 (fun k _ hf => (HF.out k).2 (.inr (.inr (.inr hf))))
    · rintro k (rfl | rfl | rfl | hk)
      · exact .inl ((HF.out _).2 (.inl rfl))
      · exact .inl ((HF.out _).2 (.inr (.inl rfl)))
      · exact .inl ((HF.out _).2 (.inr (.inr (.inl rfl))))
      · rcases HU2.out.2 k hk with h | h
        · exact .inl ((HF.out _).2 (.inr (.inr (.inr h))))
        · have := HK.out.size
          right; omega

set_option maxRecDepth 100000 in
theorem v_has_nil (h : ByteArray) (w : World) : Calls Try.prog 45 #[.pointer none, .string h] w fun e w' => e = .returned (.bool false) ∧ w' = w := by
  go_enter Try.func45, Try.ntmps45
  go_wp2_with fail
  go_ret
  exact ⟨rfl, rfl⟩
set_option maxRecDepth 100000 in
theorem v_has (v d : Nat) (X : VV) (F : Nat → Prop) (h : ByteArray) (hs : h.size ≤ 1048576) (w : World) (hv : VAt w v d X F) :
    Calls Try.prog 45 #[.pointer (some ⟨v, 0, none⟩), .string h] w fun e w' => e = .returned (.bool (hasV h X)) ∧ Kp No w w' := by
  have hw := v_whole v d X F h hs w hv
  obtain ⟨b, kp, lb, lk, F0, hv, _⟩ := hv
  have c3 : w.cell? ⟨v, 3, none⟩ = some (.map (some kp)) := Blk.cell hv.blk rfl
  have hlook := hv.keeps.look_ok (P := Try.prog) key_dsk Try.underlying69 h (zero_int w)
  rw [hv.kents h] at hlook
  unfold hasV keepsV
  clear hv hs
  cases hm : mget h X.kept with
  | none =>
    rw [hm] at hlook
    simp only [Option.map_none, Option.getD_none, Option.isSome_none, Bool.false_and] at hlook ⊢
    clear hm hw
    go_enter Try.func45, Try.ntmps45
    go_wp2_with fail
    go_ret
    exact ⟨rfl, Kp.refl _ _⟩
  | some q =>
    rw [hm] at hlook
    simp only [Option.map_some, Option.getD_some, Option.isSome_some, Bool.true_and] at hlook ⊢
    clear hm
    go_enter Try.func45, Try.ntmps45
    go_wp2_with fail
    refine hw.mono ?_
    rintro e w1 ⟨rfl, hk⟩
    have HK := Lib.hid hk
    clear hw hk
    go_wp2_with fail
    go_ret
    exact ⟨rfl, HK.out⟩
set_option maxRecDepth 100000 in
theorem v_get_nil (h : ByteArray) (w : World) : Calls Try.prog 39 #[.pointer none, .string h] w fun e w' => e = .returned (.tuple #[.string ⟨#[]⟩, .int .i64 2]) ∧ w' = w := by
  go_enter Try.func39, Try.ntmps39
  go_wp2_with fail
  go_ret2
  exact ⟨rfl, rfl⟩
set_option maxRecDepth 100000 in
set_option maxHeartbeats 1000000 in
theorem v_get (v d : Nat) (X : VV) (F : Nat → Prop) (h : ByteArray) (hs : h.size ≤ 1048576) (w : World) (hv : VAt w v d X F) :
    Calls Try.prog 39 #[.pointer (some ⟨v, 0, none⟩), .string h] w fun e w' => e = .returned (.tuple #[.string (getV h X).1.1, .int .i64 (getV h X).1.2]) ∧ ∃ F', VAt w' v d (getV h X).2 F' ∧ Upd F w w' F' := by
  have hA := hv
  have HA := Lib.hid hv
  have hw := v_whole v d X F h hs w hv
  have hdr := v_drop v d X F h hs
  obtain ⟨b, kp, lb, lk, F0, hv, hF⟩ := hv
  have H := Lib.hid hv
  have c3 : w.cell? ⟨v, 3, none⟩ = some (.map (some kp)) := Blk.cell hv.blk rfl
  have hlook := hv.keeps.look_ok (P := Try.prog) key_dsk Try.underlying69 h (zero_int w)
  rw [hv.kents h] at hlook
  have hsame : Upd F w w F := ⟨Kp.refl _ _, fun k hk => .inl hk⟩
  have HS := Lib.hid hsame
  unfold getV keepsV
  clear hv hs hF hsame hA
  cases hoff : X.d.off with
  | true =>
    simp only [if_true]
    clear hw hdr hlook c3
    have hdown := d_down d X.d F0 w H.out.disk
    rw [hoff] at hdown
    have c1 : w.cell? ⟨v, 1, none⟩ = some (.pointer (some ⟨d, 0, none⟩)) := Blk.cell H.out.blk rfl
    go_enter Try.func39, Try.ntmps39
    go_wp2_with fail
    refine hdown.mono ?_
    rintro e w1 ⟨rfl, rfl⟩
    clear hdown
    go_wp2_with fail
    go_ret2
    exact ⟨rfl, F, HA.out, HS.out⟩
  | false =>
    simp only [Bool.false_eq_true, if_false]
    cases hm : mget h X.kept with
    | none =>
      rw [hm] at hlook
      simp only [Option.map_none, Option.getD_none, Option.isSome_none, if_true] at hlook ⊢
      clear hm hw hdr
      have hdown := d_down d X.d F0 w H.out.disk
      rw [hoff] at hdown
      have c1 : w.cell? ⟨v, 1, none⟩ = some (.pointer (some ⟨d, 0, none⟩)) := Blk.cell H.out.blk rfl
      go_enter Try.func39, Try.ntmps39
      go_wp2_with fail
      refine hdown.mono ?_
      rintro e w1 ⟨rfl, rfl⟩
      clear hdown
      go_wp2_with fail
      go_ret2
      exact ⟨rfl, F, HA.out, HS.out⟩
    | some q =>
      rw [hm] at hlook
      simp only [Option.map_some, Option.getD_some, Option.isSome_some, Bool.true_eq_false, if_false] at hlook ⊢
      clear hm
      cases hB : wholeB h X.d with
      | true =>
        rw [hB] at hw
        simp only [if_true]
        clear hB hdr
        have hdown := d_down d X.d F0 w H.out.disk
        rw [hoff] at hdown
        have c1 : w.cell? ⟨v, 1, none⟩ = some (.pointer (some ⟨d, 0, none⟩)) := Blk.cell H.out.blk rfl
        go_enter Try.func39, Try.ntmps39
        go_wp2_with fail
        refine hdown.mono ?_
        rintro e w1 ⟨rfl, rfl⟩
        clear hdown
        go_wp2_with fail
        refine hw.mono ?_
        rintro e w2 ⟨rfl, hk⟩
        have HK := Lib.hid hk
        clear hw hk
        go_wp2_with fail
        go_ret2
        exact ⟨rfl, F, HA.out.keptNo HK.out, HK.out.any, fun k hk => .inl hk⟩
      | false =>
        rw [hB] at hw
        simp only [Bool.false_eq_true, if_false]
        obtain ⟨⟨r, Y⟩, hR⟩ : ∃ R, dropV h X = R := ⟨_, rfl⟩
        rw [hR] at hdr ⊢
        have HDR := Lib.hid hdr
        clear hB hdr hR
        by_cases h0 : r = 0
        · subst h0
          simp only [if_true]
          have hdown := d_down d X.d F0 w H.out.disk
          rw [hoff] at hdown
          have c1 : w.cell? ⟨v, 1, none⟩ = some (.pointer (some ⟨d, 0, none⟩)) := Blk.cell H.out.blk rfl
          go_enter Try.func39, Try.ntmps39
          go_wp2_with fail
          refine hdown.mono ?_
          rintro e w1 ⟨rfl, rfl⟩
          clear hdown
          go_wp2_with fail
          refine hw.mono ?_
          rintro e w2 ⟨rfl, hk⟩
          have HK := Lib.hid hk
          clear hw hk
          go_wp2_with fail
          refine (HDR.out w2 (HA.out.keptNo HK.out)).mono ?_
          rintro e w3 ⟨rfl, F3, h3, hu3⟩
          have H3 := Lib.hid h3
          have HU3 := Lib.hid hu3
          clear h3 hu3
          go_wp2_with fail
          go_ret2
          exact ⟨rfl, F3, H3.out, HK.out.any.trans HU3.out.1 (fun _ _ h => h), fun k hk => (HU3.out.2 k hk).imp id (fun h => Nat.le_trans HK.out.size h)⟩
        · have h0d : (r != 0) = true := by simpa using h0
          simp only [if_neg h0]
          have hdown := d_down d X.d F0 w H.out.disk
          rw [hoff] at hdown
          have c1 : w.cell? ⟨v, 1, none⟩ = some (.pointer (some ⟨d, 0, none⟩)) := Blk.cell H.out.blk rfl
          go_enter Try.func39, Try.ntmps39
          go_wp2_with fail
          refine hdown.mono ?_
          rintro e w1 ⟨rfl, rfl⟩
          clear hdown
          go_wp2_with fail
          refine hw.mono ?_
          rintro e w2 ⟨rfl, hk⟩
          have HK := Lib.hid hk
          clear hw hk
          go_wp2_with fail
          refine (HDR.out w2 (HA.out.keptNo HK.out)).mono ?_
          rintro e w3 ⟨rfl, F3, h3, hu3⟩
          have H3 := Lib.hid h3
          have HU3 := Lib.hid hu3
          clear h3 hu3
          go_wp2_with fail
          go_ret2
          exact ⟨rfl, F3, H3.out, HK.out.any.trans HU3.out.1 (fun _ _ h => h), fun k hk => (HU3.out.2 k hk).imp id (fun h => Nat.le_trans HK.out.size h)⟩
end Go.Proofs.Ytflodiljgphkdaa
