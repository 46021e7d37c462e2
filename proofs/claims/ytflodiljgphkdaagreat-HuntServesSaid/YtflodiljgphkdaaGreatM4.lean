/-
  Put together: Vlt2, Vlt3, Vlt4.
-/
import Derived.Test.YtflodiljgphkdaaGreatVlt1
import Derived.Test.YtflodiljgphkdaaGreatDisk7
import Derived.Test.YtflodiljgphkdaaGreatSortI
import Derived.Test.YtflodiljgphkdaaGreatM3
import Derived.Test.YtflodiljgphkdaaGreatM2
namespace Go.Proofs.YtflodiljgphkdaaGreat
section
open Go.RowKit Go.ChangeShapes Go.WideShapes Go.ChangeAt

theorem zero_int (w : World) : (zeroValue 3).run Tryz.prog w = .ok (.int .i64 0) w := by
  go_simp
theorem MapOf.nodup {κ : Type} {w : World} {b : Nat} {enc : κ → Value} {l : List (κ × Value)} (h : MapOf w b enc l) : (l.map (·.1)).Nodup := by
  obtain ⟨_, _, _, _, h, _⟩ := h; exact h
theorem OkV.lost {X : VV} (h : OkV X) (n : ByteArray) : OkV { X with kept := mdel n X.kept } :=
  ⟨h.dk, h.quota, h.kept.mdel n, h.held, fun p hp => h.each p ((mdel_sub n _).subset hp), Nat.le_trans (mdel_length n _) h.many⟩
theorem VIn.lost {w w' : World} {v b d kp : Nat} {lb lk : List (ByteArray × Value)} {X : VV} {F : Nat → Prop} (h : VIn w v b d kp lb lk X F) {n : ByteArray} (hm : MapOf w' kp Value.string (mdel n lk)) (hk : Kp (· = kp) w w') :
    VIn w' v b d kp lb (mdel n lk) { X with kept := mdel n X.kept } F := by
  refine ⟨Blk.kept h.blk hk h.v_ne_k, h.needs.kept hk h.ne, hm, h.bents, fun m => ?_, h.disk.kept hk (fun k hF e => h.nk (e ▸ hF)), h.ne, h.nv, h.nb, h.nk, h.ok.lost n⟩
  rw [mget_del n m _ h.keeps.nodup, mget_del n m _ h.ok.kept.nodup, h.kents m]
  split <;> rfl

set_option maxRecDepth 100000 in
set_option maxHeartbeats 1000000 in
theorem v_drop (v d : Nat) (X : VV) (F : Nat → Prop) (h : ByteArray) (hs : h.size ≤ 1048576) (w : World) (hv : VAt w v d X F) :
    Calls Tryz.prog 37 #[.pointer (some ⟨v, 0, none⟩), .string h] w fun e w' => e = .returned (.int .i64 (dropV h X).1) ∧ ∃ F', VAt w' v d (dropV h X).2 F' ∧ Upd F w w' F' := by
  obtain ⟨b, kp, lb, lk, F0, hv, hF⟩ := hv
  have H := Lib.hid hv
  have HF := Lib.hid hF
  have c1 : w.cell? ⟨v, 1, none⟩ = some (.pointer (some ⟨d, 0, none⟩)) := Blk.cell hv.blk rfl
  have hfile := v_file h hs
  have HFI := Lib.hid hfile
  obtain ⟨⟨r, y⟩, hR⟩ : ∃ R, removeD (fileN h) X.d = R := ⟨_, rfl⟩
  have hok := removeD_ok hv.ok.dk (fileN h)
  rw [hR] at hok
  have HR := Lib.hid hR
  have HOK : Hid (OkD y) := Lib.hid hok
  unfold dropV
  rw [hR]
  clear hv hs hfile hR hok hF
  by_cases h0 : r = 0
  · subst h0
    simp only [if_true]
    go_enter Tryz.func37, Tryz.ntmps37
    go_wp2_with fail
    refine Reg.wp_region_plan [⟨0, false, []⟩, ⟨1, false, []⟩, ⟨2, false, []⟩, ⟨3, false, []⟩, ⟨4, false, []⟩, ⟨5, true, [1, 2, 3]⟩, ⟨6, true, []⟩, ⟨7, false, []⟩] rfl (by kernel_rfl) ?_
    repeat (first | (refine Reg.look rfl rfl rfl (by go_simp; rfl) rfl ?_; go_simp) | (refine Reg.skip rfl rfl rfl ?_; go_simp))
    refine Reg.act rfl ?_
    go_wp2_with fail
    refine (HFI.out _).mono ?_
    rintro e w1 ⟨rfl, hk⟩
    have hk : Kp No w w1 := ((Kp.refl No w).drew).trans' hk
    have HK := Lib.hid hk
    have H1 := Lib.hid (H.out.keptNo hk)
    have c2 : w1.cell? ⟨v, 1, none⟩ = some (.pointer (some ⟨d, 0, none⟩)) := Blk.cell H1.out.blk rfl
    clear hk
    go_wp2_with fail
    (refine ⟨?anew, ?_⟩; case anew => ((repeat (refine Reg.anew_cons rfl rfl (fun _ => by go_simp) ?_)); exact Reg.anew_nil))
    repeat (first | (refine Reg.look rfl rfl rfl (by go_simp; rfl) rfl ?_; go_simp) | (refine Reg.skip rfl rfl rfl ?_; go_simp))
    refine Reg.act rfl ?_
    go_wp2_with fail
    have hrem := d_remove d X.d F0 (fileN h) w1 H1.out.disk
    rw [HR.out] at hrem
    refine hrem.mono ?_
    rintro e w2 ⟨rfl, F2, hd2, hu2⟩
    have H2 := Lib.hid (H1.out.turned hd2 hu2 HOK.out)
    have HU2 := Lib.hid hu2
    have c3 : w2.cell? ⟨v, 3, none⟩ = some (.map (some kp)) := Blk.cell H2.out.blk rfl
    clear hrem c1 c2 hd2 hu2
    go_wp2_with fail
    refine ⟨Reg.anew_nil, ?_⟩
    repeat (first | (refine Reg.look rfl rfl rfl (by go_simp; rfl) rfl ?_; go_simp) | (refine Reg.skip rfl rfl rfl ?_; go_simp))
    (refine Reg.done ?_; simp only [Exit.then])
    obtain ⟨w3, hrun, hm3, hk3⟩ := H2.out.keeps.delete (P := Tryz.prog) key_dsk Tryz.underlying70 h 9 0
    have H3 := Lib.hid (H2.out.lost hm3 hk3)
    have HK3 := Lib.hid hk3
    clear hm3 hk3
    go_wp2_with fail
    try rw [hrun]
    try go_wp2_with fail
    go_ret
    refine ⟨rfl, fun k => k = v ∨ k = b ∨ k = kp ∨ F2 k, ⟨b, kp, _, _, F2, H3.out, fun k => Iff.rfl⟩, ?_, ?_⟩
    · refine (HK.out.any.trans HU2.out.1 (fun k _ hf => (HF.out k).2 (.inr (.inr (.inr hf))))).trans HK3.out (fun k _ e => (HF.out k).2 (.inr (.inr (.inl e))))
    · rintro k (rfl | rfl | rfl | hk)
      · exact .inl ((HF.out _).2 (.inl rfl))
      · exact .inl ((HF.out _).2 (.inr (.inl rfl)))
      · exact .inl ((HF.out _).2 (.inr (.inr (.inl rfl))))
      · rcases HU2.out.2 k hk with h | h
        · exact .inl ((HF.out _).2 (.inr (.inr (.inr h))))
        · have := HK.out.size
          right; omega
  · have h0d : (r != 0) = true := by simpa using h0
    simp only [if_neg h0]
    go_enter Tryz.func37, Tryz.ntmps37
    go_wp2_with fail
    refine Reg.wp_region_plan [⟨0, false, []⟩, ⟨1, false, []⟩, ⟨2, false, []⟩, ⟨3, false, []⟩, ⟨4, false, []⟩, ⟨5, true, [1, 2, 3]⟩, ⟨6, true, []⟩, ⟨7, false, []⟩] rfl (by kernel_rfl) ?_
    repeat (first | (refine Reg.look rfl rfl rfl (by go_simp; rfl) rfl ?_; go_simp) | (refine Reg.skip rfl rfl rfl ?_; go_simp))
    refine Reg.act rfl ?_
    go_wp2_with fail
    refine (HFI.out _).mono ?_
    rintro e w1 ⟨rfl, hk⟩
    have hk : Kp No w w1 := ((Kp.refl No w).drew).trans' hk
    have HK := Lib.hid hk
    have H1 := Lib.hid (H.out.keptNo hk)
    have c2 : w1.cell? ⟨v, 1, none⟩ = some (.pointer (some ⟨d, 0, none⟩)) := Blk.cell H1.out.blk rfl
    clear hk
    go_wp2_with fail
    (refine ⟨?anew, ?_⟩; case anew => ((repeat (refine Reg.anew_cons rfl rfl (fun _ => by go_simp) ?_)); exact Reg.anew_nil))
    repeat (first | (refine Reg.look rfl rfl rfl (by go_simp; rfl) rfl ?_; go_simp) | (refine Reg.skip rfl rfl rfl ?_; go_simp))
    refine Reg.act rfl ?_
    go_wp2_with fail
    have hrem := d_remove d X.d F0 (fileN h) w1 H1.out.disk
    rw [HR.out] at hrem
    refine hrem.mono ?_
    rintro e w2 ⟨rfl, F2, hd2, hu2⟩
    have H2 := Lib.hid (H1.out.turned hd2 hu2 HOK.out)
    have HU2 := Lib.hid hu2
    have c3 : w2.cell? ⟨v, 3, none⟩ = some (.map (some kp)) := Blk.cell H2.out.blk rfl
    clear hrem c1 c2 hd2 hu2
    go_wp2_with fail
    refine ⟨Reg.anew_nil, ?_⟩
    repeat (first | (refine Reg.look rfl rfl rfl (by go_simp; rfl) rfl ?_; go_simp) | (refine Reg.skip rfl rfl rfl ?_; go_simp))
    (refine Reg.done ?_; simp only [Exit.then])
    go_wp2_with fail
    go_ret
    refine ⟨rfl, fun k => k = v ∨ k = b ∨ k = kp ∨ F2 k, ⟨b, kp, _, _, F2, H2.out, fun k => Iff.rfl⟩, ?_, ?_⟩
    · exact HK.out.any.trans HU2.out.1 (fun k _ hf => (HF.out k).2 (.inr (.inr (.inr hf))))
    · rintro k (rfl | rfl | rfl | hk)
      · exact .inl ((HF.out _).2 (.inl rfl))
      · exact .inl ((HF.out _).2 (.inr (.inl rfl)))
      · exact .inl ((HF.out _).2 (.inr (.inr (.inl rfl))))
      · rcases HU2.out.2 k hk with h | h
        · exact .inl ((HF.out _).2 (.inr (.inr (.inr h))))
        · have := HK.out.size
          right; omega

set_option maxRecDepth 100000 in
theorem v_has_nil (h : ByteArray) (w : World) : Calls Tryz.prog 36 #[.pointer none, .string h] w fun e w' => e = .returned (.bool false) ∧ w' = w := by
  go_enter Tryz.func36, Tryz.ntmps36
  go_wp2_with fail
  go_ret
  exact ⟨rfl, rfl⟩
set_option maxRecDepth 100000 in
theorem v_has (v d : Nat) (X : VV) (F : Nat → Prop) (h : ByteArray) (hs : h.size ≤ 1048576) (w : World) (hv : VAt w v d X F) :
    Calls Tryz.prog 36 #[.pointer (some ⟨v, 0, none⟩), .string h] w fun e w' => e = .returned (.bool (hasV h X)) ∧ Kp No w w' := by
  have hw := v_whole v d X F h hs w hv
  obtain ⟨b, kp, lb, lk, F0, hv, _⟩ := hv
  have c3 : w.cell? ⟨v, 3, none⟩ = some (.map (some kp)) := Blk.cell hv.blk rfl
  have hlook := hv.keeps.look_ok (P := Tryz.prog) key_dsk Tryz.underlying70 h (zero_int w)
  rw [hv.kents h] at hlook
  unfold hasV keepsV
  clear hv hs
  cases hm : mget h X.kept with
  | none =>
    rw [hm] at hlook
    simp only [Option.map_none, Option.getD_none, Option.isSome_none, Bool.false_and] at hlook ⊢
    clear hm hw
    go_enter Tryz.func36, Tryz.ntmps36
    go_wp2_with fail
    go_ret
    exact ⟨rfl, Kp.refl _ _⟩
  | some q =>
    rw [hm] at hlook
    simp only [Option.map_some, Option.getD_some, Option.isSome_some, Bool.true_and] at hlook ⊢
    clear hm
    go_enter Tryz.func36, Tryz.ntmps36
    go_wp2_with fail
    refine hw.mono ?_
    rintro e w1 ⟨rfl, hk⟩
    have HK := Lib.hid hk
    clear hw hk
    go_wp2_with fail
    go_ret
    exact ⟨rfl, HK.out⟩
set_option maxRecDepth 100000 in
theorem v_get_nil (h : ByteArray) (w : World) : Calls Tryz.prog 52 #[.pointer none, .string h] w fun e w' => e = .returned (.tuple #[.string ⟨#[]⟩, .int .i64 2]) ∧ w' = w := by
  go_enter Tryz.func52, Tryz.ntmps52
  go_wp2_with fail
  go_ret2
  exact ⟨rfl, rfl⟩
set_option maxRecDepth 100000 in
set_option maxHeartbeats 1000000 in
theorem v_get (v d : Nat) (X : VV) (F : Nat → Prop) (h : ByteArray) (hs : h.size ≤ 1048576) (w : World) (hv : VAt w v d X F) :
    Calls Tryz.prog 52 #[.pointer (some ⟨v, 0, none⟩), .string h] w fun e w' => e = .returned (.tuple #[.string (getV h X).1.1, .int .i64 (getV h X).1.2]) ∧ ∃ F', VAt w' v d (getV h X).2 F' ∧ Upd F w w' F' := by
  have hA := hv
  have HA := Lib.hid hv
  have hw := v_whole v d X F h hs w hv
  have hdr := v_drop v d X F h hs
  obtain ⟨b, kp, lb, lk, F0, hv, hF⟩ := hv
  have H := Lib.hid hv
  have c3 : w.cell? ⟨v, 3, none⟩ = some (.map (some kp)) := Blk.cell hv.blk rfl
  have hlook := hv.keeps.look_ok (P := Tryz.prog) key_dsk Tryz.underlying70 h (zero_int w)
  rw [hv.kents h] at hlook
  have hsame : Upd F w w F := ⟨Kp.refl _ _, fun k hk => .inl hk⟩
  have HS := Lib.hid hsame
  unfold getV keepsV
  clear hv hs hF hsame hA
  cases hoff : X.d.off with
  | true =>
    simp only [if_true]
    clear hw hdr hlook c3
    have hdown := d_down d X.d F0 w H.out.disk
    rw [hoff] at hdown
    have c1 : w.cell? ⟨v, 1, none⟩ = some (.pointer (some ⟨d, 0, none⟩)) := Blk.cell H.out.blk rfl
    go_enter Tryz.func52, Tryz.ntmps52
    go_wp2_with fail
    refine hdown.mono ?_
    rintro e w1 ⟨rfl, rfl⟩
    clear hdown
    go_wp2_with fail
    go_ret2
    exact ⟨rfl, F, HA.out, HS.out⟩
  | false =>
    simp only [Bool.false_eq_true, if_false]
    cases hm : mget h X.kept with
    | none =>
      rw [hm] at hlook
      simp only [Option.map_none, Option.getD_none, Option.isSome_none, if_true] at hlook ⊢
      clear hm hw hdr
      have hdown := d_down d X.d F0 w H.out.disk
      rw [hoff] at hdown
      have c1 : w.cell? ⟨v, 1, none⟩ = some (.pointer (some ⟨d, 0, none⟩)) := Blk.cell H.out.blk rfl
      go_enter Tryz.func52, Tryz.ntmps52
      go_wp2_with fail
      refine hdown.mono ?_
      rintro e w1 ⟨rfl, rfl⟩
      clear hdown
      go_wp2_with fail
      go_ret2
      exact ⟨rfl, F, HA.out, HS.out⟩
    | some q =>
      rw [hm] at hlook
      simp only [Option.map_some, Option.getD_some, Option.isSome_some, Bool.true_eq_false, if_false] at hlook ⊢
      clear hm
      cases hB : wholeB h X.d with
      | true =>
        rw [hB] at hw
        simp only [if_true]
        clear hB hdr
        have hdown := d_down d X.d F0 w H.out.disk
        rw [hoff] at hdown
        have c1 : w.cell? ⟨v, 1, none⟩ = some (.pointer (some ⟨d, 0, none⟩)) := Blk.cell H.out.blk rfl
        go_enter Tryz.func52, Tryz.ntmps52
        go_wp2_with fail
        refine hdown.mono ?_
        rintro e w1 ⟨rfl, rfl⟩
        clear hdown
        go_wp2_with fail
        refine hw.mono ?_
        rintro e w2 ⟨rfl, hk⟩
        have HK := Lib.hid hk
        clear hw hk
        go_wp2_with fail
        go_ret2
        exact ⟨rfl, F, HA.out.keptNo HK.out, HK.out.any, fun k hk => .inl hk⟩
      | false =>
        rw [hB] at hw
        simp only [Bool.false_eq_true, if_false]
        obtain ⟨⟨r, Y⟩, hR⟩ : ∃ R, dropV h X = R := ⟨_, rfl⟩
        rw [hR] at hdr ⊢
        have HDR := Lib.hid hdr
        clear hB hdr hR
        by_cases h0 : r = 0
        · subst h0
          simp only [if_true]
          have hdown := d_down d X.d F0 w H.out.disk
          rw [hoff] at hdown
          have c1 : w.cell? ⟨v, 1, none⟩ = some (.pointer (some ⟨d, 0, none⟩)) := Blk.cell H.out.blk rfl
          go_enter Tryz.func52, Tryz.ntmps52
          go_wp2_with fail
          refine hdown.mono ?_
          rintro e w1 ⟨rfl, rfl⟩
          clear hdown
          go_wp2_with fail
          refine hw.mono ?_
          rintro e w2 ⟨rfl, hk⟩
          have HK := Lib.hid hk
          clear hw hk
          go_wp2_with fail
          refine (HDR.out w2 (HA.out.keptNo HK.out)).mono ?_
          rintro e w3 ⟨rfl, F3, h3, hu3⟩
          have H3 := Lib.hid h3
          have HU3 := Lib.hid hu3
          clear h3 hu3
          go_wp2_with fail
          go_ret2
          exact ⟨rfl, F3, H3.out, HK.out.any.trans HU3.out.1 (fun _ _ h => h), fun k hk => (HU3.out.2 k hk).imp id (fun h => Nat.le_trans HK.out.size h)⟩
        · have h0d : (r != 0) = true := by simpa using h0
          simp only [if_neg h0]
          have hdown := d_down d X.d F0 w H.out.disk
          rw [hoff] at hdown
          have c1 : w.cell? ⟨v, 1, none⟩ = some (.pointer (some ⟨d, 0, none⟩)) := Blk.cell H.out.blk rfl
          go_enter Tryz.func52, Tryz.ntmps52
          go_wp2_with fail
          refine hdown.mono ?_
          rintro e w1 ⟨rfl, rfl⟩
          clear hdown
          go_wp2_with fail
          refine hw.mono ?_
          rintro e w2 ⟨rfl, hk⟩
          have HK := Lib.hid hk
          clear hw hk
          go_wp2_with fail
          refine (HDR.out w2 (HA.out.keptNo HK.out)).mono ?_
          rintro e w3 ⟨rfl, F3, h3, hu3⟩
          have H3 := Lib.hid h3
          have HU3 := Lib.hid hu3
          clear h3 hu3
          go_wp2_with fail
          go_ret2
          exact ⟨rfl, F3, H3.out, HK.out.any.trans HU3.out.1 (fun _ _ h => h), fun k hk => (HU3.out.2 k hk).imp id (fun h => Nat.le_trans HK.out.size h)⟩
end

section
open Go.RowKit Go.ChangeShapes Go.WideShapes Go.ChangeAt

/-- the sum of a map's numbers, in whatever order -/
theorem sum_perm {ν : Type} : ∀ {l : List (ByteArray × ν)} {m : List (ByteArray × Int)} (f : ν → Int), (l.map (·.1)).Nodup → (m.map (·.1)).Nodup → (∀ n, (mget n l).map f = mget n m) → (l.map fun p => f p.2).sum = sumV m
  | [], [], _, _, _, _ => rfl
  | [], q :: m, f, _, _, h => by
    have := h q.1
    unfold mget at this
    simp at this
  | p :: l, m, f, hl, hm, h => by
    rw [List.map_cons, List.nodup_cons] at hl
    have h1 : mget p.1 m = some (f p.2) := by rw [← h p.1]; unfold mget; simp
    have h2 := sum_perm (l := l) (m := mdel p.1 m) f hl.2 (nodup_mdel p.1 m hm) (fun n => by
      rw [mget_del p.1 n m hm, ← h n]
      by_cases e : n = p.1
      · subst e
        rw [if_pos rfl, (mget_none_iff _ _).2 hl.1]; rfl
      · rw [if_neg e]; conv => rhs; unfold mget
        rw [if_neg e])
    rw [List.map_cons, List.sum_cons, h2]
    exact (sum_mdel h1).symm
where
  sum_mdel {n : ByteArray} {x : Int} : ∀ {m : List (ByteArray × Int)}, mget n m = some x → sumV m = x + sumV (mdel n m)
    | (k, y) :: m, h => by
      unfold mget at h
      unfold mdel
      by_cases e : n = k
      · rw [if_pos e] at h ⊢
        injection h with h
        subst h
        unfold sumV
        rw [List.map_cons, List.sum_cons]
      · rw [if_neg e] at h ⊢
        have := sum_mdel h
        unfold sumV at *
        rw [List.map_cons, List.sum_cons, List.map_cons, List.sum_cons, this]
        omega
theorem VIn.sum {w : World} {v b d kp : Nat} {lb lk : List (ByteArray × Value)} {X : VV} {F : Nat → Prop} (h : VIn w v b d kp lb lk X F) : (lk.map fun p => intOf p.2).sum = sumV X.kept :=
  sum_perm intOf h.keeps.nodup h.ok.kept.nodup (fun n => by rw [h.kents n]; cases mget n X.kept <;> rfl)
theorem VIn.each {w : World} {v b d kp : Nat} {lb lk : List (ByteArray × Value)} {X : VV} {F : Nat → Prop} (h : VIn w v b d kp lb lk X F) : ∀ p ∈ lk, ∃ q : Int, p.2 = .int .i64 q ∧ (1 ≤ q ∧ q ≤ 64) ∧ (p.1, q) ∈ X.kept := by
  intro p hp
  have h1 := h.kents p.1
  rw [mget_of_mem h.keeps.nodup (show (p.1, p.2) ∈ lk from hp)] at h1
  cases hm : mget p.1 X.kept with
  | none => rw [hm] at h1; cases h1
  | some q =>
    rw [hm] at h1
    injection h1 with h1
    exact ⟨q, h1, h.ok.each (p.1, q) (mem_of_mget hm), mem_of_mget hm⟩
theorem VIn.klen {w : World} {v b d kp : Nat} {lb lk : List (ByteArray × Value)} {X : VV} {F : Nat → Prop} (h : VIn w v b d kp lb lk X F) : (lk.map (·.1)).Perm (X.kept.map (·.1)) :=
  perm_names h.keeps.nodup h.ok.kept.nodup (fun n => by rw [h.kents n]; cases mget n X.kept <;> simp)

set_option maxRecDepth 100000 in
theorem v_bytes_nil (w : World) : Calls Tryz.prog 38 #[.pointer none] w fun e w' => e = .returned (.int .i64 0) ∧ w' = w := by
  go_enter Tryz.func38, Tryz.ntmps38
  go_wp2_with fail
  go_ret
  exact ⟨rfl, rfl⟩
set_option maxRecDepth 100000 in
set_option maxHeartbeats 2000000 in
theorem v_bytes (v d : Nat) (X : VV) (F : Nat → Prop) (w : World) (hv : VAt w v d X F) :
    Calls Tryz.prog 38 #[.pointer (some ⟨v, 0, none⟩)] w fun e w' => e = .returned (.int .i64 (bytesV X)) ∧ Kp No w w' := by
  obtain ⟨b, kp, lb, lk, F0, hv, hF⟩ := hv
  have H := Lib.hid hv
  have c1 : w.cell? ⟨v, 1, none⟩ = some (.pointer (some ⟨d, 0, none⟩)) := Blk.cell hv.blk rfl
  have c3 : w.cell? ⟨v, 3, none⟩ = some (.map (some kp)) := Blk.cell hv.blk rfl
  have hdown := d_down d X.d F0 w hv.disk
  unfold bytesV
  cases hoff : X.d.off with
  | true =>
    rw [hoff] at hdown
    simp only [if_true]
    clear hv hF c3 hoff
    go_enter Tryz.func38, Tryz.ntmps38
    go_wp2_with fail
    refine hdown.mono ?_
    rintro e w1 ⟨rfl, rfl⟩
    clear hdown
    go_wp2_with fail
    go_ret
    exact ⟨rfl, Kp.refl _ _⟩
  | false =>
    rw [hoff] at hdown
    simp only [Bool.false_eq_true, if_false]
    have hsum := hv.sum
    have heach := hv.each
    have hkl : lk.length = X.kept.length := by have := hv.klen.length_eq; simpa using this
    have hlen : lk.length ≤ 2000000 := by rw [hkl]; exact hv.ok.many
    obtain ⟨Z, hZ⟩ : ∃ Z, sumV X.kept = Z := ⟨_, rfl⟩
    rw [hZ] at hsum ⊢
    obtain ⟨w2, hrun, hrg, hk2, _⟩ := hv.keeps.range (P := Tryz.prog) Tryz.underlying70
    obtain ⟨r, hr⟩ : ∃ r, w.heap.size = r := ⟨_, rfl⟩
    rw [hr] at hrun hrg
    have HRG := Lib.hid hrg
    have HK2 := Lib.hid hk2
    have HE := Lib.hid heach
    have HSUM := Lib.hid hsum
    have HRR := Lib.hid hr
    clear hv hF hoff hZ hrg hk2 heach hsum hr hkl
    go_enter Tryz.func38, Tryz.ntmps38
    go_wp2_with fail
    refine hdown.mono ?_
    rintro e w1 ⟨rfl, rfl⟩
    clear hdown
    go_wp2_with fail
    clear c1 c3 hrun
    have hlast : ∀ wr todo, Ranges wr kp r Value.string lk todo → wr.rangeLeft kp r = todo.length := fun wr todo h => h.left
    have HLAST := Lib.hid hlast
    clear hlast
    go_loopw [3] (fun nv wr => ∃ (todo : List (ByteArray × Value)) (s : Int), nv = .int .i64 s ∧ Ranges wr kp r Value.string lk todo ∧ (∀ p ∈ todo, p ∈ lk) ∧ todo.length ≤ lk.length ∧ Kp No w1 wr ∧ s + (todo.map fun p => intOf p.2).sum = Z ∧ 0 ≤ s ∧ s + 64 * todo.length ≤ 64 * lk.length) (fun _ wr => wr.rangeLeft kp r)
    case atStart => exact ⟨lk, 0, rfl, HRG.out, fun _ h => h, Nat.le_refl _, HK2.out, by rw [HSUM.out]; omega, by omega, by omega⟩
    case round =>
      obtain ⟨todo, s, rfl, hrg, hsub, htl, hkp, hs, hs0, hsb⟩ := hrel
      have HRGR := Lib.hid hrg
      have HSUB := Lib.hid hsub
      have HKP := Lib.hid hkp
      have HS := Lib.hid hs
      clear hsub hkp hs
      rcases hrg.next (P := Tryz.prog) 0 with ⟨h0, hrun⟩ | ⟨n, x, t1, t2, w3, htd, hrun, hrg3, hk3, hs3, hen⟩
      · clear hrg
        go_wp2_with fail
        go_ret
        have e := HS.out
        rw [h0] at e
        simp at e
        rw [e]
        exact ⟨rfl, HKP.out⟩
      · obtain ⟨q, hq, ⟨hq1, hq2⟩, _⟩ := HE.out (n, x) (HSUB.out _ (by rw [htd]; simp))
        simp only at hq
        subst hq
        have HTD := Lib.hid htd
        have HRG3 := Lib.hid hrg3
        have HK3 := Lib.hid hk3
        have hl1 : todo.length = (t1 ++ t2).length + 1 := by rw [htd]; simp; omega
        clear hrg htd hrg3 hk3
        have hw : IntKind.i64.wrap (s + q) = s + q := wrap_i64 (by omega) (by omega)
        go_wp2_with fail
        have hrr := HRR.out
        have hk13 := HKP.out
        have hsum3 : s + q + ((t1 ++ t2).map fun p => intOf p.2).sum = Z := by
          have := HS.out
          rw [HTD.out] at this
          simp [intOf] at this ⊢
          omega
        have HS3 := Lib.hid hsum3
        have hlt : (t1 ++ t2).length < todo.length := by omega
        have HLT := Lib.hid HRGR.out.left
        clear hsum3
        go_roundw
        case rel => exact ⟨t1 ++ t2, s + q, by go_num, HRG3.out, fun p hp => HSUB.out p (by
          rw [HTD.out]
          rcases List.mem_append.1 hp with h | h
          · exact List.mem_append_left _ h
          · exact List.mem_append_right _ (List.mem_cons_of_mem _ h)), by omega, hk13.trans HK3.out (fun i hi e => by omega), HS3.out, by omega, by omega⟩
        case measure => rw [HLT.out, HLAST.out _ _ HRG3.out]; exact hlt
end

section
open Go.RowKit Go.ChangeShapes Go.WideShapes Go.ChangeAt

set_option maxRecDepth 100000 in
theorem v_list_nil (w : World) : Calls Tryz.prog 21 #[.pointer none] w fun e w' => e = .returned (.slice none 0 0) ∧ w' = w := by
  go_enter Tryz.func21, Tryz.ntmps21
  go_wp2_with fail
  go_ret
  exact ⟨rfl, rfl⟩
set_option maxRecDepth 100000 in
set_option maxHeartbeats 2000000 in
theorem v_list (v d : Nat) (X : VV) (F : Nat → Prop) (w : World) (hv : VAt w v d X F) (hsz : ∀ p ∈ X.kept, p.1.size ≤ 1048576) :
    Calls Tryz.prog 21 #[.pointer (some ⟨v, 0, none⟩)] w fun e w' => ∃ A c, e = .returned (.slice A (listV X).length c) ∧ Own Rp.str w' No w.heap.size 9 (.slice A (listV X).length c) (listV X) ∧ Kp No w w' := by
  obtain ⟨b, kp, lb, lk, F0, hv, hF⟩ := hv
  have c1 : w.cell? ⟨v, 1, none⟩ = some (.pointer (some ⟨d, 0, none⟩)) := Blk.cell hv.blk rfl
  have c3 : w.cell? ⟨v, 3, none⟩ = some (.map (some kp)) := Blk.cell hv.blk rfl
  have hdown := d_down d X.d F0 w hv.disk
  unfold listV
  cases hoff : X.d.off with
  | true =>
    rw [hoff] at hdown
    simp only [if_true]
    clear hv hF c3 hoff
    go_enter Tryz.func21, Tryz.ntmps21
    go_wp2_with fail
    refine hdown.mono ?_
    rintro e w1 ⟨rfl, rfl⟩
    clear hdown
    go_wp2_with fail
    go_ret
    exact ⟨none, 0, rfl, Own.nil _ _ _ _ _, Kp.refl _ _⟩
  | false =>
    rw [hoff] at hdown
    simp only [Bool.false_eq_true, if_false]
    have hkl := hv.klen
    have hlen : lk.length ≤ 2000000 := by have := hkl.length_eq; simp at this; have := hv.ok.many; omega
    have hss : sortedN (lk.map (·.1)) = X.kept.map (·.1) := sortedN_eq hkl hv.ok.kept.names
    have hks := c_keys_int kp w
    have hso := c_sorted_int kp lk w hv.keeps (fun p hp => by
      have h1 : p.1 ∈ X.kept.map (·.1) := hkl.mem_iff.1 (List.mem_map.2 ⟨p, hp, rfl⟩)
      obtain ⟨q, hq, he⟩ := List.mem_map.1 h1
      rw [← he]; have := hsz q hq; unfold maxLen; omega) hlen
    rw [hss] at hso
    obtain ⟨N, hN⟩ : ∃ N, X.kept.map (·.1) = N := ⟨_, rfl⟩
    rw [hN] at hso ⊢
    clear hv hF hoff hkl hlen hss hN hsz
    go_enter Tryz.func21, Tryz.ntmps21
    go_wp2_with fail
    refine hdown.mono ?_
    rintro e w1 ⟨rfl, rfl⟩
    clear hdown
    go_wp2_with fail
    refine hks.mono ?_
    rintro e w2 ⟨rfl, rfl⟩
    clear hks
    go_wp2_with fail
    refine hso.mono ?_
    rintro e w3 ⟨A, c, rfl, hown, hk3⟩
    have HO := Lib.hid hown
    have HK := Lib.hid hk3
    clear hso hown hk3
    go_wp2_with fail
    go_ret
    exact ⟨A, c, rfl, HO.out.mono (Nat.le_succ _) (fun _ h => h), HK.out⟩
set_option maxRecDepth 100000 in
theorem v_put_nil (c : ByteArray) (w : World) : Calls Tryz.prog 10 #[.pointer none, .string c] w fun e w' => e = .returned (.tuple #[.string ⟨#[]⟩, .int .i64 2]) ∧ w' = w := by
  go_enter Tryz.func10, Tryz.ntmps10
  go_wp2_with fail
  go_ret2
  exact ⟨rfl, rfl⟩
set_option maxRecDepth 100000 in
theorem v_open_nil (q : Int) (w : World) : Calls Tryz.prog 8 #[.pointer none, .int .i64 q] w fun e w' => e = .returned (.tuple #[.pointer none, .int .i64 2]) ∧ w' = w := by
  go_enter Tryz.func8, Tryz.ntmps8
  go_wp2_with fail
  go_ret2
  exact ⟨rfl, rfl⟩
/-- the vault as it is opened -/
def openV (x : DV) (q : Int) : VV := ⟨x, q, [], []⟩
set_option maxRecDepth 100000 in
theorem v_open_bad (d : Nat) (q : Int) (hq : q < 0 ∨ 1048576 < q) (w : World) : Calls Tryz.prog 8 #[.pointer (some ⟨d, 0, none⟩), .int .i64 q] w fun e w' => e = .returned (.tuple #[.pointer none, .int .i64 1]) ∧ w' = w := by
  by_cases h0 : q < 0
  · clear hq
    go_enter Tryz.func8, Tryz.ntmps8
    go_wp2_with fail
    go_ret2
    exact ⟨rfl, rfl⟩
  · have h1 : 1048576 < q := by omega
    clear hq
    go_enter Tryz.func8, Tryz.ntmps8
    go_wp2_with fail
    go_ret2
    exact ⟨rfl, rfl⟩
set_option maxRecDepth 100000 in
set_option maxHeartbeats 2000000 in
theorem v_open (d : Nat) (x : DV) (F0 : Nat → Prop) (q : Int) (w : World) (hd : DiskAt w d x F0) (hf : x.files = []) (ho : x.off = false) (h0 : 0 ≤ q) (h1 : q ≤ 1048576) :
    Calls Tryz.prog 8 #[.pointer (some ⟨d, 0, none⟩), .int .i64 q] w fun e w' => ∃ v F, e = .returned (.tuple #[.pointer (some ⟨v, 0, none⟩), .int .i64 0]) ∧ VAt w' v d (openV x q) F ∧ Kp No w w' ∧ ∀ k, F k → F0 k ∨ w.heap.size ≤ k := by
  have HD := Lib.hid hd
  have hdown := d_down d x F0 w hd
  rw [ho] at hdown
  have hn : ∀ w2, Kp No w w2 → _ := fun w2 hk => d_names d x F0 ⟨#[98, 46]⟩ w2 (HD.out.keptNo hk) (by rw [hf]; simp)
  have hnm : namesD ⟨#[98, 46]⟩ x = [] := by unfold namesD; rw [ho, hf]; rfl
  rw [hnm] at hn
  have HN := Lib.hid hn
  have HO := Lib.hid ho
  have HH := Lib.hid (And.intro h0 h1)
  have hmm := @run_makeMap Tryz.prog
  clear hd hn hnm ho hf
  go_enter Tryz.func8, Tryz.ntmps8
  go_wp2_with fail
  refine hdown.mono ?_
  rintro e w1 ⟨rfl, rfl⟩
  clear hdown
  go_wp2_with fail
  obtain ⟨w2, hw2⟩ : ∃ w2, ((w1.alloc (.map #[] 0)).alloc (.map #[] 0)).alloc (.cells #[.map (some w1.heap.size), .pointer (some ⟨d, 0, none⟩), .int .i64 q, .map (some (w1.heap.size + 1))] 74) = w2 := ⟨_, rfl⟩
  rw [hw2]
  have e1 : (w1.alloc (.map #[] 0)).heap.size = w1.heap.size + 1 := by simp
  have e2 : ((w1.alloc (.map #[] 0)).alloc (.map #[] 0)).heap.size = w1.heap.size + 2 := by simp
  have m1 := MapOf.made (enc := Value.string) w1
  have m2 := MapOf.made (enc := Value.string) (w1.alloc (.map #[] 0))
  rw [e1] at m2
  have b3 := Blk.new ((w1.alloc (.map #[] 0)).alloc (.map #[] 0)) [.map (some w1.heap.size), .pointer (some ⟨d, 0, none⟩), .int .i64 q, .map (some (w1.heap.size + 1))] 74
  rw [e2, hw2] at b3
  have k2 : Kp No ((w1.alloc (.map #[] 0)).alloc (.map #[] 0)) w2 := by rw [← hw2]; exact (Kp.refl _ _).alloc _
  have k1 : Kp No (w1.alloc (.map #[] 0)) w2 := ((Kp.refl No (w1.alloc (.map #[] 0))).alloc _).trans' k2
  have k0 : Kp No w1 w2 := ((Kp.refl No w1).alloc _).trans' k1
  have hdlt := HD.out.lt
  have hvin : VIn w2 (w1.heap.size + 2) w1.heap.size d (w1.heap.size + 1) [] [] (openV x q) F0 :=
    ⟨b3, m1.kept k1 (fun x => x), m2.kept k2 (fun x => x), fun _ => rfl, fun _ => rfl, HD.out.keptNo k0, by omega, fun h => by have := hdlt _ h; omega, fun h => by have := hdlt _ h; omega, fun h => by have := hdlt _ h; omega,
      ⟨HD.out.ok, HH.out, List.Pairwise.nil, List.Pairwise.nil, (fun p hp => by cases hp), Nat.zero_le _⟩⟩
  have HV := Lib.hid hvin
  have K0 := Lib.hid k0
  clear hw2 e1 e2 m1 m2 b3 k2 k1 k0 hdlt hvin
  refine (HN.out w2 K0.out).mono ?_
  rintro e w3 ⟨A, c, rfl, _, hk3⟩
  have HK3 := Lib.hid hk3
  clear hk3
  go_wp2_with fail
  go_loopw [37] (fun iv wr => iv = .int .i64 0 ∧ wr = w3) (fun _ _ => 0)
  case atStart => exact ⟨rfl, rfl⟩
  case round =>
    obtain ⟨rfl, rfl⟩ := hrel
    go_wp2_with fail
    go_ret2
    refine ⟨_, _, rfl, ⟨_, _, _, _, _, HV.out.keptNo HK3.out, fun k => Iff.rfl⟩, K0.out.trans' HK3.out, ?_⟩
    rintro k (rfl | rfl | rfl | hk)
    · right; omega
    · right; omega
    · right; omega
    · exact .inl hk
end
end Go.Proofs.YtflodiljgphkdaaGreat
