/-
  vault: a vault in memory; file, whole.
-/
import Derived.Test.YtflodiljgphkdaaGreatVltL
import Derived.Test.YtflodiljgphkdaaGreatM3
import Derived.Test.YtflodiljgphkdaaGreatDisk9
import Derived.Test.YtflodiljgphkdaaGreatS5
import Derived.Test.YtflodiljgphkdaaGreatSum1
namespace Go.Proofs.YtflodiljgphkdaaGreat
open Go.RowKit Go.ChangeShapes Go.WideShapes Go.ChangeAt

/-- its own block -/
def VBlk (w : World) (v b d kp : Nat) (q : Int) : Prop := Blk w v 74 [.map (some b), .pointer (some ⟨d, 0, none⟩), .int .i64 q, .map (some kp)]
structure VIn (w : World) (v b d kp : Nat) (lb lk : List (ByteArray × Value)) (X : VV) (F : Nat → Prop) : Prop where
  blk : VBlk w v b d kp X.quota
  needs : MapOf w b Value.string lb
  keeps : MapOf w kp Value.string lk
  bents : ∀ n, mget n lb = (mget n X.held).map (Value.int .i64)
  kents : ∀ n, mget n lk = (mget n X.kept).map (Value.int .i64)
  disk : DiskAt w d X.d F
  ne : b ≠ kp
  nv : ¬ F v
  nb : ¬ F b
  nk : ¬ F kp
  ok : OkV X
/-- A vault at v on the drive d, that takes (with the drive) just the blocks F. -/
def VAt (w : World) (v d : Nat) (X : VV) (F : Nat → Prop) : Prop := ∃ b kp lb lk F0, VIn w v b d kp lb lk X F0 ∧ ∀ k, F k ↔ k = v ∨ k = b ∨ k = kp ∨ F0 k
namespace VIn
variable {w w' : World} {v b d kp : Nat} {lb lk : List (ByteArray × Value)} {X : VV} {F : Nat → Prop}
theorem v_ne_b (h : VIn w v b d kp lb lk X F) : v ≠ b := fun e => mapOf_ne_blk h.needs h.blk e.symm
theorem v_ne_k (h : VIn w v b d kp lb lk X F) : v ≠ kp := fun e => mapOf_ne_blk h.keeps h.blk e.symm
theorem keptNo (h : VIn w v b d kp lb lk X F) (hk : Kp No w w') : VIn w' v b d kp lb lk X F :=
  ⟨Blk.kept h.blk hk (fun x => x), h.needs.kept hk (fun x => x), h.keeps.kept hk (fun x => x), h.bents, h.kents, h.disk.keptNo hk, h.ne, h.nv, h.nb, h.nk, h.ok⟩
theorem lt (h : VIn w v b d kp lb lk X F) : ∀ k, (k = v ∨ k = b ∨ k = kp ∨ F k) → k < w.heap.size := by
  rintro k (rfl | rfl | rfl | hk)
  · exact Blk.lt h.blk
  · exact h.needs.lt
  · exact h.keeps.lt
  · exact h.disk.lt k hk
/-- the drive turned -/
theorem turned (h : VIn w v b d kp lb lk X F) {y : DV} {F' : Nat → Prop} (hd : DiskAt w' d y F') (hu : Upd F w w' F') (ho : OkD y) : VIn w' v b d kp lb lk { X with d := y } F' := by
  have hn : ∀ k, k < w.heap.size → ¬ F k → ¬ F' k := fun k hk hf hf' => by
    rcases hu.2 k hf' with h | h
    · exact hf h
    · omega
  exact ⟨Blk.kept h.blk hu.1 h.nv, h.needs.kept hu.1 h.nb, h.keeps.kept hu.1 h.nk, h.bents, h.kents, hd, h.ne, hn v (Blk.lt h.blk) h.nv, hn b h.needs.lt h.nb, hn kp h.keeps.lt h.nk, ⟨ho, h.ok.quota, h.ok.kept, h.ok.held, h.ok.each, h.ok.many⟩⟩
end VIn
namespace VAt
variable {w w' : World} {v d : Nat} {X : VV} {F : Nat → Prop}
theorem ok (h : VAt w v d X F) : OkV X := by obtain ⟨_, _, _, _, _, h, _⟩ := h; exact h.ok
theorem keptNo (h : VAt w v d X F) (hk : Kp No w w') : VAt w' v d X F := by
  obtain ⟨b, kp, lb, lk, F0, h, hF⟩ := h
  exact ⟨b, kp, lb, lk, F0, h.keptNo hk, hF⟩
theorem lt (h : VAt w v d X F) : ∀ k, F k → k < w.heap.size := by
  obtain ⟨b, kp, lb, lk, F0, h, hF⟩ := h
  exact fun k hk => h.lt k ((hF k).1 hk)
theorem disk (h : VAt w v d X F) : ∃ F0, DiskAt w d X.d F0 := by obtain ⟨_, _, _, _, F0, h, _⟩ := h; exact ⟨F0, h.disk⟩
end VAt

theorem fileN_size (h : ByteArray) : (fileN h).size = 2 + 2 * h.size := by
  unfold fileN
  rw [ByteArray.size_append, bs_size, nameL_length, data_length]; rfl
set_option maxRecDepth 100000 in
theorem v_file (h : ByteArray) (hs : h.size ≤ 1048576) (w : World) : Calls Tryz.prog 40 #[.string h] w fun e w' => e = .returned (.string (fileN h)) ∧ Kp No w w' := by
  have hc := c_name h
  have HS := Lib.hid hs
  have hno : ¬ 9223372036854775807 < 2 + (bs (nameL h.data.toList)).size := by rw [bs_size, nameL_length, data_length]; omega
  go_enter Tryz.func40, Tryz.ntmps40
  go_wp2_with fail
  refine (hc w HS.out).mono ?_
  rintro e w1 ⟨rfl, hk⟩
  have HK := Lib.hid hk
  clear hk hc
  go_wp2_with fail
  go_ret
  exact ⟨rfl, HK.out⟩

theorem toList_empty {s : ByteArray} (h : s.size = 0) : s = ⟨#[]⟩ := by
  apply ByteArray.ext
  exact Array.eq_empty_of_size_eq_zero h
theorem toList_ne {s : ByteArray} (h : s.size ≠ 0) : (!s.toList.isEmpty) = true := by
  rw [Lib.toList_data]
  cases hl : s.data.toList with
  | nil => have h2 := data_length s; rw [hl] at h2; simp at h2; omega
  | cons => rfl
theorem toList_beq (a b : ByteArray) : (a.toList == b.toList) = decide (a = b) := by
  rw [Bool.eq_iff_iff, beq_iff_eq, Lib.toList_data, Lib.toList_data, decide_eq_true_eq]
  exact ⟨data_inj, fun h => by rw [h]⟩
set_option maxRecDepth 100000 in
set_option maxHeartbeats 1000000 in
theorem v_whole (v d : Nat) (X : VV) (F : Nat → Prop) (h : ByteArray) (hs : h.size ≤ 1048576) (w : World) (hv : VAt w v d X F) :
    Calls Tryz.prog 30 #[.pointer (some ⟨v, 0, none⟩), .string h] w fun e w' => e = .returned (.tuple #[.string (textOr (readD (fileN h) X.d)), .bool (wholeB h X.d)]) ∧ Kp No w w' := by
  obtain ⟨b, kp, lb, lk, F0, hv, _⟩ := hv
  have H := Lib.hid hv
  have c1 : w.cell? ⟨v, 1, none⟩ = some (.pointer (some ⟨d, 0, none⟩)) := Blk.cell hv.blk rfl
  have hfile := v_file h hs
  have HFI := Lib.hid hfile
  unfold wholeB
  clear hv hs hfile
  cases hR : readD (fileN h) X.d with
  | none =>
    have HR := Lib.hid hR
    simp only [textOr, Option.getD_none, Option.isSome_none, Bool.false_and]
    clear hR
    go_enter Tryz.func30, Tryz.ntmps30
    go_wp2_with fail
    refine Reg.wp_region_plan [⟨0, false, []⟩, ⟨1, false, []⟩, ⟨2, false, []⟩, ⟨3, false, []⟩, ⟨4, false, []⟩, ⟨5, true, [1, 2, 3]⟩, ⟨6, true, []⟩, ⟨7, false, []⟩, ⟨8, false, []⟩, ⟨9, false, []⟩, ⟨10, false, []⟩, ⟨11, false, []⟩] rfl (by kernel_rfl) ?_
    repeat (first | (refine Reg.look rfl rfl rfl (by go_simp; rfl) rfl ?_; go_simp) | (refine Reg.skip rfl rfl rfl ?_; go_simp))
    refine Reg.act rfl ?_
    go_wp2_with fail
    refine (HFI.out _).mono ?_
    rintro e w1 ⟨rfl, hk⟩
    have hk : Kp No w w1 := ((Kp.refl No w).drew).trans' hk
    have HK := Lib.hid hk
    have c2 : w1.cell? ⟨v, 1, none⟩ = some (.pointer (some ⟨d, 0, none⟩)) := Blk.cell (H.out.keptNo hk).blk rfl
    have hread := d_read d X.d F0 (fileN h) w1 (H.out.keptNo hk).disk
    rw [HR.out] at hread
    simp only [textOr, Option.getD_none, Option.isSome_none] at hread
    clear hk
    go_wp2_with fail
    (refine ⟨?anew, ?_⟩; case anew => ((repeat (refine Reg.anew_cons rfl rfl (fun _ => by go_simp) ?_)); exact Reg.anew_nil))
    repeat (first | (refine Reg.look rfl rfl rfl (by go_simp; rfl) rfl ?_; go_simp) | (refine Reg.skip rfl rfl rfl ?_; go_simp))
    refine Reg.act rfl ?_
    go_wp2_with fail
    refine hread.mono ?_
    rintro e w2 ⟨rfl, rfl⟩
    clear hread c1
    go_wp2_with fail
    refine ⟨Reg.anew_nil, ?_⟩
    repeat (first | (refine Reg.look rfl rfl rfl (by go_simp; rfl) rfl ?_; go_simp) | (refine Reg.skip rfl rfl rfl ?_; go_simp))
    (refine Reg.done ?_; simp only [Exit.then])
    go_wp2_with fail
    go_ret2
    exact ⟨rfl, HK.out⟩
  | some s =>
    have HR := Lib.hid hR
    simp only [textOr, Option.getD_some, Option.isSome_some, Bool.true_and]
    clear hR
    by_cases h0 : s.size = 0
    · obtain rfl := toList_empty h0
      have hg : goodC h ⟨#[]⟩ = false := by unfold goodC; rw [decide_eq_false (by decide : ¬ (⟨#[]⟩ : ByteArray).size ≠ 0)]; rfl
      rw [hg]
      clear hg
      go_enter Tryz.func30, Tryz.ntmps30
      go_wp2_with fail
      refine Reg.wp_region_plan [⟨0, false, []⟩, ⟨1, false, []⟩, ⟨2, false, []⟩, ⟨3, false, []⟩, ⟨4, false, []⟩, ⟨5, true, [1, 2, 3]⟩, ⟨6, true, []⟩, ⟨7, false, []⟩, ⟨8, false, []⟩, ⟨9, false, []⟩, ⟨10, false, []⟩, ⟨11, false, []⟩] rfl (by kernel_rfl) ?_
      repeat (first | (refine Reg.look rfl rfl rfl (by go_simp; rfl) rfl ?_; go_simp) | (refine Reg.skip rfl rfl rfl ?_; go_simp))
      refine Reg.act rfl ?_
      go_wp2_with fail
      refine (HFI.out _).mono ?_
      rintro e w1 ⟨rfl, hk⟩
      have hk : Kp No w w1 := ((Kp.refl No w).drew).trans' hk
      have HK := Lib.hid hk
      have c2 : w1.cell? ⟨v, 1, none⟩ = some (.pointer (some ⟨d, 0, none⟩)) := Blk.cell (H.out.keptNo hk).blk rfl
      have hread := d_read d X.d F0 (fileN h) w1 (H.out.keptNo hk).disk
      rw [HR.out] at hread
      simp only [textOr, Option.getD_some, Option.isSome_some] at hread
      clear hk
      go_wp2_with fail
      (refine ⟨?anew, ?_⟩; case anew => ((repeat (refine Reg.anew_cons rfl rfl (fun _ => by go_simp) ?_)); exact Reg.anew_nil))
      repeat (first | (refine Reg.look rfl rfl rfl (by go_simp; rfl) rfl ?_; go_simp) | (refine Reg.skip rfl rfl rfl ?_; go_simp))
      refine Reg.act rfl ?_
      go_wp2_with fail
      refine hread.mono ?_
      rintro e w2 ⟨rfl, rfl⟩
      clear hread c1
      go_wp2_with fail
      refine ⟨Reg.anew_nil, ?_⟩
      repeat (first | (refine Reg.look rfl rfl rfl (by go_simp; rfl) rfl ?_; go_simp) | (refine Reg.skip rfl rfl rfl ?_; go_simp))
      (refine Reg.done ?_; simp only [Exit.then])
      go_wp2_with fail
      go_ret2
      exact ⟨rfl, HK.out⟩
    · have hne := toList_ne h0
      by_cases h64 : (s.size : Int) ≤ 64
      · have hg : goodC h s = decide (digest s = h) := by unfold goodC; rw [decide_eq_true h0, decide_eq_true (by omega : s.size ≤ 64)]; rfl
        rw [hg]
        clear hg
        have hsum := fun (w3 : World) => t_sum1 s (w3.alloc (.cells #[.string s] 9)) (g := w3.heap.size) (heap_alloc_new w3 _) (by omega)
        have HSUM := Lib.hid hsum
        clear hsum
        go_enter Tryz.func30, Tryz.ntmps30
        go_wp2_with fail
        refine Reg.wp_region_plan [⟨0, false, []⟩, ⟨1, false, []⟩, ⟨2, false, []⟩, ⟨3, false, []⟩, ⟨4, false, []⟩, ⟨5, true, [1, 2, 3]⟩, ⟨6, true, []⟩, ⟨7, false, []⟩, ⟨8, false, []⟩, ⟨9, false, []⟩, ⟨10, false, []⟩, ⟨11, false, []⟩] rfl (by kernel_rfl) ?_
        repeat (first | (refine Reg.look rfl rfl rfl (by go_simp; rfl) rfl ?_; go_simp) | (refine Reg.skip rfl rfl rfl ?_; go_simp))
        refine Reg.act rfl ?_
        go_wp2_with fail
        refine (HFI.out _).mono ?_
        rintro e w1 ⟨rfl, hk⟩
        have hk : Kp No w w1 := ((Kp.refl No w).drew).trans' hk
        have HK := Lib.hid hk
        have c2 : w1.cell? ⟨v, 1, none⟩ = some (.pointer (some ⟨d, 0, none⟩)) := Blk.cell (H.out.keptNo hk).blk rfl
        have hread := d_read d X.d F0 (fileN h) w1 (H.out.keptNo hk).disk
        rw [HR.out] at hread
        simp only [textOr, Option.getD_some, Option.isSome_some] at hread
        clear hk
        go_wp2_with fail
        (refine ⟨?anew, ?_⟩; case anew => ((repeat (refine Reg.anew_cons rfl rfl (fun _ => by go_simp) ?_)); exact Reg.anew_nil))
        repeat (first | (refine Reg.look rfl rfl rfl (by go_simp; rfl) rfl ?_; go_simp) | (refine Reg.skip rfl rfl rfl ?_; go_simp))
        refine Reg.act rfl ?_
        go_wp2_with fail
        refine hread.mono ?_
        rintro e w2 ⟨rfl, rfl⟩
        clear hread c1
        go_wp2_with fail
        refine ⟨Reg.anew_nil, ?_⟩
        repeat (first | (refine Reg.look rfl rfl rfl (by go_simp; rfl) rfl ?_; go_simp) | (refine Reg.skip rfl rfl rfl ?_; go_simp))
        (refine Reg.done ?_; simp only [Exit.then])
        go_wp2_with fail
        refine (HSUM.out _).mono ?_
        rintro e w4 ⟨rfl, hk4⟩
        have HK4 := Lib.hid ((HK.out.alloc _).trans' hk4)
        clear hk4
        go_wp2_with fail
        go_ret2
        refine ⟨?_, HK4.out⟩
        rw [show shaB s = digest s from rfl, toList_beq]
        rfl
      · have hg : goodC h s = false := by unfold goodC; rw [decide_eq_false (by omega : ¬ s.size ≤ 64)]; simp
        rw [hg]
        clear hg
        go_enter Tryz.func30, Tryz.ntmps30
        go_wp2_with fail
        refine Reg.wp_region_plan [⟨0, false, []⟩, ⟨1, false, []⟩, ⟨2, false, []⟩, ⟨3, false, []⟩, ⟨4, false, []⟩, ⟨5, true, [1, 2, 3]⟩, ⟨6, true, []⟩, ⟨7, false, []⟩, ⟨8, false, []⟩, ⟨9, false, []⟩, ⟨10, false, []⟩, ⟨11, false, []⟩] rfl (by kernel_rfl) ?_
        repeat (first | (refine Reg.look rfl rfl rfl (by go_simp; rfl) rfl ?_; go_simp) | (refine Reg.skip rfl rfl rfl ?_; go_simp))
        refine Reg.act rfl ?_
        go_wp2_with fail
        refine (HFI.out _).mono ?_
        rintro e w1 ⟨rfl, hk⟩
        have hk : Kp No w w1 := ((Kp.refl No w).drew).trans' hk
        have HK := Lib.hid hk
        have c2 : w1.cell? ⟨v, 1, none⟩ = some (.pointer (some ⟨d, 0, none⟩)) := Blk.cell (H.out.keptNo hk).blk rfl
        have hread := d_read d X.d F0 (fileN h) w1 (H.out.keptNo hk).disk
        rw [HR.out] at hread
        simp only [textOr, Option.getD_some, Option.isSome_some] at hread
        clear hk
        go_wp2_with fail
        (refine ⟨?anew, ?_⟩; case anew => ((repeat (refine Reg.anew_cons rfl rfl (fun _ => by go_simp) ?_)); exact Reg.anew_nil))
        repeat (first | (refine Reg.look rfl rfl rfl (by go_simp; rfl) rfl ?_; go_simp) | (refine Reg.skip rfl rfl rfl ?_; go_simp))
        refine Reg.act rfl ?_
        go_wp2_with fail
        refine hread.mono ?_
        rintro e w2 ⟨rfl, rfl⟩
        clear hread c1
        go_wp2_with fail
        refine ⟨Reg.anew_nil, ?_⟩
        repeat (first | (refine Reg.look rfl rfl rfl (by go_simp; rfl) rfl ?_; go_simp) | (refine Reg.skip rfl rfl rfl ?_; go_simp))
        (refine Reg.done ?_; simp only [Exit.then])
        go_wp2_with fail
        go_ret2
        exact ⟨rfl, HK.out⟩
end Go.Proofs.YtflodiljgphkdaaGreat
