/-
  The document's vault: Get.
-/
import Derived.Test.YtflodiljgphkdaaGreatVD2
namespace Go.Proofs.YtflodiljgphkdaaGreat
open Go.RowKit Go.ChangeShapes Go.WideShapes Go.ChangeAt

theorem Loose.nodup {X : VV} (hX : Loose X) : (names X).Nodup := hX.ok.kept.nodup
theorem Loose.sizes {X : VV} (hX : Loose X) : ∀ s ∈ names X, s.size ≤ 1048576 := by
  intro s hs
  obtain ⟨p, hp, rfl⟩ := List.mem_map.1 hs
  rw [hX.keys p hp]; decide
theorem Loose.len {X : VV} (hX : Loose X) : (names X).length ≤ 2000000 := by unfold names; rw [List.length_map]; exact hX.ok.many
theorem fileN_le (h : ByteArray) (hs : h.size ≤ 1048576) : (fileN h).size ≤ maxLen := by
  unfold fileN
  rw [ByteArray.size_append, bs_size, nameL_length, data_length]
  unfold maxLen
  have : (⟨#[98, 46]⟩ : ByteArray).size = 2 := rfl
  omega
/-- the names stand where they stood, or in new memory -/
def Fr (w : World) (kv kv' : Value) : Prop := kv' = kv ∨ ∀ k, kv'.ownBlock = some k → w.heap.size ≤ k
set_option maxRecDepth 100000 in
set_option maxHeartbeats 2000000 in
/-- (*redoubtref10.Vault).Get -/
theorem e_get {w0 : World} {m r : Nat} {kv : Value} {X : VV} (h : ByteArray) (hs : h.size ≤ 1048576) (w : World) (hv : RVn w0 w m r kv X) (hX : Loose X) (hfl : X.d.files.length ≤ 1000000) :
    Calls Tryz.prog 54 #[.pointer (some ⟨m, 0, none⟩), .string h] w fun e w' => e = .returned (.tuple #[.string (getV h X).1.1, .int .i64 (getV h X).1.2]) ∧ (∃ kv', RVn w0 w' m r kv' (getV h X).2 ∧ Fr w kv kv') ∧ KpTy RT w0 w w' := by
  have HX := Lib.hid hX
  have HV := Lib.hid hv
  have hke := fun w1 (hk : Kp No w w1) => e_keeps h w1 ⟨kv, HV.out.kept hk⟩
  have hwh := fun w1 (hk : Kp No w w1) => e_whole h hs w1 (hv.disk.kept hk)
  have HN := Lib.hid hv
  have c0 : w.cell? ⟨m, 0, none⟩ = some (.pointer (some ⟨r, 0, none⟩)) := Blk.cell hv.blk rfl
  obtain ⟨fv, hrb⟩ := hv.disk.blk2
  have HRB := Lib.hid hrb
  have d2 : w.cell? ⟨r, 2, none⟩ = some (.bool X.d.off) := Blk.cell hrb rfl
  rw [hX.off] at d2
  obtain ⟨G, hG⟩ : ∃ G, getV h X = G := ⟨_, rfl⟩
  rw [hG]
  unfold getV at hG
  rw [hX.off] at hG
  simp only [Bool.false_eq_true, if_false] at hG
  cases hK : keepsV h X with
  | false =>
    rw [hK] at hke hG
    simp only [if_true] at hG
    have HG := Lib.hid hG
    have HKE := Lib.hid hke
    clear hv hX hke hwh hG hK hrb
    go_enter Tryz.func54, Tryz.ntmps54
    go_wp2_with fail
    refine (HKE.out w (Kp.refl _ _)).mono ?_
    rintro e w1 ⟨rfl, hk⟩
    have HK1 := Lib.hid hk
    clear hk
    go_wp2_with fail
    go_ret2
    rw [← HG.out]
    exact ⟨rfl, ⟨_, HV.out.kept HK1.out, .inl rfl⟩, KpTy.ofNo HK1.out⟩
  | true =>
    rw [hK] at hke hG
    simp only [Bool.true_eq_false, if_false] at hG
    have HKE := Lib.hid hke
    cases hW : wholeB h X.d with
    | true =>
      rw [hW] at hwh hG
      simp only [if_true] at hG
      have HG := Lib.hid hG
      have HWH := Lib.hid hwh
      clear hv hX hke hwh hG hK hW hrb
      go_enter Tryz.func54, Tryz.ntmps54
      go_wp2_with fail
      refine (HKE.out w (Kp.refl _ _)).mono ?_
      rintro e w1 ⟨rfl, hk⟩
      have HK1 := Lib.hid hk
      have c1 : w1.cell? ⟨m, 0, none⟩ = some (.pointer (some ⟨r, 0, none⟩)) := Blk.cell (Blk.kept HN.out.blk hk (fun x => x)) rfl
      clear hk
      go_wp2_with fail
      refine (HWH.out w1 HK1.out).mono ?_
      rintro e w2 ⟨rfl, hk⟩
      have HK2 := Lib.hid (HK1.out.trans' hk)
      clear hk
      go_wp2_with fail
      go_ret2
      rw [← HG.out]
      exact ⟨rfl, ⟨_, HV.out.kept HK2.out, .inl rfl⟩, KpTy.ofNo HK2.out⟩
    | false =>
      rw [hW] at hwh hG
      simp only [Bool.false_eq_true, if_false] at hG
      obtain ⟨k, hk⟩ := keepsV_some hK
      obtain ⟨hrem, hdrop, _, _⟩ := hX.dropped hk
      rw [hdrop] at hG
      simp only [if_true] at hG
      have HG := Lib.hid hG
      have HWH := Lib.hid hwh
      have hrm := fun w1 (hk : Kp No w w1) => m_remove (fileN h) w1 (hv.disk.kept hk) hfl (fileN_le h hs)
      rw [hrem] at hrm
      have HRM := Lib.hid hrm
      have hfi := fun w1 => e_file h hs w1
      have HFI := Lib.hid hfi
      clear hv hX hke hwh hG hK hW hrb hk hrem hdrop hrm hfi
      go_enter Tryz.func54, Tryz.ntmps54
      go_wp2_with fail
      refine (HKE.out w (Kp.refl _ _)).mono ?_
      rintro e w1 ⟨rfl, hk⟩
      have HK1 := Lib.hid hk
      have c1 : w1.cell? ⟨m, 0, none⟩ = some (.pointer (some ⟨r, 0, none⟩)) := Blk.cell (Blk.kept HN.out.blk hk (fun x => x)) rfl
      clear hk
      go_wp2_with fail
      refine (HWH.out w1 HK1.out).mono ?_
      rintro e w2 ⟨rfl, hk⟩
      have HK2 := Lib.hid (HK1.out.trans' hk)
      have c2 : w2.cell? ⟨m, 0, none⟩ = some (.pointer (some ⟨r, 0, none⟩)) := Blk.cell (Blk.kept HN.out.blk HK2.out (fun x => x)) rfl
      clear hk
      go_wp2_with fail
      refine Reg.wp_region_plan [⟨0, false, []⟩, ⟨1, false, []⟩, ⟨2, false, []⟩, ⟨3, false, []⟩, ⟨4, false, []⟩, ⟨5, true, [1, 2, 3]⟩, ⟨6, true, []⟩, ⟨7, false, []⟩] rfl (by kernel_rfl) ?_
      repeat (first | (refine Reg.look rfl rfl rfl (by go_simp; rfl) rfl ?_; go_simp) | (refine Reg.skip rfl rfl rfl ?_; go_simp))
      refine Reg.act rfl ?_
      go_wp2_with fail
      refine (HFI.out _).mono ?_
      rintro e w3 ⟨rfl, hk⟩
      have hk3 : Kp No w w3 := (HK2.out.trans' ((Kp.refl No w2).drew)).trans' hk
      have HK3 := Lib.hid hk3
      have c3 : w3.cell? ⟨m, 0, none⟩ = some (.pointer (some ⟨r, 0, none⟩)) := Blk.cell (Blk.kept HN.out.blk hk3 (fun x => x)) rfl
      clear hk hk3
      go_wp2_with fail
      (refine ⟨?anew, ?_⟩; case anew => ((repeat (refine Reg.anew_cons rfl rfl (fun _ => by go_simp) ?_)); exact Reg.anew_nil))
      repeat (first | (refine Reg.look rfl rfl rfl (by go_simp; rfl) rfl ?_; go_simp) | (refine Reg.skip rfl rfl rfl ?_; go_simp))
      refine Reg.act rfl ?_
      go_wp2_with fail
      refine (HRM.out w3 HK3.out).mono ?_
      rintro e w4 ⟨rfl, hd4, hk4⟩
      have hv4 := (HN.out.kept HK3.out).turned hd4 hk4
      have HV4 := Lib.hid (show RVn w0 w4 m r kv { X with d := (lessV h X).d } from hv4)
      have HW4 := Lib.hid (Nat.le_trans HK3.out.size hk4.size)
      have HK4 := Lib.hid ((KpTy.ofNo HK3.out).trans (hk4.mono fun _ => RD.rt))
      clear hd4 hk4 hv4
      go_wp2_with fail
      (refine ⟨?anew, ?_⟩; case anew => ((repeat (refine Reg.anew_cons rfl rfl (fun _ => by go_simp) ?_)); exact Reg.anew_nil))
      repeat (first | (refine Reg.look rfl rfl rfl (by go_simp; rfl) rfl ?_; go_simp) | (refine Reg.skip rfl rfl rfl ?_; go_simp))
      (refine Reg.done ?_; simp only [Exit.then])
      go_wp2_with fail
      refine (e_lose h w4 HV4.out HX.out.nodup HX.out.len HX.out.sizes).mono ?_
      rintro e w5 ⟨rfl, ⟨kv5, hv5, hf5⟩, hk5⟩
      have HV5 := Lib.hid hv5
      have HF5 := Lib.hid (show Fr w kv kv5 from .inr fun k hk => Nat.le_trans HW4.out (hf5 k hk))
      have HK5 := Lib.hid (HK4.out.trans hk5)
      clear hv5 hk5 hf5
      go_wp2_with fail
      go_ret2
      rw [← HG.out]
      exact ⟨rfl, ⟨_, HV5.out, HF5.out⟩, HK5.out⟩
end Go.Proofs.YtflodiljgphkdaaGreat
