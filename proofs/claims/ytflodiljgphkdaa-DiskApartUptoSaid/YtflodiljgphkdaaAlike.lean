/-
  redoubtlaw05.alike: a drive of the program's and one of the document's that hold the same.
-/
import Derived.Test.YtflodiljgphkdaaRefN
import Derived.Test.YtflodiljgphkdaaDskQ
import Derived.Test.YtflodiljgphkdaaSame
namespace Go.Proofs.Ytflodiljgphkdaa
open Go.RowKit Go.ChangeShapes Go.WideShapes Go.ChangeAt

theorem n_copy {w0 w : World} {d : Nat} {x : DV} (h : DNew w0 w d x) : Calls Try.prog 30 #[.pointer (some ⟨d, 0, none⟩)] w fun e w' => ∃ d', e = .returned (.pointer (some ⟨d', 0, none⟩)) ∧ DNew w w' d' x := by
  obtain ⟨F, h1, _⟩ := h
  exact (d_copy d x F w h1).mono fun _ _ ⟨d', F', he, h2, h3, h4⟩ => ⟨d', he, F', h2, h3, h4⟩
theorem prefixed_empty (s : ByteArray) : prefixed ⟨#[]⟩ s = true := by unfold prefixed; rfl
theorem namesD_all {x : DV} (h : x.off = false) : namesD ⟨#[]⟩ x = x.files.map (·.1) := by
  unfold namesD
  rw [h]
  simp only [Bool.false_eq_true, if_false]
  exact List.filter_eq_self.2 fun s _ => prefixed_empty s
theorem namesD_off {x : DV} (h : x.off = true) (p : ByteArray) : namesD p x = [] := by unfold namesD; rw [h]; rfl
theorem readD_name {x : DV} (hx : OkD x) (h : x.off = false) {n : ByteArray} (hn : n ∈ x.files.map (·.1)) : ∃ t, readD n x = some t := by
  obtain ⟨p, hp, rfl⟩ := List.mem_map.1 hn
  refine ⟨bs p.2.bytes, ?_⟩
  unfold readD fileD
  rw [h, mget_of_mem hx.rising.nodup (show (p.1, p.2) ∈ x.files from hp)]; rfl
theorem readD_all {x : DV} (hx : OkD x) {n : ByteArray} {i : Nat} (hn : (namesD ⟨#[]⟩ x)[i]? = some n) : ∃ t, readD n x = some t := by
  cases ho : x.off with
  | true => rw [namesD_off ho] at hn; cases hn
  | false => rw [namesD_all ho] at hn; exact readD_name hx ho (List.mem_of_getElem? hn)
theorem namesD_length (p : ByteArray) (x : DV) : (namesD p x).length ≤ x.files.length := by
  unfold namesD
  split
  · exact Nat.zero_le _
  · exact Nat.le_trans (List.length_filter_le _ _) (by rw [List.length_map]; exact Nat.le_refl _)
theorem RNew.blk {w0 w : World} {r : Nat} {x : DV} (h : RNew w0 w r x) : ∃ v, RBlk w r v x := by
  obtain ⟨F, ⟨v, h, _⟩, _⟩ := h
  exact ⟨v, h.blk⟩

set_option maxRecDepth 100000 in
set_option maxHeartbeats 2000000 in
theorem h_alike {W w : World} {d r : Nat} {x : DV} (hd : DNew W w d x) (hr : RNew W w r x) (hx : x.files.length ≤ 1000000) :
    Calls Try.prog 25 #[.pointer (some ⟨d, 0, none⟩), .pointer (some ⟨r, 0, none⟩)] w fun e w' => e = .returned (.bool true) ∧ Kp No w w' := by
  have HD := Lib.hid hd
  have HR := Lib.hid hr
  clear hd hr
  go_enter Try.func25, Try.ntmps25
  go_wp2_with fail
  refine (n_names ⟨#[]⟩ w HD.out hx).mono ?_
  rintro e w1 ⟨A1, c1, rfl, hown, hk1⟩
  have HD1 := Lib.hid (HD.out.kept hk1)
  have HR1 := Lib.hid (HR.out.kept hk1)
  have HN1 := Lib.hid hown.readFrom
  have HK1 := Lib.hid hk1
  clear hown hk1
  go_wp2_with fail
  refine Reg.wp_region_plan [⟨0, false, []⟩, ⟨1, false, []⟩, ⟨2, true, []⟩, ⟨3, true, []⟩, ⟨4, false, []⟩, ⟨5, false, []⟩, ⟨6, false, []⟩, ⟨8, false, []⟩, ⟨9, false, []⟩, ⟨10, false, []⟩, ⟨11, false, []⟩, ⟨7, true, [9, 10, 11]⟩, ⟨12, false, []⟩, ⟨13, false, []⟩, ⟨14, false, []⟩, ⟨15, false, []⟩, ⟨17, false, []⟩, ⟨18, false, []⟩, ⟨19, false, []⟩, ⟨20, false, []⟩, ⟨16, true, [18, 19, 20]⟩, ⟨21, false, []⟩, ⟨22, false, []⟩] rfl (by kernel_rfl) ?_
  repeat (first | (refine Reg.look rfl rfl rfl (by go_simp; rfl) rfl ?_; go_simp) | (refine Reg.skip rfl rfl rfl ?_; go_simp))
  refine Reg.act rfl ?_
  go_wp2_with fail
  refine (m_names ⟨#[]⟩ _ (HR1.out.kept ((Kp.refl No _).drew)) hx).mono ?_
  rintro e w2 ⟨A2, c2, rfl, hown, hk2⟩
  have hk2 : Kp No w1 w2 := ((Kp.refl No _).drew).trans' hk2
  have HD2 := Lib.hid (HD1.out.kept hk2)
  have HR2 := Lib.hid (HR1.out.kept hk2)
  have HM2 := Lib.hid (Rp.str.slice.keptNo HN1.out hk2)
  have HN2 := Lib.hid hown.readFrom
  have HK2 := Lib.hid (HK1.out.trans' hk2)
  clear hown hk2
  go_wp2_with fail
  refine ⟨Reg.anew_nil, ?_⟩
  refine Reg.act rfl ?_
  go_wp2_with fail
  have hsm := r_same _ _ A1 A2 c1 c2 w2 _ _ HM2.out HN2.out
  rw [decide_eq_true rfl] at hsm
  refine hsm.mono ?_
  rintro e w3 ⟨rfl, q, rfl⟩
  have hkq : Kp No w2 (w2.drewN q) := (Kp.refl _ _).drewN q
  have HD3 := Lib.hid (HD2.out.kept hkq)
  have HR3 := Lib.hid (HR2.out.kept hkq)
  have HM3 := Lib.hid (Rp.str.slice.keptNo HM2.out hkq)
  have HK3 := Lib.hid (HK2.out.trans' hkq)
  obtain ⟨w3, hw3⟩ : ∃ w3, w2.drewN q = w3 := ⟨_, rfl⟩
  rw [hw3] at HD3 HR3 HM3 HK3
  rw [hw3]
  clear hsm hkq hw3
  go_wp2_with fail
  obtain ⟨v3, hb3⟩ := HR3.out.blk
  have d2 : w3.cell? ⟨r, 2, none⟩ = some (.bool x.off) := Blk.cell hb3 rfl
  have d3 : w3.cell? ⟨r, 3, none⟩ = some (.int .i64 x.steps) := Blk.cell hb3 rfl
  clear hb3
  refine ⟨Reg.anew_nil, ?_⟩
  repeat (first | (refine Reg.look rfl rfl rfl (by go_simp; rfl) rfl ?_; go_simp) | (refine Reg.skip rfl rfl rfl ?_; go_simp))
  refine Reg.act rfl ?_
  go_wp2_with fail
  refine (n_down w3 HD3.out).mono ?_
  rintro e w4 ⟨rfl, rfl⟩
  go_wp2_with fail
  (refine ⟨?anew, ?_⟩; case anew => ((repeat (refine Reg.anew_cons rfl rfl (fun _ => by go_simp) ?_)); exact Reg.anew_nil))
  repeat (first | (refine Reg.look rfl rfl rfl (by go_simp; rfl) rfl ?_; go_simp) | (refine Reg.skip rfl rfl rfl ?_; go_simp))
  refine Reg.act rfl ?_
  go_wp2_with fail
  refine (n_steps w4 HD3.out).mono ?_
  rintro e w5 ⟨rfl, rfl⟩
  go_wp2_with fail
  (refine ⟨?anew, ?_⟩; case anew => ((repeat (refine Reg.anew_cons rfl rfl (fun _ => by go_simp) ?_)); exact Reg.anew_nil))
  repeat (first | (refine Reg.look rfl rfl rfl (by go_simp; rfl) rfl ?_; go_simp) | (refine Reg.skip rfl rfl rfl ?_; go_simp))
  (refine Reg.done ?_; simp only [Exit.then])
  go_wp2_with fail
  go_loopw [39] (fun iv wr => ∃ i : Nat, i ≤ (namesD ⟨#[]⟩ x).length ∧ iv = .int .i64 (i : Int) ∧ Hid (Kp No w5 wr)) (fun iv _ => (namesD ⟨#[]⟩ x).length - (intOf iv).toNat)
  case atStart => exact ⟨0, Nat.zero_le _, rfl, Lib.hid (Kp.refl _ _)⟩
  case round =>
    obtain ⟨i, hi, rfl, HK⟩ := hrel
    have hNl := namesD_length ⟨#[]⟩ x
    by_cases hlt : i < (namesD ⟨#[]⟩ x).length
    · have hli : (i : Int) < ((namesD ⟨#[]⟩ x).length : Int) := by omega
      obtain ⟨n, hn⟩ : ∃ n, (namesD ⟨#[]⟩ x)[i]? = some n := ⟨_, List.getElem?_eq_getElem hlt⟩
      obtain ⟨ad, rfl, _, hcell, _⟩ := Rp.at_str (Rp.str.slice.keptNo HM3.out HK.out) hn
      obtain ⟨t, ht⟩ := readD_all HD3.out.ok hn
      have HT := Lib.hid ht
      have hr1 := n_read n wr (HD3.out.kept HK.out)
      rw [ht] at hr1
      simp only [textOr, Option.getD_some, Option.isSome_some] at hr1
      clear hn ht
      go_wp2_with fail
      refine hr1.mono ?_
      rintro e w10 ⟨rfl, rfl⟩
      clear hr1
      go_wp2_with fail
      have hr2 := m_read n w10 (HR3.out.kept HK.out)
      rw [HT.out] at hr2
      simp only [textOr, Option.getD_some, Option.isSome_some] at hr2
      refine hr2.mono ?_
      rintro e w11 ⟨rfl, hk11⟩
      have HK11 := Lib.hid (HK.out.trans' hk11)
      clear hr2 hk11
      go_wp2_with fail
      go_roundw
      case rel => exact ⟨i + 1, by omega, by go_num, HK11⟩
      case measure => simp [intOf]; omega
    · obtain rfl : i = (namesD ⟨#[]⟩ x).length := by omega
      go_wp2_with fail
      go_ret
      exact ⟨rfl, HK3.out.trans' HK.out⟩
end Go.Proofs.Ytflodiljgphkdaa
