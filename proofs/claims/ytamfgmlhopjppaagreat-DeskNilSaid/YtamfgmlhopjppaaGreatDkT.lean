/-
  (*Desk).Settle.
-/
import Derived.Test.YtamfgmlhopjppaaGreatDkS
namespace Go.Proofs.YtamfgmlhopjppaaGreat
open Go.RowKit Go.ChangeShapes Go.WideShapes Go.ChangeAt

set_option maxRecDepth 100000 in
set_option maxHeartbeats 16000000 in
theorem k_enough (ops : List OpL) (A : Option Addr) (c : Nat) (site whole : ReachL) (As Aw : Option Addr) (cs cw : Nat) (o1 o2 : Int) (r : RowD) (z : Nat) (hv : Value) (w : World) (S T : Nat → Prop) (h : Rp.opl.slice.R w S [.slice A ops.length c] ops) (hl : ops.length ≤ 1000000)
    (hs : (Rp.int .i64).slice.R w T [.slice As site.holes.length cs] site.holes) (hw : (Rp.int .i64).slice.R w T [.slice Aw whole.holes.length cw] whole.holes) (hz : Blk w z 118 (r.cells hv)) (hn : 0 ≤ r.an ∧ r.an ≤ 1000000) :
    Calls Tryz.prog 76 #[.pointer (some ⟨z, 0, none⟩), .slice A ops.length c, reachW site (.slice As site.holes.length cs), .agg #[.int .i64 o1, .int .i64 o2], reachW whole (.slice Aw whole.holes.length cw)] w fun e w' => e = .returned (.bool (enoughD ops site o1 o2 whole r)) ∧ Kp No w w' := by
  have hth := fun (x : ReachL) (Ax : Option Addr) (cx : Nat) w' (hk : Kp No w w') (hx : (Rp.int .i64).slice.R w T [.slice Ax x.holes.length cx] x.holes) => k_there ops A c r.an x Ax cx w' S T (Rp.opl.slice.keptNo h hk) hl ((Rp.slice (Rp.int .i64)).keptNo hx hk)
  have HTS := Lib.hid (fun w' hk => hth site As cs w' hk hs)
  have HTW := Lib.hid (fun w' hk => hth whole Aw cw w' hk hw)
  have HC := Lib.hid (fun w' (hk : Kp No w w') => k_counts ops A c o1 o2 w' S (Rp.opl.slice.keptNo h hk) hl)
  obtain ⟨hk0, hk1⟩ := countsD_le ops o1 o2
  obtain ⟨R, hR⟩ : ∃ R, enoughD ops site o1 o2 whole r = R := ⟨_, rfl⟩
  have HR := Lib.hid hR
  rw [hR]
  unfold enoughD at HR
  obtain ⟨k, hkk⟩ : ∃ k, countsD ops o1 o2 = k := ⟨_, rfl⟩
  obtain ⟨BS, hBS⟩ : ∃ b, thereD ops r.an site = b := ⟨_, rfl⟩
  obtain ⟨BW, hBW⟩ : ∃ b, thereD ops r.an whole = b := ⟨_, rfl⟩
  rw [hkk] at HC HR hk0 hk1
  rw [hBS] at HTS HR
  rw [hBW] at HTW HR
  obtain ⟨hn0, hn1⟩ := hn
  have hk2 : k ≤ 1000000 := by omega
  obtain ⟨s, hss⟩ : ∃ v, w.heap.size = v := ⟨_, rfl⟩
  obtain ⟨wa, hwa⟩ : ∃ v, w.alloc (.cells #[.int .i64 site.at1, .int .i64 site.at2, .slice As site.holes.length cs] 53) = v := ⟨_, rfl⟩
  have hka : Kp No w wa := by rw [← hwa]; exact (Kp.refl _ _).alloc _
  have hba : Blk wa s 53 [.int .i64 site.at1, .int .i64 site.at2, .slice As site.holes.length cs] := by rw [← hwa, ← hss]; exact Blk.new _ _ _
  obtain ⟨t, ht⟩ : ∃ v, wa.heap.size = v := ⟨_, rfl⟩
  obtain ⟨wb, hwb⟩ : ∃ v, wa.alloc (.cells #[.int .i64 o1, .int .i64 o2] 42) = v := ⟨_, rfl⟩
  have hkb : Kp No wa wb := by rw [← hwb]; exact (Kp.refl _ _).alloc _
  have hbb : Blk wb t 42 [.int .i64 o1, .int .i64 o2] := by rw [← hwb, ← ht]; exact Blk.new _ _ _
  obtain ⟨u, hu⟩ : ∃ v, wb.heap.size = v := ⟨_, rfl⟩
  obtain ⟨we, hwe⟩ : ∃ v, wb.alloc (.cells #[.int .i64 whole.at1, .int .i64 whole.at2, .slice Aw whole.holes.length cw] 53) = v := ⟨_, rfl⟩
  have hkc : Kp No wb we := by rw [← hwe]; exact (Kp.refl _ _).alloc _
  have HU : Hid (Blk we u 53 [.int .i64 whole.at1, .int .i64 whole.at2, .slice Aw whole.holes.length cw]) := Lib.hid (by rw [← hwe, ← hu]; exact Blk.new _ _ _)
  have HK := Lib.hid ((hka.trans' hkb).trans' hkc)
  have HS := Lib.hid ((hba.kept hkb (fun h => h)).kept hkc (fun h => h))
  have HT := Lib.hid (hbb.kept hkc (fun h => h))
  have HZ := Lib.hid (hz.kept HK.out (fun h => h))
  unfold reachW at HTS HTW ⊢
  clear h hs hw hz hth hka hba hkb hbb hkc hkk hBS hBW hR hk1 hl
  go_enter Tryz.func76, Tryz.ntmps76
  go_upto_region 1 with fail
  try rw [hwa]
  try rw [hss]
  try rw [hwb]
  try rw [ht]
  try rw [hwe]
  try rw [hu]
  clear hwa hwb hwe hss ht hu
  obtain ⟨wd, hwd⟩ : ∃ v, we.drew = v := ⟨_, rfl⟩
  have HKD : Hid (Kp No we wd) := Lib.hid (by rw [← hwd]; exact (Kp.refl _ _).drew)
  have z11 : wd.cell? ⟨z, 11, none⟩ = some _ := Blk.cell (HZ.out.kept HKD.out (fun h => h)) rfl
  have t0 : wd.cell? ⟨t, 0, none⟩ = some _ := Blk.cell (HT.out.kept HKD.out (fun h => h)) rfl
  have t1 : wd.cell? ⟨t, 1, none⟩ = some _ := Blk.cell (HT.out.kept HKD.out (fun h => h)) rfl
  refine Reg.wp_region_plan [⟨0, false, []⟩, ⟨1, false, []⟩, ⟨2, false, []⟩, ⟨3, false, []⟩, ⟨4, false, []⟩, ⟨5, false, []⟩, ⟨6, false, []⟩, ⟨7, true, [1, 2, 3, 4]⟩, ⟨8, false, []⟩, ⟨9, false, []⟩] rfl (by kernel_rfl) ?_
  rw [hwd]
  clear hwd
  repeat (first | (refine Reg.look rfl rfl rfl (by go_simp; rfl) rfl ?_; go_simp) | (refine Reg.skip rfl rfl rfl ?_; go_simp))
  refine Reg.act rfl ?_
  go_wp2_with fail
  refine (HC.out wd (HK.out.trans' HKD.out)).mono ?_
  rintro e w2 ⟨rfl, hk2'⟩
  have HK2 := Lib.hid (HKD.out.trans' hk2')
  clear hk2' z11 t0 t1 HC
  have z11 : w2.cell? ⟨z, 11, none⟩ = some _ := Blk.cell (HZ.out.kept HK2.out (fun h => h)) rfl
  go_wp2_with fail
  (refine ⟨?anew, ?_⟩; case anew => ((repeat (refine Reg.anew_cons rfl rfl (fun _ => by go_simp) ?_)); exact Reg.anew_nil))
  repeat (first | (refine Reg.look rfl rfl rfl (by go_simp; rfl) rfl ?_; go_simp) | (refine Reg.skip rfl rfl rfl ?_; go_simp))
  (refine Reg.done ?_; simp only [Exit.then])
  clear z11
  have z6 : w2.cell? ⟨z, 6, none⟩ = some _ := Blk.cell (HZ.out.kept HK2.out (fun h => h)) rfl
  have z7 : w2.cell? ⟨z, 7, none⟩ = some _ := Blk.cell (HZ.out.kept HK2.out (fun h => h)) rfl
  have s0 : w2.cell? ⟨s, 0, none⟩ = some _ := Blk.cell (HS.out.kept HK2.out (fun h => h)) rfl
  have s1 : w2.cell? ⟨s, 1, none⟩ = some _ := Blk.cell (HS.out.kept HK2.out (fun h => h)) rfl
  have s2 : w2.cell? ⟨s, 2, none⟩ = some _ := Blk.cell (HS.out.kept HK2.out (fun h => h)) rfl
  have u0 : w2.cell? ⟨u, 0, none⟩ = some _ := Blk.cell (HU.out.kept HK2.out (fun h => h)) rfl
  have u1 : w2.cell? ⟨u, 1, none⟩ = some _ := Blk.cell (HU.out.kept HK2.out (fun h => h)) rfl
  have u2 : w2.cell? ⟨u, 2, none⟩ = some _ := Blk.cell (HU.out.kept HK2.out (fun h => h)) rfl
  by_cases h1 : r.ask.mode = 1
  case pos =>
    have hb1 : (r.ask.mode == 1) = true := beq_iff_eq.2 h1
    rw [if_pos h1] at HR
    clear h1 HTW
    go_wp2_with fail
    refine (HTS.out w2 (HK.out.trans' HK2.out)).mono ?_
    rintro e w3 ⟨rfl, hk3⟩
    have HK3 := Lib.hid (HK2.out.trans' hk3)
    clear hk3
    clear z6 z7 s0 s1 s2 u0 u1 u2
    have z6 : w3.cell? ⟨z, 6, none⟩ = some _ := Blk.cell (HZ.out.kept HK3.out (fun h => h)) rfl
    have z7 : w3.cell? ⟨z, 7, none⟩ = some _ := Blk.cell (HZ.out.kept HK3.out (fun h => h)) rfl
    have s0 : w3.cell? ⟨s, 0, none⟩ = some _ := Blk.cell (HS.out.kept HK3.out (fun h => h)) rfl
    have s1 : w3.cell? ⟨s, 1, none⟩ = some _ := Blk.cell (HS.out.kept HK3.out (fun h => h)) rfl
    have s2 : w3.cell? ⟨s, 2, none⟩ = some _ := Blk.cell (HS.out.kept HK3.out (fun h => h)) rfl
    have u0 : w3.cell? ⟨u, 0, none⟩ = some _ := Blk.cell (HU.out.kept HK3.out (fun h => h)) rfl
    have u1 : w3.cell? ⟨u, 1, none⟩ = some _ := Blk.cell (HU.out.kept HK3.out (fun h => h)) rfl
    have u2 : w3.cell? ⟨u, 2, none⟩ = some _ := Blk.cell (HU.out.kept HK3.out (fun h => h)) rfl
    cases BS
    case false =>
      have HF : Hid (R = false) := Lib.hid (by rw [← HR.out]; rfl)
      go_wp2_with fail
      go_ret
      exact ⟨by rw [HF.out]; rfl, HK.out.trans' HK3.out⟩
    case true =>
      obtain ⟨Q, hQ⟩ : ∃ Q, decide (r.an - k ≤ r.ask.lag) = Q := ⟨_, rfl⟩
      have HF : Hid (R = decide (r.an - k ≤ r.ask.lag)) := Lib.hid (by rw [← HR.out]; rfl)
      clear hQ
      go_wp2_with fail
      go_ret
      exact ⟨by rw [HF.out]; rfl, HK.out.trans' HK3.out⟩
  case neg =>
  have hb1 : (r.ask.mode == 1) = false := beq_eq_false_iff_ne.2 h1
  rw [if_neg h1] at HR
  clear h1
  by_cases h2 : r.ask.mode = 2
  case pos =>
    have hb2 : (r.ask.mode == 2) = true := beq_iff_eq.2 h2
    rw [if_pos h2] at HR
    clear h2
    go_wp2_with fail
    refine (HTS.out w2 (HK.out.trans' HK2.out)).mono ?_
    rintro e w3 ⟨rfl, hk3⟩
    have HK3 := Lib.hid (HK2.out.trans' hk3)
    clear hk3
    clear z6 z7 s0 s1 s2 u0 u1 u2
    have z6 : w3.cell? ⟨z, 6, none⟩ = some _ := Blk.cell (HZ.out.kept HK3.out (fun h => h)) rfl
    have z7 : w3.cell? ⟨z, 7, none⟩ = some _ := Blk.cell (HZ.out.kept HK3.out (fun h => h)) rfl
    have s0 : w3.cell? ⟨s, 0, none⟩ = some _ := Blk.cell (HS.out.kept HK3.out (fun h => h)) rfl
    have s1 : w3.cell? ⟨s, 1, none⟩ = some _ := Blk.cell (HS.out.kept HK3.out (fun h => h)) rfl
    have s2 : w3.cell? ⟨s, 2, none⟩ = some _ := Blk.cell (HS.out.kept HK3.out (fun h => h)) rfl
    have u0 : w3.cell? ⟨u, 0, none⟩ = some _ := Blk.cell (HU.out.kept HK3.out (fun h => h)) rfl
    have u1 : w3.cell? ⟨u, 1, none⟩ = some _ := Blk.cell (HU.out.kept HK3.out (fun h => h)) rfl
    have u2 : w3.cell? ⟨u, 2, none⟩ = some _ := Blk.cell (HU.out.kept HK3.out (fun h => h)) rfl
    cases BS
    case false =>
      have HF : Hid (R = false) := Lib.hid (by rw [← HR.out]; rfl)
      go_wp2_with fail
      go_ret
      exact ⟨by rw [HF.out]; rfl, HK.out.trans' HK3.out⟩
    case true =>
      go_wp2_with fail
      refine (HTW.out w3 (HK.out.trans' HK3.out)).mono ?_
      rintro e w4 ⟨rfl, hk4⟩
      have HK4 := Lib.hid (HK3.out.trans' hk4)
      clear hk4
      clear z6 z7 s0 s1 s2 u0 u1 u2
      cases BW
      case false =>
        have HF : Hid (R = false) := Lib.hid (by rw [← HR.out]; rfl)
        go_wp2_with fail
        go_ret
        exact ⟨by rw [HF.out]; rfl, HK.out.trans' HK4.out⟩
      case true =>
        have HF : Hid (R = decide (r.an ≤ k)) := Lib.hid (by rw [← HR.out]; rfl)
        go_wp2_with fail
        go_ret
        exact ⟨by rw [HF.out]; rfl, HK.out.trans' HK4.out⟩
  case neg =>
    have hb2 : (r.ask.mode == 2) = false := beq_eq_false_iff_ne.2 h2
    rw [if_neg h2] at HR
    clear h2 HTW
    have HF : Hid (R = BS) := Lib.hid HR.out.symm
    go_wp2_with fail
    refine (HTS.out w2 (HK.out.trans' HK2.out)).mono ?_
    rintro e w3 ⟨rfl, hk3⟩
    have HK3 := Lib.hid (HK2.out.trans' hk3)
    clear hk3
    clear z6 z7 s0 s1 s2 u0 u1 u2
    go_wp2_with fail
    go_ret
    exact ⟨by rw [HF.out]; rfl, HK.out.trans' HK3.out⟩
set_option maxRecDepth 100000 in
set_option maxHeartbeats 16000000 in
theorem k_settle1 (ops : List OpL) (A : Option Addr) (c : Nat) (site whole : ReachL) (As Aw : Option Addr) (cs cw : Nat) (o1 o2 : Int) (r : RowD) (z ba bs bo bw : Nat) (hv : Value) (T : Nat → Prop) (w : World) (S U : Nat → Prop) (h : Rp.opl.slice.R w S [.slice A ops.length c] ops) (hl : ops.length ≤ 1000000)
    (hs : (Rp.int .i64).slice.R w U [.slice As site.holes.length cs] site.holes) (hw : (Rp.int .i64).slice.R w U [.slice Aw whole.holes.length cw] whole.holes) (hb : Blk w z 118 (r.cells hv)) (hr : Rp.str.slice.R w T [hv] r.hashes) (hn : r.nums)
    (hba : Blk w ba 37 [.slice A ops.length c]) (hbs : Blk w bs 53 [.int .i64 site.at1, .int .i64 site.at2, .slice As site.holes.length cs]) (hbo : Blk w bo 42 [.int .i64 o1, .int .i64 o2]) (hbw : Blk w bw 53 [.int .i64 whole.at1, .int .i64 whole.at2, .slice Aw whole.holes.length cw]) :
    Calls Tryz.prog 74 (#[.pointer (some ⟨z, 0, none⟩)] ++ #[.pointer (some ⟨ba, 0, none⟩), .pointer (some ⟨bs, 0, none⟩), .pointer (some ⟨bo, 0, none⟩), .pointer (some ⟨bw, 0, none⟩)]) w (AnsD z w T (settleF ops site o1 o2 whole r)) := by
  obtain ⟨y, hy⟩ : ∃ v, w.heap.size = v := ⟨_, rfl⟩
  obtain ⟨w1, hw1⟩ : ∃ v, w.alloc (.cells #[.int .i64 0, .int .i64 0, .int .i64 0, .int .i64 0, .slice none 0 0, .string ⟨#[]⟩, .slice none 0 0] 75) = v := ⟨_, rfl⟩
  have hk1 : Kp No w w1 := by rw [← hw1]; exact (Kp.refl _ _).alloc _
  have HY : Hid (Blk w1 y 75 [.int .i64 0, .int .i64 0, .int .i64 0, .int .i64 0, .slice none 0 0, .string ⟨#[]⟩, .slice none 0 0]) := Lib.hid (by rw [← hw1, ← hy]; exact Blk.new _ _ _)
  have HZ0 := Lib.hid hb
  have HZ := Lib.hid (hb.kept hk1 (fun h => h))
  have HK1 := Lib.hid hk1
  have HRH := Lib.hid hr
  have HNU := Lib.hid hn
  have HZW : Hid (z < w.heap.size ∧ w.heap.size ≤ y) := Lib.hid ⟨Blk.lt hb, Nat.le_of_eq hy⟩
  have HC := Lib.hid (fun w' (hk : Kp No w1 w') => k_counts ops A c r.an r.ae w' S (Rp.opl.slice.keptNo h (hk1.trans' hk)) hl)
  have hen := fun (hn : 0 ≤ r.an ∧ r.an ≤ 1000000) w' (hk : Kp No w1 w') => k_enough ops A c site whole As Aw cs cw o1 o2 r z hv w' S U (Rp.opl.slice.keptNo h (hk1.trans' hk)) hl ((Rp.slice (Rp.int .i64)).keptNo hs (hk1.trans' hk)) ((Rp.slice (Rp.int .i64)).keptNo hw (hk1.trans' hk)) (HZ.out.kept hk (fun h => h)) hn
  unfold reachW at hen
  have HEN := Lib.hid hen
  have HBA := Lib.hid (hba.kept hk1 (fun h => h))
  have HBS := Lib.hid (hbs.kept hk1 (fun h => h))
  have HBO := Lib.hid (hbo.kept hk1 (fun h => h))
  have HBW := Lib.hid (hbw.kept hk1 (fun h => h))
  have hlli : (ops.length : Int) ≤ 1000000 := by omega
  obtain ⟨q, hq⟩ : ∃ q, settleF ops site o1 o2 whole r = q := ⟨_, rfl⟩
  have HQ := Lib.hid hq
  rw [hq]
  unfold settleF at HQ
  have hcl : countsD ops r.an r.ae ≠ 0 → 0 ≤ r.an ∧ r.an ≤ 1000000 := fun hne => by
    unfold countsD at hne
    split at hne
    · omega
    · exact absurd rfl hne
  have HCL := Lib.hid hcl
  obtain ⟨k, hkk⟩ : ∃ k, countsD ops r.an r.ae = k := ⟨_, rfl⟩
  rw [hkk] at HQ HC HCL
  clear h hl hs hw hb hr hn hba hbs hbo hbw hk1 hq hen hcl hkk
  rw [show (#[Value.pointer (some ⟨z, 0, none⟩)] ++ #[Value.pointer (some ⟨ba, 0, none⟩), .pointer (some ⟨bs, 0, none⟩), .pointer (some ⟨bo, 0, none⟩), .pointer (some ⟨bw, 0, none⟩)] : Array Value) = #[.pointer (some ⟨z, 0, none⟩), .pointer (some ⟨ba, 0, none⟩), .pointer (some ⟨bs, 0, none⟩), .pointer (some ⟨bo, 0, none⟩), .pointer (some ⟨bw, 0, none⟩)] from rfl]
  go_enter Tryz.func74, Tryz.ntmps74
  go_upto_region 1 with fail
  try rw [hw1]
  try rw [hy]
  clear hw1 hy
  obtain ⟨wd, hwd⟩ : ∃ v, w1.drew = v := ⟨_, rfl⟩
  have HKD : Hid (Kp No w1 wd) := Lib.hid (by rw [← hwd]; exact (Kp.refl _ _).drew)
  have z0 : wd.cell? ⟨z, 0, none⟩ = some _ := Blk.cell (HZ.out.kept HKD.out (fun h => h)) rfl
  have z1 : wd.cell? ⟨z, 1, none⟩ = some _ := Blk.cell (HZ.out.kept HKD.out (fun h => h)) rfl
  have z2 : wd.cell? ⟨z, 2, none⟩ = some _ := Blk.cell (HZ.out.kept HKD.out (fun h => h)) rfl
  have z3 : wd.cell? ⟨z, 3, none⟩ = some _ := Blk.cell (HZ.out.kept HKD.out (fun h => h)) rfl
  have z4 : wd.cell? ⟨z, 4, none⟩ = some _ := Blk.cell (HZ.out.kept HKD.out (fun h => h)) rfl
  have z5 : wd.cell? ⟨z, 5, none⟩ = some _ := Blk.cell (HZ.out.kept HKD.out (fun h => h)) rfl
  have z6 : wd.cell? ⟨z, 6, none⟩ = some _ := Blk.cell (HZ.out.kept HKD.out (fun h => h)) rfl
  have z7 : wd.cell? ⟨z, 7, none⟩ = some _ := Blk.cell (HZ.out.kept HKD.out (fun h => h)) rfl
  have z11 : wd.cell? ⟨z, 11, none⟩ = some _ := Blk.cell (HZ.out.kept HKD.out (fun h => h)) rfl
  have z12 : wd.cell? ⟨z, 12, none⟩ = some _ := Blk.cell (HZ.out.kept HKD.out (fun h => h)) rfl
  have a0 : wd.cell? ⟨ba, 0, none⟩ = some _ := Blk.cell (HBA.out.kept HKD.out (fun h => h)) rfl
  have b0 : wd.cell? ⟨bs, 0, none⟩ = some _ := Blk.cell (HBS.out.kept HKD.out (fun h => h)) rfl
  have b1 : wd.cell? ⟨bs, 1, none⟩ = some _ := Blk.cell (HBS.out.kept HKD.out (fun h => h)) rfl
  have b2 : wd.cell? ⟨bs, 2, none⟩ = some _ := Blk.cell (HBS.out.kept HKD.out (fun h => h)) rfl
  have o0 : wd.cell? ⟨bo, 0, none⟩ = some _ := Blk.cell (HBO.out.kept HKD.out (fun h => h)) rfl
  have o1' : wd.cell? ⟨bo, 1, none⟩ = some _ := Blk.cell (HBO.out.kept HKD.out (fun h => h)) rfl
  have d0 : wd.cell? ⟨bw, 0, none⟩ = some _ := Blk.cell (HBW.out.kept HKD.out (fun h => h)) rfl
  have d1 : wd.cell? ⟨bw, 1, none⟩ = some _ := Blk.cell (HBW.out.kept HKD.out (fun h => h)) rfl
  have d2 : wd.cell? ⟨bw, 2, none⟩ = some _ := Blk.cell (HBW.out.kept HKD.out (fun h => h)) rfl
  refine Reg.wp_region_plan [⟨0, false, []⟩, ⟨1, false, []⟩, ⟨2, false, []⟩, ⟨3, false, []⟩, ⟨4, false, []⟩, ⟨5, true, []⟩, ⟨6, false, []⟩] rfl (by kernel_rfl) ?_
  rw [hwd]
  clear hwd
  repeat (first | (refine Reg.look rfl rfl rfl (by go_simp; rfl) rfl ?_; go_simp) | (refine Reg.skip rfl rfl rfl ?_; go_simp))
  refine Reg.act rfl ?_
  go_wp2_with fail
  refine (HC.out wd HKD.out).mono ?_
  rintro e w2 ⟨rfl, hk2⟩
  have HK2 := Lib.hid (HKD.out.trans' hk2)
  clear hk2 HC
  clear z0 z1 z2 z3 z4 z5 z6 z7 z11 z12
  clear a0 b0 b1 b2 o0 o1' d0 d1 d2
  have z0 : w2.cell? ⟨z, 0, none⟩ = some _ := Blk.cell (HZ.out.kept HK2.out (fun h => h)) rfl
  have z1 : w2.cell? ⟨z, 1, none⟩ = some _ := Blk.cell (HZ.out.kept HK2.out (fun h => h)) rfl
  have z2 : w2.cell? ⟨z, 2, none⟩ = some _ := Blk.cell (HZ.out.kept HK2.out (fun h => h)) rfl
  have z3 : w2.cell? ⟨z, 3, none⟩ = some _ := Blk.cell (HZ.out.kept HK2.out (fun h => h)) rfl
  have z4 : w2.cell? ⟨z, 4, none⟩ = some _ := Blk.cell (HZ.out.kept HK2.out (fun h => h)) rfl
  have z5 : w2.cell? ⟨z, 5, none⟩ = some _ := Blk.cell (HZ.out.kept HK2.out (fun h => h)) rfl
  have z6 : w2.cell? ⟨z, 6, none⟩ = some _ := Blk.cell (HZ.out.kept HK2.out (fun h => h)) rfl
  have z7 : w2.cell? ⟨z, 7, none⟩ = some _ := Blk.cell (HZ.out.kept HK2.out (fun h => h)) rfl
  have z11 : w2.cell? ⟨z, 11, none⟩ = some _ := Blk.cell (HZ.out.kept HK2.out (fun h => h)) rfl
  have z12 : w2.cell? ⟨z, 12, none⟩ = some _ := Blk.cell (HZ.out.kept HK2.out (fun h => h)) rfl
  have a0 : w2.cell? ⟨ba, 0, none⟩ = some _ := Blk.cell (HBA.out.kept HK2.out (fun h => h)) rfl
  have b0 : w2.cell? ⟨bs, 0, none⟩ = some _ := Blk.cell (HBS.out.kept HK2.out (fun h => h)) rfl
  have b1 : w2.cell? ⟨bs, 1, none⟩ = some _ := Blk.cell (HBS.out.kept HK2.out (fun h => h)) rfl
  have b2 : w2.cell? ⟨bs, 2, none⟩ = some _ := Blk.cell (HBS.out.kept HK2.out (fun h => h)) rfl
  have o0 : w2.cell? ⟨bo, 0, none⟩ = some _ := Blk.cell (HBO.out.kept HK2.out (fun h => h)) rfl
  have o1' : w2.cell? ⟨bo, 1, none⟩ = some _ := Blk.cell (HBO.out.kept HK2.out (fun h => h)) rfl
  have d0 : w2.cell? ⟨bw, 0, none⟩ = some _ := Blk.cell (HBW.out.kept HK2.out (fun h => h)) rfl
  have d1 : w2.cell? ⟨bw, 1, none⟩ = some _ := Blk.cell (HBW.out.kept HK2.out (fun h => h)) rfl
  have d2 : w2.cell? ⟨bw, 2, none⟩ = some _ := Blk.cell (HBW.out.kept HK2.out (fun h => h)) rfl
  by_cases h0 : k = 0
  case pos =>
    have hb0 : (k == 0) = true := beq_iff_eq.2 h0
    rw [if_pos h0] at HQ
    have e := HQ.out
    subst e
    clear h0 HQ HEN HCL
    go_wp2_with fail
    (refine ⟨?anew, ?_⟩; case anew => ((repeat (refine Reg.anew_cons rfl rfl (fun _ => by go_simp) ?_)); exact Reg.anew_nil))
    repeat (first | (refine Reg.look rfl rfl rfl (by go_simp; rfl) rfl ?_; go_simp) | (refine Reg.skip rfl rfl rfl ?_; go_simp))
    (refine Reg.done ?_; simp only [Exit.then])
    have HR7 := Lib.hid (k_reply r 222 (0, 0) w2)
    unfold reqW at HR7
    go_wp2_with fail
    refine HR7.out.mono ?_
    rintro e w3 ⟨rfl, hk3⟩
    unfold repW repD
    have hy3 := HY.out.kept (HK2.out.trans' hk3) (fun h => h)
    have HK3 := Lib.hid (HK1.out.trans' (HK2.out.trans' hk3))
    clear hk3 HR7
    clear z0 z1 z2 z3 z4 z5 z6 z7 z11 z12
    clear a0 b0 b1 b2 o0 o1' d0 d1 d2
    obtain ⟨w5, hst, hb5, hk5⟩ := store_rep (repD r.n 222 (0, 0)) none none 0 0 0 0 hy3 rfl
    have HST := Lib.hid hst
    have HB5 := Lib.hid hb5
    have HK5y := Lib.hid hk5
    clear hst hb5 hk5
    clear hy3
    unfold repW repD at HST
    go_wp2_with (refine wpl_store (by first | rfl | go_simp) 75 _ _ rfl _ _ (by go_simp) (by go_simp) HST.out ?_; go_simp)
    have HK5 : Hid (Kp No w w5) := Lib.hid (HK3.out.trans HK5y.out (fun k hk e => by have := HZW.out; omega))
    exact bodyPost_ret (results_cuD rfl _ _ y _ _ _ _ rfl HB5.out Tryz.underlying75 rfl (by kernel_rfl)) rfl ⟨.slice none 0 0, .slice none 0 0, hv, rfl, HZ0.out.kept HK5.out (fun h => h), Rp.str.slice.more (Rp.str.slice.keptNo HRH.out HK5.out) (fun k h => .inl h), Rp.none_ _ _ _, Rp.none_ _ _ _, ⟨HNU.out.1, rfl, rfl, rfl, Nat.zero_le _⟩, HNU.out, HK5.out.any⟩
  case neg =>
    have hb0 : (k == 0) = false := beq_eq_false_iff_ne.2 h0
    rw [if_neg h0] at HQ
    have e := HQ.out
    subst e
    have HEN2 := Lib.hid (HEN.out (HCL.out h0))
    obtain ⟨BE, hBE⟩ : ∃ b, enoughD ops site o1 o2 whole r = b := ⟨_, rfl⟩
    rw [hBE] at HEN2
    have HBE := Lib.hid hBE
    clear h0 HQ HEN HCL hBE
    go_wp2_with fail
    (refine ⟨?anew, ?_⟩; case anew => ((repeat (refine Reg.anew_cons rfl rfl (fun _ => by go_simp) ?_)); exact Reg.anew_nil))
    repeat (first | (refine Reg.look rfl rfl rfl (by go_simp; rfl) rfl ?_; go_simp) | (refine Reg.skip rfl rfl rfl ?_; go_simp))
    (refine Reg.done ?_; simp only [Exit.then])
    go_upto_region 3 with fail
    obtain ⟨we, hwe⟩ : ∃ v, w2.drew = v := ⟨_, rfl⟩
    have HKE : Hid (Kp No w1 we) := Lib.hid (by rw [← hwe]; exact HK2.out.drew)
    clear z0 z1 z2 z3 z4 z5 z6 z7 z11 z12
    clear a0 b0 b1 b2 o0 o1' d0 d1 d2
    have z0 : we.cell? ⟨z, 0, none⟩ = some _ := Blk.cell (HZ.out.kept HKE.out (fun h => h)) rfl
    have z1 : we.cell? ⟨z, 1, none⟩ = some _ := Blk.cell (HZ.out.kept HKE.out (fun h => h)) rfl
    have z2 : we.cell? ⟨z, 2, none⟩ = some _ := Blk.cell (HZ.out.kept HKE.out (fun h => h)) rfl
    have z3 : we.cell? ⟨z, 3, none⟩ = some _ := Blk.cell (HZ.out.kept HKE.out (fun h => h)) rfl
    have z4 : we.cell? ⟨z, 4, none⟩ = some _ := Blk.cell (HZ.out.kept HKE.out (fun h => h)) rfl
    have z5 : we.cell? ⟨z, 5, none⟩ = some _ := Blk.cell (HZ.out.kept HKE.out (fun h => h)) rfl
    have z6 : we.cell? ⟨z, 6, none⟩ = some _ := Blk.cell (HZ.out.kept HKE.out (fun h => h)) rfl
    have z7 : we.cell? ⟨z, 7, none⟩ = some _ := Blk.cell (HZ.out.kept HKE.out (fun h => h)) rfl
    have z11 : we.cell? ⟨z, 11, none⟩ = some _ := Blk.cell (HZ.out.kept HKE.out (fun h => h)) rfl
    have z12 : we.cell? ⟨z, 12, none⟩ = some _ := Blk.cell (HZ.out.kept HKE.out (fun h => h)) rfl
    have a0 : we.cell? ⟨ba, 0, none⟩ = some _ := Blk.cell (HBA.out.kept HKE.out (fun h => h)) rfl
    have b0 : we.cell? ⟨bs, 0, none⟩ = some _ := Blk.cell (HBS.out.kept HKE.out (fun h => h)) rfl
    have b1 : we.cell? ⟨bs, 1, none⟩ = some _ := Blk.cell (HBS.out.kept HKE.out (fun h => h)) rfl
    have b2 : we.cell? ⟨bs, 2, none⟩ = some _ := Blk.cell (HBS.out.kept HKE.out (fun h => h)) rfl
    have o0 : we.cell? ⟨bo, 0, none⟩ = some _ := Blk.cell (HBO.out.kept HKE.out (fun h => h)) rfl
    have o1' : we.cell? ⟨bo, 1, none⟩ = some _ := Blk.cell (HBO.out.kept HKE.out (fun h => h)) rfl
    have d0 : we.cell? ⟨bw, 0, none⟩ = some _ := Blk.cell (HBW.out.kept HKE.out (fun h => h)) rfl
    have d1 : we.cell? ⟨bw, 1, none⟩ = some _ := Blk.cell (HBW.out.kept HKE.out (fun h => h)) rfl
    have d2 : we.cell? ⟨bw, 2, none⟩ = some _ := Blk.cell (HBW.out.kept HKE.out (fun h => h)) rfl
    refine Reg.wp_region_plan [⟨0, false, []⟩, ⟨1, false, []⟩, ⟨2, false, []⟩, ⟨3, false, []⟩, ⟨4, false, []⟩, ⟨5, false, []⟩, ⟨6, false, []⟩, ⟨7, false, []⟩, ⟨9, false, []⟩, ⟨10, false, []⟩, ⟨11, false, []⟩, ⟨12, false, []⟩, ⟨13, false, []⟩, ⟨8, true, [10, 11, 12, 13]⟩, ⟨14, true, []⟩, ⟨15, true, []⟩, ⟨16, false, []⟩] rfl (by kernel_rfl) ?_
    rw [hwe]
    clear hwe
    repeat (first | (refine Reg.look rfl rfl rfl (by go_simp; rfl) rfl ?_; go_simp) | (refine Reg.skip rfl rfl rfl ?_; go_simp))
    refine Reg.act rfl ?_
    have HR7 := Lib.hid (k_reply r 0 (r.an, r.ae) we)
    unfold reqW at HR7
    go_wp2_with fail
    refine HR7.out.mono ?_
    rintro e w3 ⟨rfl, hk3⟩
    unfold repW repD
    have HK3 := Lib.hid (HKE.out.trans' hk3)
    clear hk3 HR7
    clear z0 z1 z2 z3 z4 z5 z6 z7 z11 z12
    clear a0 b0 b1 b2 o0 o1' d0 d1 d2
    have z0 : w3.cell? ⟨z, 0, none⟩ = some _ := Blk.cell (HZ.out.kept HK3.out (fun h => h)) rfl
    have z1 : w3.cell? ⟨z, 1, none⟩ = some _ := Blk.cell (HZ.out.kept HK3.out (fun h => h)) rfl
    have z2 : w3.cell? ⟨z, 2, none⟩ = some _ := Blk.cell (HZ.out.kept HK3.out (fun h => h)) rfl
    have z3 : w3.cell? ⟨z, 3, none⟩ = some _ := Blk.cell (HZ.out.kept HK3.out (fun h => h)) rfl
    have z4 : w3.cell? ⟨z, 4, none⟩ = some _ := Blk.cell (HZ.out.kept HK3.out (fun h => h)) rfl
    have z5 : w3.cell? ⟨z, 5, none⟩ = some _ := Blk.cell (HZ.out.kept HK3.out (fun h => h)) rfl
    have z6 : w3.cell? ⟨z, 6, none⟩ = some _ := Blk.cell (HZ.out.kept HK3.out (fun h => h)) rfl
    have z7 : w3.cell? ⟨z, 7, none⟩ = some _ := Blk.cell (HZ.out.kept HK3.out (fun h => h)) rfl
    have z11 : w3.cell? ⟨z, 11, none⟩ = some _ := Blk.cell (HZ.out.kept HK3.out (fun h => h)) rfl
    have z12 : w3.cell? ⟨z, 12, none⟩ = some _ := Blk.cell (HZ.out.kept HK3.out (fun h => h)) rfl
    have a0 : w3.cell? ⟨ba, 0, none⟩ = some _ := Blk.cell (HBA.out.kept HK3.out (fun h => h)) rfl
    have b0 : w3.cell? ⟨bs, 0, none⟩ = some _ := Blk.cell (HBS.out.kept HK3.out (fun h => h)) rfl
    have b1 : w3.cell? ⟨bs, 1, none⟩ = some _ := Blk.cell (HBS.out.kept HK3.out (fun h => h)) rfl
    have b2 : w3.cell? ⟨bs, 2, none⟩ = some _ := Blk.cell (HBS.out.kept HK3.out (fun h => h)) rfl
    have o0 : w3.cell? ⟨bo, 0, none⟩ = some _ := Blk.cell (HBO.out.kept HK3.out (fun h => h)) rfl
    have o1' : w3.cell? ⟨bo, 1, none⟩ = some _ := Blk.cell (HBO.out.kept HK3.out (fun h => h)) rfl
    have d0 : w3.cell? ⟨bw, 0, none⟩ = some _ := Blk.cell (HBW.out.kept HK3.out (fun h => h)) rfl
    have d1 : w3.cell? ⟨bw, 1, none⟩ = some _ := Blk.cell (HBW.out.kept HK3.out (fun h => h)) rfl
    have d2 : w3.cell? ⟨bw, 2, none⟩ = some _ := Blk.cell (HBW.out.kept HK3.out (fun h => h)) rfl
    go_wp2_with fail
    (refine ⟨?anew, ?_⟩; case anew => ((repeat (refine Reg.anew_cons rfl rfl (fun _ => by go_simp) ?_)); exact Reg.anew_nil))
    repeat (first | (refine Reg.look rfl rfl rfl (by go_simp; rfl) rfl ?_; go_simp) | (refine Reg.skip rfl rfl rfl ?_; go_simp))
    refine Reg.act rfl ?_
    go_wp2_with fail
    refine (HEN2.out w3 HK3.out).mono ?_
    rintro e w4 ⟨rfl, hk4⟩
    have hy4 := HY.out.kept (HK3.out.trans' hk4) (fun h => h)
    have HK4 := Lib.hid (HK1.out.trans' (HK3.out.trans' hk4))
    clear hk4 HEN2
    clear z0 z1 z2 z3 z4 z5 z6 z7 z11 z12
    clear a0 b0 b1 b2 o0 o1' d0 d1 d2
    obtain ⟨w5, hst, hb5, hk5⟩ := store_rep (repD r.n 0 (r.an, r.ae)) none none 0 0 0 0 hy4 rfl
    have HST := Lib.hid hst
    have HB5 := Lib.hid hb5
    have HK5y := Lib.hid hk5
    clear hst hb5 hk5
    clear hy4
    unfold repW repD at HST
    go_wp2_with fail
    refine ⟨Reg.anew_nil, ?_⟩
    refine Reg.act rfl ?_
    go_wp2_with (refine wpl_store (by first | rfl | go_simp) 75 _ _ rfl _ _ (by go_simp) (by go_simp) HST.out ?_; go_simp)
    refine ⟨Reg.anew_nil, ?_⟩
    repeat (first | (refine Reg.look rfl rfl rfl (by go_simp; rfl) rfl ?_; go_simp) | (refine Reg.skip rfl rfl rfl ?_; go_simp))
    (refine Reg.done ?_; simp only [Exit.then])
    go_wp2_with fail
    have HK5 : Hid (Kp No w w5) := Lib.hid (HK4.out.trans HK5y.out (fun k hk e => by have := HZW.out; omega))
    refine bodyPost_ret (results_cuD rfl _ _ y _ _ _ _ rfl HB5.out Tryz.underlying75 rfl (by kernel_rfl)) rfl ?_
    rw [HBE.out]
    exact ⟨.slice none 0 0, .slice none 0 0, hv, rfl, HZ0.out.kept HK5.out (fun h => h), Rp.str.slice.more (Rp.str.slice.keptNo HRH.out HK5.out) (fun k h => .inl h), Rp.none_ _ _ _, Rp.none_ _ _ _, ⟨HNU.out.1, rfl, HNU.out.2.2.2.2.2.1, HNU.out.2.2.2.2.2.2.1, Nat.zero_le _⟩, HNU.out, HK5.out.any⟩
set_option maxRecDepth 100000 in
set_option maxHeartbeats 16000000 in
theorem k_Settle (B l : Nat) (LL : LV) (FL : Nat → Prop) (site whole : ReachL) (As Aw : Option Addr) (cs cw : Nat) (o1 o2 : Int) (d : Nat) (L : List RowD) (F : Nat → Prop) (w : World) (U : Nat → Prop) (hD : DkAt w d L F) (hll : L.length ≤ 100) (hL : LAt w l LL FL) (hok : OkL B LL)
    (hs : (Rp.int .i64).slice.R w U [.slice As site.holes.length cs] site.holes) (hw : (Rp.int .i64).slice.R w U [.slice Aw whole.holes.length cw] whole.holes) :
    Calls Tryz.prog 21 #[.pointer (some ⟨d, 0, none⟩), .pointer (some ⟨l, 0, none⟩), reachW site (.slice As site.holes.length cs), .agg #[.int .i64 o1, .int .i64 o2], reachW whole (.slice Aw whole.holes.length cw)] w fun e w' => ∃ A c, e = .returned (.slice A (eachO 1 (settleF LL.ops site o1 o2 whole) L).1.length c) ∧ Rp.rep.slice.R w' (fun k => w.heap.size ≤ k) [.slice A (eachO 1 (settleF LL.ops site o1 o2 whole) L).1.length c] (eachO 1 (settleF LL.ops site o1 o2 whole) L).1 ∧ ∃ F', DkAt w' d (eachO 1 (settleF LL.ops site o1 o2 whole) L).2 F' ∧ Upd F w w' F' ∧ Kp (· = d) w w' := by
  obtain ⟨bs, hbs⟩ : ∃ v, w.heap.size = v := ⟨_, rfl⟩
  obtain ⟨wa, hwa⟩ : ∃ v, w.alloc (.cells #[.int .i64 site.at1, .int .i64 site.at2, .slice As site.holes.length cs] 53) = v := ⟨_, rfl⟩
  have hka : Kp No w wa := by rw [← hwa]; exact (Kp.refl _ _).alloc _
  have hba : Blk wa bs 53 [.int .i64 site.at1, .int .i64 site.at2, .slice As site.holes.length cs] := by rw [← hwa, ← hbs]; exact Blk.new _ _ _
  obtain ⟨bo, hbo⟩ : ∃ v, wa.heap.size = v := ⟨_, rfl⟩
  obtain ⟨wb, hwb⟩ : ∃ v, wa.alloc (.cells #[.int .i64 o1, .int .i64 o2] 42) = v := ⟨_, rfl⟩
  have hkb : Kp No wa wb := by rw [← hwb]; exact (Kp.refl _ _).alloc _
  have hbb : Blk wb bo 42 [.int .i64 o1, .int .i64 o2] := by rw [← hwb, ← hbo]; exact Blk.new _ _ _
  obtain ⟨bw, hbw⟩ : ∃ v, wb.heap.size = v := ⟨_, rfl⟩
  obtain ⟨wc, hwc⟩ : ∃ v, wb.alloc (.cells #[.int .i64 whole.at1, .int .i64 whole.at2, .slice Aw whole.holes.length cw] 53) = v := ⟨_, rfl⟩
  have hkc : Kp No wb wc := by rw [← hwc]; exact (Kp.refl _ _).alloc _
  have hbc : Blk wc bw 53 [.int .i64 whole.at1, .int .i64 whole.at2, .slice Aw whole.holes.length cw] := by rw [← hwc, ← hbw]; exact Blk.new _ _ _
  have HK := Lib.hid ((hka.trans' hkb).trans' hkc)
  have HBS := Lib.hid ((hba.kept hkb (fun h => h)).kept hkc (fun h => h))
  have HBO := Lib.hid (hbb.kept hkc (fun h => h))
  have HBW := Lib.hid hbc
  have HOP := Lib.hid (a_ops l LL FL wc (hL.keptNo HK.out) (by have := hok.len; omega) hok.hashes)
  have HLN := Lib.hid hok.len
  have HD := Lib.hid hD
  have HHS := Lib.hid hs
  have HHW := Lib.hid hw
  obtain ⟨O, hO⟩ : ∃ v, LL.ops = v := ⟨_, rfl⟩
  rw [hO] at HOP HLN ⊢
  unfold reachW
  clear hka hba hkb hbb hkc hbc hL hok hD hs hw hO
  go_enter Tryz.func21, Tryz.ntmps21
  go_upto_region 1 with fail
  try rw [hwa]
  try rw [hbs]
  try rw [hwb]
  try rw [hbo]
  try rw [hwc]
  try rw [hbw]
  clear hwa hwb hwc hbs hbo hbw
  go_wp2_with fail
  refine HOP.out.mono ?_
  rintro e w2 ⟨A2, c2, rfl, hown, hk2⟩
  obtain ⟨ba, hbba⟩ : ∃ v, w2.heap.size = v := ⟨_, rfl⟩
  obtain ⟨w3, hw3⟩ : ∃ v, w2.alloc (.cells #[.slice A2 O.length c2] 37) = v := ⟨_, rfl⟩
  have hk3 : Kp No w2 w3 := by rw [← hw3]; exact (Kp.refl _ _).alloc _
  have hb3 : Blk w3 ba 37 [.slice A2 O.length c2] := by rw [← hw3, ← hbba]; exact Blk.new _ _ _
  have hk03 : Kp No wc w3 := hk2.trans' hk3
  have HK3 := Lib.hid (HK.out.trans' hk03)
  have HEA := Lib.hid (k_each 1 74 #[.pointer (some ⟨ba, 0, none⟩), .pointer (some ⟨bs, 0, none⟩), .pointer (some ⟨bo, 0, none⟩), .pointer (some ⟨bw, 0, none⟩)] (settleF O site o1 o2 whole) d L F w3 (HD.out.keptNo HK3.out) hll (enters_of Tryz.func74 (by kernel_rfl) rfl)
    (fun r z hv T w' _ _ hk _ hb hr _ hn => k_settle1 O A2 c2 site whole As Aw cs cw o1 o2 r z ba bs bo bw hv T w' _ U (Rp.opl.slice.keptNo hown.readFrom (hk3.trans' hk)) (by have := HLN.out; omega) ((Rp.slice (Rp.int .i64)).keptNo HHS.out (HK3.out.trans' hk)) ((Rp.slice (Rp.int .i64)).keptNo HHW.out (HK3.out.trans' hk)) hb hr hn
      (hb3.kept hk (fun h => h)) (HBS.out.kept (hk03.trans' hk) (fun h => h)) (HBO.out.kept (hk03.trans' hk) (fun h => h)) (HBW.out.kept (hk03.trans' hk) (fun h => h))))
  clear hown hk2 hk3 hb3 hk03 HOP
  go_upto_region 2 with fail
  try rw [hw3]
  try rw [hbba]
  clear hw3 hbba
  go_wp2_with fail
  refine HEA.out.mono ?_
  rintro e w4 ⟨A, c, rfl, hrd, F', hd, hu, hkd⟩
  have HKDD := Lib.hid hkd
  have HRD := Lib.hid hrd
  have HDF := Lib.hid hd
  have HU := Lib.hid hu
  clear hrd hd hu HEA
  go_wp2_with fail
  go_ret
  exact ⟨A, c, rfl, Rp.rep.slice.more HRD.out (fun k h => Nat.le_trans HK3.out.size h), F', HDF.out, ⟨HK3.out.any.trans' HU.out.kp, fun k hk => (HU.out.foot k hk).imp id (fun h => Nat.le_trans HK3.out.size h)⟩, HK3.out.any.trans' HKDD.out⟩
end Go.Proofs.YtamfgmlhopjppaaGreat
