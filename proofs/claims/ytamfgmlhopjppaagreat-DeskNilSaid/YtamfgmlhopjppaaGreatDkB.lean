/-
  (*Desk).Agreed: its closure, and itself.
-/
import Derived.Test.YtamfgmlhopjppaaGreatDkA
namespace Go.Proofs.YtamfgmlhopjppaaGreat
open Go.RowKit Go.ChangeShapes Go.WideShapes Go.ChangeAt

set_option maxRecDepth 100000 in
set_option maxHeartbeats 16000000 in
theorem k_agreed1 (index term : Int) (dn : Done3) (hdn : I64 dn.1 ∧ I64 dn.2.1 ∧ I64 dn.2.2) (B l : Nat) (LL : LV) (FL : Nat → Prop) (r : RowD) (z bi bt bd bl : Nat) (hv : Value) (T : Nat → Prop) (w : World) (hL : LAt w l LL FL) (hok : OkL B LL) (hB : B ≤ 800000) (hFz : ∀ k, FL k → k ≠ z)
    (hb : Blk w z 118 (r.cells hv)) (hr : Rp.str.slice.R w T [hv] r.hashes) (hT : ∀ k, T k → k ≠ z) (hn : r.nums)
    (hbi : Blk w bi 3 [.int .i64 index]) (hbt : Blk w bt 3 [.int .i64 term]) (hbd : Blk w bd 44 [.int .i64 dn.1, .int .i64 dn.2.1, .int .i64 dn.2.2]) (hbl : Blk w bl 23 [.pointer (some ⟨l, 0, none⟩)]) :
    Calls Tryz.prog 71 (#[.pointer (some ⟨z, 0, none⟩)] ++ #[.pointer (some ⟨bi, 0, none⟩), .pointer (some ⟨bt, 0, none⟩), .pointer (some ⟨bd, 0, none⟩), .pointer (some ⟨bl, 0, none⟩)]) w (AnsD z w T (agreedF index term dn LL r)) := by
  obtain ⟨y, hy⟩ : ∃ v, w.heap.size = v := ⟨_, rfl⟩
  obtain ⟨w1, hw1⟩ : ∃ v, w.alloc (.cells #[.int .i64 0, .int .i64 0, .int .i64 0, .int .i64 0, .slice none 0 0, .string ⟨#[]⟩, .slice none 0 0] 75) = v := ⟨_, rfl⟩
  have hk1 : Kp No w w1 := by rw [← hw1]; exact (Kp.refl _ _).alloc _
  have HY : Hid (Blk w1 y 75 [.int .i64 0, .int .i64 0, .int .i64 0, .int .i64 0, .slice none 0 0, .string ⟨#[]⟩, .slice none 0 0]) := Lib.hid (by rw [← hw1, ← hy]; exact Blk.new _ _ _)
  have HZ0 := Lib.hid hb
  have HZ := Lib.hid (hb.kept hk1 (fun h => h))
  have HK1 := Lib.hid hk1
  have HRH := Lib.hid (Rp.str.slice.bnd hr)
  have HTZ := Lib.hid hT
  have HNU := Lib.hid hn
  have HZW : Hid (z < w.heap.size ∧ w.heap.size ≤ y ∧ y < w1.heap.size) := Lib.hid ⟨Blk.lt hb, Nat.le_of_eq hy, Blk.lt HY.out⟩
  have HAG := Lib.hid (fun w' (hk : Kp No w1 w') => k_agreed dn hdn B l LL FL r z hv (fun k => T k ∧ k < w.heap.size) w' (hL.keptNo (hk1.trans' hk)) hok hB hFz (HZ.out.kept hk (fun h => h)) (Rp.str.slice.keptNo HRH.out (hk1.trans' hk)) (fun k h => hT k h.1) hn)
  have HBI := Lib.hid (hbi.kept hk1 (fun h => h))
  have HBT := Lib.hid (hbt.kept hk1 (fun h => h))
  have HBD := Lib.hid (hbd.kept hk1 (fun h => h))
  have HBL := Lib.hid (hbl.kept hk1 (fun h => h))
  obtain ⟨q, hq⟩ : ∃ q, agreedF index term dn LL r = q := ⟨_, rfl⟩
  have HQ := Lib.hid hq
  rw [hq]
  unfold agreedF at HQ
  clear hb hr hT hn hL hok hFz hbi hbt hbd hbl hk1 hq hdn
  rw [show (#[Value.pointer (some ⟨z, 0, none⟩)] ++ #[Value.pointer (some ⟨bi, 0, none⟩), .pointer (some ⟨bt, 0, none⟩), .pointer (some ⟨bd, 0, none⟩), .pointer (some ⟨bl, 0, none⟩)] : Array Value) = #[.pointer (some ⟨z, 0, none⟩), .pointer (some ⟨bi, 0, none⟩), .pointer (some ⟨bt, 0, none⟩), .pointer (some ⟨bd, 0, none⟩), .pointer (some ⟨bl, 0, none⟩)] from rfl]
  have z9 : w1.cell? ⟨z, 9, none⟩ = some _ := Blk.cell HZ.out rfl
  have i0 : w1.cell? ⟨bi, 0, none⟩ = some _ := Blk.cell HBI.out rfl
  go_enter Tryz.func71, Tryz.ntmps71
  go_upto_region 1 with fail
  try rw [hw1]
  try rw [hy]
  clear hw1 hy
  by_cases hi : r.index = index
  case neg =>
    have hib : (r.index != index) = true := bne_iff_ne.2 hi
    rw [if_neg hi] at HQ
    have e := HQ.out
    subst e
    clear hi HQ HAG
    go_quiet (fail)
    obtain ⟨wd, hwd⟩ : ∃ v, w1.drewN nq = v := ⟨_, rfl⟩
    try rw [hwd]
    have HKD : Hid (Kp No w1 wd) := Lib.hid (by rw [← hwd]; exact (Kp.refl _ _).drewN _)
    have hyd := HY.out.kept HKD.out (fun h => h)
    obtain ⟨w5, hst, hb5, hk5⟩ := store_rep (repD 0 0 (0, 0)) none none 0 0 0 0 hyd rfl
    have HST := Lib.hid hst
    have HB5 := Lib.hid hb5
    have HK5y := Lib.hid hk5
    clear hst hb5 hk5
    unfold repW repD at HST
    clear hwd hyd z9 i0
    go_wp2_with (refine wpl_store (by first | rfl | go_simp) 75 _ _ rfl _ _ (by go_simp) (by go_simp) HST.out ?_; go_simp)
    have HK5 : Hid (Kp No w w5) := Lib.hid ((HK1.out.trans' HKD.out).trans HK5y.out (fun k hk e => by have := HZW.out; omega))
    exact bodyPost_ret (results_cuD rfl _ _ y _ _ _ _ rfl HB5.out Tryz.underlying75 rfl (by kernel_rfl)) rfl ⟨.slice none 0 0, .slice none 0 0, hv, rfl, HZ0.out.kept HK5.out (fun h => h), Rp.str.slice.more (Rp.str.slice.keptNo HRH.out HK5.out) (fun k h => .inl h.1), Rp.none_ _ _ _, Rp.none_ _ _ _, ⟨rfl, rfl, rfl, rfl, Nat.zero_le _⟩, HNU.out, HK5.out.any⟩
  case pos =>
  have hib : (r.index != index) = false := by rw [hi]; simp
  rw [if_pos hi] at HQ
  clear hi
  go_quiet (fail)
  obtain ⟨wd, hwd⟩ : ∃ v, w1.drewN nq = v := ⟨_, rfl⟩
  try rw [hwd]
  have HKD : Hid (Kp No w1 wd) := Lib.hid (by rw [← hwd]; exact (Kp.refl _ _).drewN _)
  clear z9 i0
  have z10 : wd.cell? ⟨z, 10, none⟩ = some _ := Blk.cell (HZ.out.kept HKD.out (fun h => h)) rfl
  have t0 : wd.cell? ⟨bt, 0, none⟩ = some _ := Blk.cell (HBT.out.kept HKD.out (fun h => h)) rfl
  clear hwd
  go_upto_region 3 with fail
  by_cases ht : r.term = term
  case neg =>
    have htb : (r.term != term) = true := bne_iff_ne.2 ht
    rw [if_neg ht] at HQ
    have e := HQ.out
    subst e
    clear ht HQ HAG
    go_quiet (fail)
    obtain ⟨we, hwe⟩ : ∃ v, wd.drewN nq = v := ⟨_, rfl⟩
    try rw [hwe]
    have HKE : Hid (Kp No w1 we) := Lib.hid (by rw [← hwe]; exact HKD.out.drewN _)
    have HR7 := Lib.hid (k_reply r 222 (0, 0) we)
    unfold reqW at HR7
    clear z10 t0
    have z0 : we.cell? ⟨z, 0, none⟩ = some _ := Blk.cell (HZ.out.kept HKE.out (fun h => h)) rfl
    have z1 : we.cell? ⟨z, 1, none⟩ = some _ := Blk.cell (HZ.out.kept HKE.out (fun h => h)) rfl
    have z2 : we.cell? ⟨z, 2, none⟩ = some _ := Blk.cell (HZ.out.kept HKE.out (fun h => h)) rfl
    have z3 : we.cell? ⟨z, 3, none⟩ = some _ := Blk.cell (HZ.out.kept HKE.out (fun h => h)) rfl
    have z4 : we.cell? ⟨z, 4, none⟩ = some _ := Blk.cell (HZ.out.kept HKE.out (fun h => h)) rfl
    have z5 : we.cell? ⟨z, 5, none⟩ = some _ := Blk.cell (HZ.out.kept HKE.out (fun h => h)) rfl
    have z6 : we.cell? ⟨z, 6, none⟩ = some _ := Blk.cell (HZ.out.kept HKE.out (fun h => h)) rfl
    have z7 : we.cell? ⟨z, 7, none⟩ = some _ := Blk.cell (HZ.out.kept HKE.out (fun h => h)) rfl
    clear hwe
    go_wp2_with fail
    refine HR7.out.mono ?_
    rintro e w3 ⟨rfl, hk3⟩
    unfold repW repD
    have hy3 := HY.out.kept (HKE.out.trans' hk3) (fun h => h)
    have HK3 := Lib.hid (HK1.out.trans' (HKE.out.trans' hk3))
    clear hk3 HR7
    clear z0 z1 z2 z3 z4 z5 z6 z7
    obtain ⟨w5, hst, hb5, hk5⟩ := store_rep (repD r.n 222 (0, 0)) none none 0 0 0 0 hy3 rfl
    have HST := Lib.hid hst
    have HB5 := Lib.hid hb5
    have HK5y := Lib.hid hk5
    clear hst hb5 hk5
    clear hy3
    unfold repW repD at HST
    go_wp2_with (refine wpl_store (by first | rfl | go_simp) 75 _ _ rfl _ _ (by go_simp) (by go_simp) HST.out ?_; go_simp)
    have HK5 : Hid (Kp No w w5) := Lib.hid (HK3.out.trans HK5y.out (fun k hk e => by have := HZW.out; omega))
    exact bodyPost_ret (results_cuD rfl _ _ y _ _ _ _ rfl HB5.out Tryz.underlying75 rfl (by kernel_rfl)) rfl ⟨.slice none 0 0, .slice none 0 0, hv, rfl, HZ0.out.kept HK5.out (fun h => h), Rp.str.slice.more (Rp.str.slice.keptNo HRH.out HK5.out) (fun k h => .inl h.1), Rp.none_ _ _ _, Rp.none_ _ _ _, ⟨HNU.out.1, rfl, rfl, rfl, Nat.zero_le _⟩, HNU.out, HK5.out.any⟩
  case pos =>
  have htb : (r.term != term) = false := by rw [ht]; simp
  rw [if_pos ht] at HQ
  have e := HQ.out
  subst e
  clear ht HQ
  go_quiet (fail)
  obtain ⟨we, hwe⟩ : ∃ v, wd.drewN nq = v := ⟨_, rfl⟩
  try rw [hwe]
  have HKE : Hid (Kp No w1 we) := Lib.hid (by rw [← hwe]; exact HKD.out.drewN _)
  clear z10 t0 hwe
  have e0 : we.cell? ⟨bd, 0, none⟩ = some _ := Blk.cell (HBD.out.kept HKE.out (fun h => h)) rfl
  have e1 : we.cell? ⟨bd, 1, none⟩ = some _ := Blk.cell (HBD.out.kept HKE.out (fun h => h)) rfl
  have e2 : we.cell? ⟨bd, 2, none⟩ = some _ := Blk.cell (HBD.out.kept HKE.out (fun h => h)) rfl
  have l0 : we.cell? ⟨bl, 0, none⟩ = some _ := Blk.cell (HBL.out.kept HKE.out (fun h => h)) rfl
  have hag := HAG.out we HKE.out
  unfold doneV at hag
  have HAG2 := Lib.hid hag
  clear hag HAG
  go_wp2_with fail
  refine HAG2.out.mono ?_
  rintro e w2 ⟨nv, lv, hv2, rfl, hbz, hrh, hrn, hrl, hn1, hn2, hk2⟩
  obtain ⟨N, cn, hNv, _⟩ := id hrn
  obtain ⟨M, cm, hMv, _⟩ := id hrl
  simp only [List.cons.injEq, and_true] at hNv hMv
  subst hNv hMv
  obtain ⟨⟨qr, qb, qn⟩, hq⟩ : ∃ q, agreedD dn LL r = q := ⟨_, rfl⟩
  rw [hq] at hbz hrh hrn hrl hn1 hn2 ⊢
  simp only at hbz hrh hrn hrl hn1 hn2 ⊢
  have hyz : y ≠ z := by have := HZW.out; omega
  have hy2 := (HY.out.kept HKE.out (fun h => h)).kept hk2 hyz
  have HE := Lib.hid hq
  have HBZ := Lib.hid hbz
  have HR1 := Lib.hid hrh
  have HR2 := Lib.hid hrn
  have HR3 := Lib.hid hrl
  have HN1 := Lib.hid hn1
  have HN2 := Lib.hid hn2
  have HK2 := Lib.hid hk2
  obtain ⟨w5, hst, hb5, hk5⟩ := store_rep qr N M qr.names.length cn qr.lost.length cm hy2 rfl
  have HST := Lib.hid hst
  have HB5 := Lib.hid hb5
  have HK5y := Lib.hid hk5
  clear hst hb5 hk5
  unfold repW at HST ⊢
  clear hbz hrh hrn hrl hn1 hn2 hk2 hq hyz hy2 e0 e1 e2 l0 HAG2
  go_wp2_with (refine wpl_store (by first | rfl | go_simp) 75 _ _ rfl _ _ (by go_simp) (by go_simp) HST.out ?_; go_simp)
  have hyl : y < we.heap.size := by have h1 := HZW.out; have h2 := HKE.out.size; omega
  have hwl : w.heap.size ≤ we.heap.size := by have h1 := HK1.out.size; have h2 := HKE.out.size; omega
  have HK5 : Hid (Kp (· = z) w w5) := Lib.hid (((HK1.out.trans' HKE.out).any.trans' HK2.out).trans HK5y.out (fun k hk e => by have := HZW.out; omega))
  refine bodyPost_ret (results_cuD rfl _ _ y _ _ _ _ rfl HB5.out Tryz.underlying75 rfl (by kernel_rfl)) rfl ?_
  rw [HE.out]
  exact ⟨.slice N qr.names.length cn, .slice M qr.lost.length cm, hv2, rfl, HBZ.out.kept HK5y.out (by have := HZW.out; omega), Rp.str.slice.more (Rp.str.slice.kept HR1.out HK5y.out (fun k h _ e => by
      rcases h with h | h
      · have := h.2; have := HZW.out; omega
      · omega)) (fun k h => by
      rcases h with h | h
      · exact .inl h.1
      · exact .inr (by omega)), Rp.str.slice.more (Rp.str.slice.kept HR2.out HK5y.out (fun k h _ e => by omega)) (fun k h => by omega), Rp.opl.slice.more (Rp.opl.slice.kept HR3.out HK5y.out (fun k h _ e => by omega)) (fun k h => by omega), HN1.out, HN2.out, HK5.out⟩
set_option maxRecDepth 100000 in
set_option maxHeartbeats 16000000 in
theorem k_Agreed (index term : Int) (dn : Done3) (hdn : I64 dn.1 ∧ I64 dn.2.1 ∧ I64 dn.2.2) (B l : Nat) (LL : LV) (FL : Nat → Prop) (d : Nat) (L : List RowD) (F : Nat → Prop) (w : World) (hD : DkAt w d L F) (hl : L.length ≤ 100) (hL : LAt w l LL FL) (hok : OkL B LL) (hB : B ≤ 800000) :
    Calls Tryz.prog 20 #[.pointer (some ⟨d, 0, none⟩), .int .i64 index, .int .i64 term, doneV dn, .pointer (some ⟨l, 0, none⟩)] w fun e w' => ∃ A c, e = .returned (.slice A (eachO 0 (agreedF index term dn LL) L).1.length c) ∧ Rp.rep.slice.R w' (fun k => w.heap.size ≤ k) [.slice A (eachO 0 (agreedF index term dn LL) L).1.length c] (eachO 0 (agreedF index term dn LL) L).1 ∧ ∃ F', DkAt w' d (eachO 0 (agreedF index term dn LL) L).2 F' ∧ Upd F w w' F' ∧ Kp (· = d) w w' := by
  obtain ⟨bi, hbi⟩ : ∃ v, w.heap.size = v := ⟨_, rfl⟩
  obtain ⟨wa, hwa⟩ : ∃ v, w.alloc (.cells #[.int .i64 index] 3) = v := ⟨_, rfl⟩
  have hka : Kp No w wa := by rw [← hwa]; exact (Kp.refl _ _).alloc _
  have hba : Blk wa bi 3 [.int .i64 index] := by rw [← hwa, ← hbi]; exact Blk.new _ _ _
  obtain ⟨bt, hbt⟩ : ∃ v, wa.heap.size = v := ⟨_, rfl⟩
  obtain ⟨wb, hwb⟩ : ∃ v, wa.alloc (.cells #[.int .i64 term] 3) = v := ⟨_, rfl⟩
  have hkb : Kp No wa wb := by rw [← hwb]; exact (Kp.refl _ _).alloc _
  have hbb : Blk wb bt 3 [.int .i64 term] := by rw [← hwb, ← hbt]; exact Blk.new _ _ _
  obtain ⟨bd, hbd⟩ : ∃ v, wb.heap.size = v := ⟨_, rfl⟩
  obtain ⟨wc, hwc⟩ : ∃ v, wb.alloc (.cells #[.int .i64 dn.1, .int .i64 dn.2.1, .int .i64 dn.2.2] 44) = v := ⟨_, rfl⟩
  have hkc : Kp No wb wc := by rw [← hwc]; exact (Kp.refl _ _).alloc _
  have hbc : Blk wc bd 44 [.int .i64 dn.1, .int .i64 dn.2.1, .int .i64 dn.2.2] := by rw [← hwc, ← hbd]; exact Blk.new _ _ _
  obtain ⟨bl, hbl⟩ : ∃ v, wc.heap.size = v := ⟨_, rfl⟩
  obtain ⟨we, hwe⟩ : ∃ v, wc.alloc (.cells #[.pointer (some ⟨l, 0, none⟩)] 23) = v := ⟨_, rfl⟩
  have hke : Kp No wc we := by rw [← hwe]; exact (Kp.refl _ _).alloc _
  have hbe : Blk we bl 23 [.pointer (some ⟨l, 0, none⟩)] := by rw [← hwe, ← hbl]; exact Blk.new _ _ _
  have hkk : Kp No w we := ((hka.trans' hkb).trans' hkc).trans' hke
  have HKE := Lib.hid hkk
  have HEA := Lib.hid (k_each 0 71 #[.pointer (some ⟨bi, 0, none⟩), .pointer (some ⟨bt, 0, none⟩), .pointer (some ⟨bd, 0, none⟩), .pointer (some ⟨bl, 0, none⟩)] (agreedF index term dn LL) d L F we (hD.keptNo hkk) hl (enters_of Tryz.func71 (by kernel_rfl) rfl)
    (fun r z hv T w' _ _ hk hz hb hr hT hn => k_agreed1 index term dn hdn B l LL FL r z bi bt bd bl hv T w' (hL.keptNo (hkk.trans' hk)) hok hB (fun k hf e => by have h1 := hL.lt k hf; have h2 := hkk.size; omega) hb hr hT hn
      ((hba.kept ((hkb.trans' hkc).trans' hke) (fun h => h)).kept hk (fun h => h)) ((hbb.kept (hkc.trans' hke) (fun h => h)).kept hk (fun h => h)) ((hbc.kept hke (fun h => h)).kept hk (fun h => h)) (hbe.kept hk (fun h => h))))
  clear hka hba hkb hbb hkc hbc hke hbe hkk hD hL hok
  unfold doneV
  obtain ⟨d1, d2, d3⟩ := dn
  simp only at hwc HEA ⊢
  go_enter Tryz.func20, Tryz.ntmps20
  go_upto_region 1 with fail
  try rw [hwa]
  try rw [hbi]
  try rw [hwb]
  try rw [hbt]
  try rw [hwc]
  try rw [hbd]
  try rw [hwe]
  try rw [hbl]
  clear hwa hwb hwc hwe hbi hbt hbd hbl
  go_wp2_with fail
  refine HEA.out.mono ?_
  rintro e w2 ⟨A, c, rfl, hrd, F', hd, hu, hkd⟩
  have HKD := Lib.hid hkd
  have HRD := Lib.hid hrd
  have HD := Lib.hid hd
  have HU := Lib.hid hu
  clear hrd hd hu HEA
  go_wp2_with fail
  go_ret
  exact ⟨A, c, rfl, Rp.rep.slice.more HRD.out (fun k h => Nat.le_trans HKE.out.size h), F', HD.out, ⟨HKE.out.any.trans' HU.out.kp, fun k hk => (HU.out.foot k hk).imp id (fun h => Nat.le_trans HKE.out.size h)⟩, HKE.out.any.trans' HKD.out⟩
end Go.Proofs.YtamfgmlhopjppaaGreat
