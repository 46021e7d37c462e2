/-
  (*Model).Find of a model that is none.
-/
import Derived.Test.YtbncblnchcmgbaaModD
namespace Go.Proofs.Ytbncblnchcmgbaa
open Go.RowKit Go.ChangeShapes Go.WideShapes Go.ChangeAt

set_option maxRecDepth 100000 in
set_option maxHeartbeats 4000000 in
theorem m_find_nil (p : Int × Int) (nm : ByteArray) (w : World) : Calls Try.prog 31 #[.pointer none, spotV p, .string nm] w fun e w' => ∃ (o : OpL) (A : Option Addr) (n c : Nat), e = .returned (.tuple #[opV o (.slice A n c), .bool false]) ∧ Kp No w w' := by
  have HLV := fun w => Lib.hid (m_live_nil p w)
  unfold spotV at *
  go_enter Try.func31, Try.ntmps31
  go_wp2_with fail
  obtain ⟨at_, hat⟩ : ∃ v, w.heap.size = v := ⟨_, rfl⟩
  obtain ⟨y, hy⟩ : ∃ v, w.heap.size + 1 = v := ⟨_, rfl⟩
  obtain ⟨wa, hwa⟩ : ∃ v, (w.alloc (.cells #[.int .i64 p.1, .int .i64 p.2] 54)).alloc (.cells #[.int .i64 0, .int .i64 0, .int .i64 0, .int .i64 0, .int .i64 0, .int .i64 0, .string { data := #[] }, .int .i64 0, .slice none 0 0] 38) = v := ⟨_, rfl⟩
  have hka : Kp No w wa := by rw [← hwa]; exact ((Kp.refl _ _).alloc _).alloc _
  have hby : Blk wa y 38 [.int .i64 0, .int .i64 0, .int .i64 0, .int .i64 0, .int .i64 0, .int .i64 0, .string { data := #[] }, .int .i64 0, .slice none 0 0] := by
    have h := Blk.new (w.alloc (.cells #[.int .i64 p.1, .int .i64 p.2] 54)) [.int .i64 0, .int .i64 0, .int .i64 0, .int .i64 0, .int .i64 0, .int .i64 0, .string { data := #[] }, .int .i64 0, .slice none 0 0] 38
    rw [← hwa, ← hy]
    simpa using h
  try rw [hwa]
  try rw [hy]
  try rw [hat]
  refine (HLV wa).out.mono ?_
  rintro e w2 ⟨b, rfl, _, hmp, hk2⟩
  obtain ⟨o, A, n, c, B, hlk, hB⟩ := live_look hmp nm
  obtain rfl : B = false := by
    rcases hB with ⟨_, h, _⟩ | ⟨h, _⟩
    · cases h
    · exact h
  unfold opV at hlk
  have hl := hlk w2 (Kp.refl _ _)
  go_upto_region 3 with fail
  obtain ⟨z, hz⟩ : ∃ v, w2.heap.size = v := ⟨_, rfl⟩
  obtain ⟨w3, hw3⟩ : ∃ v, w2.alloc (.cells #[.int .i64 o.n, .int .i64 o.epoch, .int .i64 o.kind, .int .i64 o.site, .int .i64 o.client, .int .i64 o.seq, .string o.name, .int .i64 o.size, .slice A n c] 38) = v := ⟨_, rfl⟩
  have hk3 : Kp No w2 w3 := by rw [← hw3]; exact (Kp.refl _ _).alloc _
  have hbz : Blk w3 z 38 [.int .i64 o.n, .int .i64 o.epoch, .int .i64 o.kind, .int .i64 o.site, .int .i64 o.client, .int .i64 o.seq, .string o.name, .int .i64 o.size, .slice A n c] := by rw [← hw3, ← hz]; exact Blk.new w2 _ _
  try rw [hw3]
  try rw [hz]
  have hby3 := hby.kept (hk2.trans' hk3) (fun z => z)
  have hst := run_store_opAt w3 y 0 o A n c zeroO (.slice none 0 0) (fun k u hu => by
    have := hby3.cell (i := k) (u := u) hu
    simpa using this) (Blk.fr hby3)
  have hb4 := wset_blk (vs := o.cells (.slice A n c)) (o := 0) hby3
  have hk4 : Kp (· = y) w3 (wset w3 y 0 (o.cells (.slice A n c))) := wset_kp
  obtain ⟨w4, hw4⟩ : ∃ v, wset w3 y 0 (o.cells (.slice A n c)) = v := ⟨_, rfl⟩
  rw [hw4] at hst hb4 hk4
  have HLD := Lib.hid (run_load_op hbz)
  have HST := Lib.hid hst
  have HB4 : Hid (Blk w4 y 38 [.int .i64 o.n, .int .i64 o.epoch, .int .i64 o.kind, .int .i64 o.site, .int .i64 o.client, .int .i64 o.seq, .string o.name, .int .i64 o.size, .slice A n c]) := Lib.hid hb4
  have HK4 : Hid (Kp No w w4) := Lib.hid (((hka.trans' hk2).trans' hk3).trans hk4 (fun k hk e => by omega))
  clear hka hby hwa hmp hk2 hlk hB hl hk3 hbz hby3 hst hb4 hk4 hw4 hw3 hz hy hat HLV
  go_wp2_with (first | (refine wpl_load (by first | rfl | go_simp) 38 _ rfl _ _ rfl HLD.out ?_; go_simp) | (refine wpl_store (by first | rfl | go_simp) 38 _ _ rfl _ _ rfl rfl HST.out ?_; go_simp))
  exact bodyPost_ret (results_ctM rfl _ _ y _ _ _ _ rfl HB4.out Try.underlying38 rfl (by kernel_rfl)) rfl ⟨o, A, n, c, rfl, HK4.out⟩
end Go.Proofs.Ytbncblnchcmgbaa
