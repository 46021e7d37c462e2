/-
  (*Model).put of any bytes.
-/
import Derived.Test.YtamfgmlhopjppaaGJ
import Derived.Test.YtamfgmlhopjppaaH8
namespace Go.Proofs.Ytamfgmlhopjppaa
open Go.RowKit Go.ChangeShapes Go.WideShapes Go.ChangeAt

/-- are these a put's bytes, and was it asked so? -/
def putP (asks : List AskL) (o : OpL) (d : ByteArray) : Bool := decide (d.size ≤ 512 ∧ o.size = (d.size : Int) ∧ o.hashes = hashesB d) && asks.any (putB o d)
set_option maxRecDepth 100000 in
set_option maxHeartbeats 8000000 in
theorem m_put (o : OpL) (d : ByteArray) (A : Option Addr) (c : Nat) (SO : Nat → Prop) (m : Nat) (M : MV) (F : Nat → Prop) (w : World) (hM : MAt w m M F) (hh : Rp.str.slice.R w SO [.slice A o.hashes.length c] o.hashes) :
    Calls Try.prog 37 #[.pointer (some ⟨m, 0, none⟩), opV o (.slice A o.hashes.length c), .string d] w fun e w' => e = .returned (.bool (putP M.asks o d)) ∧ Kp No w w' := by
  obtain ⟨y, hy⟩ : ∃ v, w.heap.size = v := ⟨_, rfl⟩
  obtain ⟨wb, hwb⟩ : ∃ v, w.alloc (.cells #[.int .i64 o.n, .int .i64 o.epoch, .int .i64 o.kind, .int .i64 o.site, .int .i64 o.client, .int .i64 o.seq, .string o.name, .int .i64 o.size, .slice A o.hashes.length c] 58) = v := ⟨_, rfl⟩
  have hkb : Kp No w wb := by rw [← hwb]; exact (Kp.refl _ _).alloc _
  have hbb : Blk wb y 58 [.int .i64 o.n, .int .i64 o.epoch, .int .i64 o.kind, .int .i64 o.site, .int .i64 o.client, .int .i64 o.seq, .string o.name, .int .i64 o.size, .slice A o.hashes.length c] := by rw [← hwb, ← hy]; exact Blk.new w _ _
  obtain ⟨z, hz⟩ : ∃ v, wb.heap.size = v := ⟨_, rfl⟩
  obtain ⟨wa, hwa⟩ : ∃ v, wb.alloc (.cells #[.string d] 9) = v := ⟨_, rfl⟩
  have hkz : Kp No wb wa := by rw [← hwa]; exact (Kp.refl _ _).alloc _
  have hbz : Blk wa z 9 [.string d] := by rw [← hwa, ← hz]; exact Blk.new wb _ _
  have q0 : wa.cell? ⟨z, 0, none⟩ = some _ := Blk.cell hbz rfl
  have HKA := Lib.hid (hkb.trans' hkz)
  have HBY := Lib.hid (hbb.kept hkz (fun z => z))
  have HBZ := Lib.hid hbz
  have HM := Lib.hid hM
  have HH := Lib.hid hh
  unfold opV putP
  by_cases hbig : 512 < d.size
  case pos =>
    have HF : Hid (decide (d.size ≤ 512 ∧ o.size = (d.size : Int) ∧ o.hashes = hashesB d) = false) := Lib.hid (decide_eq_false (fun h => by omega))
    have HMK := Lib.hid (c_make_big d wa hbig)
    clear hkb hbb hkz hbz hM hh hbig
    go_enter Try.func37, Try.ntmps37
    go_wp2_with fail
    refine HMK.out.mono ?_
    rintro e w2 ⟨rfl, hk2⟩
    have HK2 := Lib.hid (HKA.out.trans' hk2)
    clear hk2
    go_wp2_with fail
    go_ret
    exact ⟨by rw [HF.out]; rfl, HK2.out.alloc _⟩
  case neg =>
  have HMK := Lib.hid (c_make d wa (by omega))
  have HSM := Lib.hid hbig
  clear hkb hbb hkz hbz hM hh hbig
  go_enter Try.func37, Try.ntmps37
  go_wp2_with fail
  refine HMK.out.mono ?_
  rintro e w2 ⟨⟨A1, c1, rfl, hown⟩, hk2⟩
  obtain ⟨H, hH⟩ : ∃ H, hashesB d = H := ⟨_, rfl⟩
  obtain ⟨n, hn⟩ : ∃ n : Nat, d.size = n := ⟨_, rfl⟩
  rw [hH] at hown ⊢
  rw [hn] at HSM ⊢
  have HHN := Lib.hid hH
  have HNN := Lib.hid hn
  clear HMK
  go_upto_region 2 with fail
  obtain ⟨x, hx⟩ : ∃ v, w2.heap.size = v := ⟨_, rfl⟩
  obtain ⟨w3, hw3⟩ : ∃ v, w2.alloc (.cells #[.int .i64 (n : Int), .slice A1 H.length c1] 56) = v := ⟨_, rfl⟩
  have hk3 : Kp No w2 w3 := by rw [← hw3]; exact (Kp.refl _ _).alloc _
  have hbx : Blk w3 x 56 [.int .i64 (n : Int), .slice A1 H.length c1] := by rw [← hw3, ← hx]; exact Blk.new w2 _ _
  try rw [hw3]
  try rw [hx]
  have HKB := Lib.hid (hk2.trans' hk3)
  have HK3 := Lib.hid (HKA.out.trans' HKB.out)
  have hby := HBY.out.kept HKB.out (fun z => z)
  have x0 : w3.cell? ⟨x, 0, none⟩ = some _ := Blk.cell hbx rfl
  have x1 : w3.cell? ⟨x, 1, none⟩ = some _ := Blk.cell hbx rfl
  have y7 : w3.cell? ⟨y, 7, none⟩ = some _ := Blk.cell hby rfl
  have y8 : w3.cell? ⟨y, 8, none⟩ = some _ := Blk.cell hby rfl
  have HE := Lib.hid (c_equalS H o.hashes A1 A c1 c w3 _ SO (hown.keptNo hk3).readFrom (Rp.str.slice.keptNo HH.out HK3.out))
  clear hwb hwa hk2 hk3 hbx hby hx hw3 q0 hy hz hown hH hn
  by_cases hs : o.size = (n : Int)
  case neg =>
    have hb : ((n : Int) == o.size) = false := beq_eq_false_iff_ne.2 (fun e => hs e.symm)
    have hbn : ((n : Int) != o.size) = true := by rw [bne, hb]; rfl
    have HF : Hid (decide (d.size ≤ 512 ∧ o.size = (d.size : Int) ∧ o.hashes = hashesB d) = false) := Lib.hid (by rw [HHN.out, HNN.out]; exact decide_eq_false (fun h => hs h.2.1))
    clear hs
    go_wp2_with fail
    go_ret
    exact ⟨by rw [HF.out]; rfl, HK3.out⟩
  have hb : ((n : Int) == o.size) = true := beq_iff_eq.2 hs.symm
  have hbn : ((n : Int) != o.size) = false := by rw [bne, hb]; rfl
  obtain ⟨Q, hQ⟩ : ∃ Q, decide (H = o.hashes) = Q := ⟨_, rfl⟩
  rw [hQ] at HE
  have HF : Hid (decide (d.size ≤ 512 ∧ o.size = (d.size : Int) ∧ o.hashes = hashesB d) = Q) := Lib.hid (by rw [HHN.out, HNN.out, ← hQ]; exact decide_eq_decide.2 ⟨fun h => h.2.2.symm, fun h => ⟨by have := HSM.out; omega, hs, h.symm⟩⟩)
  clear hs hQ
  go_wp2_with fail
  refine HE.out.mono ?_
  rintro e w4 ⟨rfl, hk4⟩
  have HK4 := Lib.hid (HK3.out.trans' hk4)
  have HKC := Lib.hid (HKB.out.trans' hk4)
  clear hk4 x0 x1 y7 y8 HE
  cases Q
  case false =>
    go_wp2_with fail
    go_ret
    exact ⟨by rw [HF.out]; rfl, HK4.out⟩
  case true =>
    obtain ⟨bb, av, S, hin, _⟩ := HM.out.keptNo HK4.out
    obtain ⟨Av, cv, hav⟩ := hin.ask.shape
    have hrd := hin.ask.readFrom
    have k1 : w4.cell? ⟨m, 1, none⟩ = some av := Blk.cell hin.blk rfl
    rw [hav] at k1 hrd
    have HCT := Lib.hid (m_contains M.asks Av cv y z (putB o d) _ w4 hrd (fun a w' hk => m_putf o d (.slice A o.hashes.length c) y z a w' (HBY.out.kept (HKC.out.trans' hk) (fun z => z)) (HBZ.out.kept (HKC.out.trans' hk) (fun z => z))))
    unfold fnV at HCT
    clear hin hav hrd
    go_wp2_with fail
    refine HCT.out.mono ?_
    rintro e w5 ⟨rfl, hk5⟩
    have HK5 := Lib.hid (HK4.out.trans' hk5)
    clear hk5 k1 HCT
    go_wp2_with fail
    go_ret
    exact ⟨by rw [HF.out]; rfl, HK5.out⟩
end Go.Proofs.Ytamfgmlhopjppaa
