/-
  (*Model).Judge: a restore without bytes.
-/
import Derived.Test.YtbncblnchcmgbaaModC
namespace Go.Proofs.Ytbncblnchcmgbaa
open Go.RowKit Go.ChangeShapes Go.WideShapes Go.ChangeAt

theorem zero_opM (w : World) : (zeroValue 38).run Try.prog w = .ok (opV zeroO (.slice none 0 0)) w := by
  unfold opV zeroO
  go_simp
  rfl
theorem live_look {w : World} {S : Nat → Prop} {b : Nat} {V : List (ByteArray × OpL)} (h : MapRp Rp.opl w S b Value.string V) (nm : ByteArray) : ∃ (o : OpL) (A : Option Addr) (n c : Nat) (B : Bool),
    (∀ w', Kp No w w' → (Instr.lookup 129 (.map (some b)) (.string nm) true).run Try.prog w' = .ok (.tuple #[opV o (.slice A n c), .bool B]) w') ∧ ((B = true ∧ mget nm V = some o ∧ n = o.hashes.length ∧ Rp.str.slice.R w S [.slice A n c] o.hashes) ∨ (B = false ∧ mget nm V = none)) := by
  obtain ⟨u, B, h3, h4⟩ := h.look_all (P := Try.prog) key_text Try.underlying129 nm zero_opM
  rcases h4 with ⟨rfl, a, cs, h5, rfl, hv, rfl, _, h6⟩ | ⟨rfl, h5, rfl⟩
  · obtain ⟨Av, cv, hv', _⟩ := id h6
    simp only [List.cons.injEq, and_true] at hv'
    subst hv'
    exact ⟨a, Av, _, cv, true, h3, .inl ⟨rfl, h5, rfl, h6⟩⟩
  · exact ⟨zeroO, none, 0, 0, false, h3, .inr ⟨rfl, h5⟩⟩
def putOk (M : MV) (o : OpL) : Bool := decide (o.size = 0 ∧ o.hashes = []) && M.asks.any (putB o ⟨#[]⟩)
def judge4 (M : MV) (p : Int × Int) (nm : ByteArray) : Int :=
  if (pathM M p).isSome = false then 51 else match mget nm (liveL1 (pathD M p)) with
    | none => 200
    | some o => if putOk M o = true then 0 else 200
set_option maxRecDepth 100000 in
theorem m_judge_nil (a : AskL) (x0 x1 x2 x3 : Int) (A B : Option Addr) (n c n2 c2 : Nat) (d : ByteArray) (w : World) : Calls Try.prog 25 #[.pointer none, askV a, .agg #[.int .i64 x0, .int .i64 x1, .int .i64 x2, .int .i64 x3, .slice A n c, .string d, .slice B n2 c2]] w fun e w' => e = .returned (.int .i64 2) ∧ Kp No w w' := by
  unfold askV
  have HK : Hid (Kp No w ((w.alloc (.cells #[.int .i64 a.kind, .int .i64 a.client, .int .i64 a.seq, .string a.name, .string a.data, .int .i64 a.mode, .int .i64 a.lag] 52)).alloc (.cells #[.int .i64 x0, .int .i64 x1, .int .i64 x2, .int .i64 x3, .slice A n c, .string d, .slice B n2 c2] 56))) := Lib.hid (((Kp.refl _ _).alloc _).alloc _)
  go_enter Try.func25, Try.ntmps25
  go_wp2_with fail
  go_ret
  exact ⟨rfl, HK.out⟩
set_option maxRecDepth 100000 in
set_option maxHeartbeats 16000000 in
theorem m_judge4 (a : AskL) (hk : a.kind = 4) (p : Int × Int) (m : Nat) (M : MV) (F : Nat → Prop) (w : World) (hM : MAt w m M F) (hok : OkM M) :
    Calls Try.prog 25 #[.pointer (some ⟨m, 0, none⟩), askV a, .agg #[.int .i64 0, .int .i64 0, .int .i64 p.1, .int .i64 p.2, .slice none 0 0, .string ⟨#[]⟩, .slice none 0 0]] w fun e w' => e = .returned (.int .i64 (judge4 M p a.name)) ∧ Kp No w w' := by
  obtain ⟨y, hy⟩ : ∃ v, w.heap.size = v := ⟨_, rfl⟩
  obtain ⟨wb, hwb⟩ : ∃ v, w.alloc (.cells #[.int .i64 a.kind, .int .i64 a.client, .int .i64 a.seq, .string a.name, .string a.data, .int .i64 a.mode, .int .i64 a.lag] 52) = v := ⟨_, rfl⟩
  have hkb : Kp No w wb := by rw [← hwb]; exact (Kp.refl _ _).alloc _
  have hbb : Blk wb y 52 [.int .i64 a.kind, .int .i64 a.client, .int .i64 a.seq, .string a.name, .string a.data, .int .i64 a.mode, .int .i64 a.lag] := by rw [← hwb, ← hy]; exact Blk.new w _ _
  obtain ⟨x, hx⟩ : ∃ v, wb.heap.size = v := ⟨_, rfl⟩
  obtain ⟨wa, hwa⟩ : ∃ v, wb.alloc (.cells #[.int .i64 0, .int .i64 0, .int .i64 p.1, .int .i64 p.2, .slice none 0 0, .string ⟨#[]⟩, .slice none 0 0] 56) = v := ⟨_, rfl⟩
  have hkx : Kp No wb wa := by rw [← hwa]; exact (Kp.refl _ _).alloc _
  have hbx : Blk wa x 56 [.int .i64 0, .int .i64 0, .int .i64 p.1, .int .i64 p.2, .slice none 0 0, .string ⟨#[]⟩, .slice none 0 0] := by rw [← hwa, ← hx]; exact Blk.new wb _ _
  have hby := hbb.kept hkx (fun z => z)
  have x1 : wa.cell? ⟨x, 1, none⟩ = some _ := Blk.cell hbx rfl
  have x2 : wa.cell? ⟨x, 2, none⟩ = some _ := Blk.cell hbx rfl
  have x3 : wa.cell? ⟨x, 3, none⟩ = some _ := Blk.cell hbx rfl
  have y0 : wa.cell? ⟨y, 0, none⟩ = some _ := Blk.cell hby rfl
  rw [hk] at y0
  have HKA := Lib.hid (hkb.trans' hkx)
  have HBY := Lib.hid hby
  have HBX := Lib.hid hbx
  have HM := Lib.hid hM
  have HLV := Lib.hid (m_live p m M F wa (hM.keptNo (hkb.trans' hkx)) hok)
  obtain ⟨R, hR⟩ : ∃ R, judge4 M p a.name = R := ⟨_, rfl⟩
  rw [hR]
  have HR := Lib.hid hR
  have HK4 := Lib.hid hk
  unfold spotV at HLV
  unfold askV
  clear hkb hbb hkx hbx hby hM hok hR hk
  go_enter Try.func25, Try.ntmps25
  go_wp2_with fail
  refine HLV.out.mono ?_
  rintro e w2 ⟨b, rfl, hbw, hmp, hk2⟩
  obtain ⟨o, A, n, c, IS, hlk, his⟩ := live_look hmp a.name
  unfold opV at hlk
  have hl := hlk w2 (Kp.refl _ _)
  have hby := HBY.out.kept hk2 (fun z => z)
  have y3 : w2.cell? ⟨y, 3, none⟩ = some _ := Blk.cell hby rfl
  have HIS := Lib.hid his
  have HK2 := Lib.hid (HKA.out.trans' hk2)
  have HK2a := Lib.hid hk2
  clear hwb hwa hy hx x1 x2 x3 y0 hbw hmp hk2 hlk his hby HLV
  go_upto_region 8 with fail
  obtain ⟨z, hz⟩ : ∃ v, w2.heap.size = v := ⟨_, rfl⟩
  obtain ⟨w3, hw3⟩ : ∃ v, w2.alloc (.cells #[.int .i64 o.n, .int .i64 o.epoch, .int .i64 o.kind, .int .i64 o.site, .int .i64 o.client, .int .i64 o.seq, .string o.name, .int .i64 o.size, .slice A n c] 38) = v := ⟨_, rfl⟩
  have hk3 : Kp No w2 w3 := by rw [← hw3]; exact (Kp.refl _ _).alloc _
  have hbz : Blk w3 z 38 [.int .i64 o.n, .int .i64 o.epoch, .int .i64 o.kind, .int .i64 o.site, .int .i64 o.client, .int .i64 o.seq, .string o.name, .int .i64 o.size, .slice A n c] := by rw [← hw3, ← hz]; exact Blk.new w2 _ _
  try rw [hw3]
  try rw [hz]
  have hby := HBY.out.kept (HK2a.out.trans' hk3) (fun z => z)
  have hbx := HBX.out.kept (HK2a.out.trans' hk3) (fun z => z)
  have y0 : w3.cell? ⟨y, 0, none⟩ = some _ := Blk.cell hby rfl
  have x5 : w3.cell? ⟨x, 5, none⟩ = some _ := Blk.cell hbx rfl
  rw [HK4.out] at y0
  have HLD := Lib.hid (run_load_op hbz)
  have HK3 := Lib.hid (HK2.out.trans' hk3)
  have HK3a := Lib.hid hk3
  clear hby hbx hbz hk3 hw3 hz hl y3
  obtain ⟨TB, hTB⟩ : ∃ TB, (pathM M p).isSome = TB := ⟨_, rfl⟩
  have HTB := Lib.hid hTB
  rw [hTB]
  clear hTB
  cases TB
  case false =>
    have hR : R = 51 := by rw [← HR.out]; unfold judge4; rw [if_pos HTB.out]
    subst hR
    go_wp2_with fail
    go_ret
    exact ⟨rfl, HK3.out⟩
  case true =>
    have HR2 : Hid (R = match mget a.name (liveL1 (pathD M p)) with
      | none => 200
      | some o => if putOk M o = true then 0 else 200) := Lib.hid (by rw [← HR.out]; unfold judge4; rw [if_neg (by rw [HTB.out]; simp)])
    cases IS
    case false =>
      have hR : R = 200 := by
        rcases HIS.out with h | ⟨_, h⟩
        · cases h.1
        · rw [HR2.out, h]
      subst hR
      have HD := fun w => Lib.hid (m_denied false w)
      go_wp2_with fail
      refine (HD _).out.mono ?_
      rintro e w4 ⟨rfl, hk4⟩
      have HK5 := Lib.hid (HK3.out.trans' hk4)
      clear hk4
      go_wp2_with fail
      go_ret
      exact ⟨rfl, HK5.out⟩
    case true =>
      obtain ⟨hg, rfl, hr⟩ : mget a.name (liveL1 (pathD M p)) = some o ∧ n = o.hashes.length ∧ Rp.str.slice.R w2 (fun k => wa.heap.size ≤ k ∧ k ≠ b) [.slice A n c] o.hashes := by
        rcases HIS.out with h | h
        · exact h.2
        · cases h.1
      have hR : R = if putOk M o = true then 0 else 200 := by rw [HR2.out, hg]
      obtain ⟨Q, hQ⟩ : ∃ Q, putOk M o = Q := ⟨_, rfl⟩
      rw [hQ] at hR
      have hput := m_put0 o A c _ m M F w3 (HM.out.keptNo HK3.out) (Rp.str.slice.keptNo hr HK3a.out)
      have hput2 : Calls Try.prog 62 #[.pointer (some ⟨m, 0, none⟩), opV o (.slice A o.hashes.length c), .string ⟨#[]⟩] w3 fun e w' => e = .returned (.bool Q) ∧ Kp No w3 w' := by rw [← hQ]; exact hput
      have HPUT := Lib.hid hput2
      have HRR := Lib.hid hR
      clear hg hr hput hput2 hQ hR
      go_wp2_with (refine wpl_load (by first | rfl | go_simp) 38 _ rfl _ _ rfl HLD.out ?_; go_simp)
      refine HPUT.out.mono ?_
      rintro e w4 ⟨rfl, hk4⟩
      have HK5 := Lib.hid (HK3.out.trans' hk4)
      have hd := m_denied Q w4
      rw [← HRR.out] at hd
      have HD := Lib.hid hd
      clear hk4 y0 x5 hd
      go_wp2_with fail
      refine HD.out.mono ?_
      rintro e w5 ⟨rfl, hk5⟩
      have HK6 := Lib.hid (HK5.out.trans' hk5)
      clear hk5
      go_wp2_with fail
      go_ret
      exact ⟨rfl, HK6.out⟩
end Go.Proofs.Ytbncblnchcmgbaa
