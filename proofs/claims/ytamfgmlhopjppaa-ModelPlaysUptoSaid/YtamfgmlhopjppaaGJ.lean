/-
  Put together: ModC, ModD.
-/
import Derived.Test.YtamfgmlhopjppaaGF2
import Derived.OwnWalk
namespace Go.Proofs.Ytamfgmlhopjppaa
section
open Go.RowKit Go.ChangeShapes Go.WideShapes Go.ChangeAt

theorem results_ctM {P : Program} {fn : Func} {p u : Tmp} {ty : TypeId} (h : fn.results = #[.cell p ty, .tmp u]) (tmps : Array Value) (w : World) (g : Nat) (t : TypeId) (cs : Array Value) (fr : Nat × Nat) (d : TypeDesc)
    (hp : tmps.getD p undef = .pointer (some ⟨g, 0, none⟩)) (hg : w.heap[g]? = some (.cells cs t fr)) (hu : P.underlying ty = some d) (hd : (match d with | .struct _ | .array _ _ => true | _ => false) = true) (hi : (P.info? ty).map (·.size) = some cs.size) :
    (results fn tmps).run P w = .ok (.tuple #[.agg cs, tmps.getD u undef]) w := by
  rw [results_cell_tmp h, hp]
  simp [asAddr, run_loadVar_row w g t ty cs fr d hg hu hd hi, Result.andThen]
set_option maxRecDepth 100000 in
theorem m_count0 (w : World) : Calls Try.prog 68 #[.int .i64 0] w fun e w' => e = .returned (.int .i64 0) ∧ Kp No w w' := by
  go_enter Try.func68, Try.ntmps68
  go_wp2_with fail
  go_ret
  exact ⟨rfl, Kp.refl _ _⟩
set_option maxRecDepth 100000 in
theorem m_cut0 (w : World) : Calls Try.prog 63 #[.string ⟨#[]⟩] w fun e w' => ∃ A c, e = .returned (.slice A 0 c) ∧ Kp No w w' := by
  have HC := Lib.hid (m_count0 w)
  go_enter Try.func63, Try.ntmps63
  go_wp2_with fail
  refine HC.out.mono ?_
  rintro e w1 ⟨rfl, hk1⟩
  obtain ⟨w2, hmk, hown, hk2⟩ := own_make Rp.str w1 No 0 38 9 el_strL .i64 .i64 0 (by decide) (by decide) (Nat.zero_le _)
  have hmk2 : (Instr.makeSlice 38 (.int .i64 0) (.int .i64 0)).run Try.prog w1 = .ok (.slice (some ⟨w1.heap.size, 0, none⟩) 0 0) w2 := hmk
  have HK2 := Lib.hid (hk1.trans' hk2)
  clear hmk hown hk1 hk2
  go_wp2_with fail
  clear hmk2
  go_loopw [0, 3] (fun dv ov wr => dv = .string ⟨#[]⟩ ∧ ov = .slice (some ⟨w1.heap.size, 0, none⟩) 0 0 ∧ wr = w2) (fun _ _ _ => 0)
  case atStart => exact ⟨rfl, rfl, rfl⟩
  case round =>
    obtain ⟨rfl, rfl, rfl⟩ := hrel
    go_wp2_with fail
    go_ret
    exact ⟨_, _, rfl, HK2.out⟩
set_option maxRecDepth 100000 in
theorem m_make0 (w : World) : Calls Try.prog 49 #[.string ⟨#[]⟩] w fun e w' => e = .returned (.tuple #[.agg #[.int .i64 0, .slice none 0 0], .int .i64 0]) ∧ Kp No w w' := by
  go_enter Try.func49, Try.ntmps49
  go_wp2_with fail
  obtain ⟨x, hx⟩ : ∃ v, w.heap.size = v := ⟨_, rfl⟩
  obtain ⟨wa, hwa⟩ : ∃ v, (w.alloc (.cells #[.int .i64 0, .slice none 0 0] 56)).alloc (.cells #[.int .i64 0, .slice none 0 0] 56) = v := ⟨_, rfl⟩
  have hk : Kp No w wa := by rw [← hwa]; exact ((Kp.refl _ _).alloc _).alloc _
  have hb1 : Blk wa x 56 [.int .i64 0, .slice none 0 0] := by rw [← hwa, ← hx]; exact (Blk.new w _ _).kept (S := No) ((Kp.refl _ _).alloc _) (fun x => x)
  have hb2 : Blk wa (x + 1) 56 [.int .i64 0, .slice none 0 0] := by
    have h := Blk.new (w.alloc (.cells #[.int .i64 0, .slice none 0 0] 56)) [.int .i64 0, .slice none 0 0] 56
    rw [← hwa, ← hx]
    simpa using h
  rw [hwa, hx]
  refine (m_cut0 wa).mono ?_
  rintro e w2 ⟨A, c, rfl, hk2⟩
  have hc1 := hb1.kept hk2 (fun z => z)
  have hc2 := hb2.kept hk2 (fun z => z)
  have HK := Lib.hid (hk.trans' hk2)
  have HB1 := Lib.hid hc1
  have HXW : Hid (w.heap.size ≤ x) := Lib.hid (Nat.le_of_eq hx)
  have x0 : w2.cell? ⟨x + 1, 0, none⟩ = some _ := Blk.cell hc2 rfl
  have x1 : w2.cell? ⟨x + 1, 1, none⟩ = some _ := Blk.cell hc2 rfl
  have y0 : w2.cell? ⟨x, 0, none⟩ = some _ := Blk.cell hc1 rfl
  have y1 : w2.cell? ⟨x, 1, none⟩ = some _ := Blk.cell hc1 rfl
  have f0 := Blk.fr hc1 0
  have f1 := Blk.fr hc1 1
  clear hk hb1 hb2 hk2 hc1 hc2 hwa hx
  go_wp2_with fail
  go_loopw [17] (fun iv wr => iv = .int .i64 0 ∧ wr = w2) (fun _ _ => 0)
  case atStart => exact ⟨rfl, rfl⟩
  case round =>
    obtain ⟨rfl, rfl⟩ := hrel
    go_wp2_with fail
    have hfin : Blk ((wr.setCell ⟨x, 0, none⟩ (.int .i64 0)).setCell ⟨x, 1, none⟩ (.slice none 0 0)) x 56 [.int .i64 0, .slice none 0 0] := Blk.set (Blk.set HB1.out 0 (.int .i64 0)) 1 (.slice none 0 0)
    have hkf : Kp (· = x) wr ((wr.setCell ⟨x, 0, none⟩ (.int .i64 0)).setCell ⟨x, 1, none⟩ (.slice none 0 0)) := ((Kp.refl (· = x) wr).setCell (p := ⟨x, 0, none⟩) (fun _ => rfl) _).setCell (p := ⟨x, 1, none⟩) (fun _ => rfl) _
    exact bodyPost_ret (results_ctM rfl _ _ x _ _ _ _ rfl hfin Try.underlying56 rfl (by kernel_rfl)) rfl ⟨rfl, HK.out.trans hkf (fun k hk e => by have := HXW.out; omega)⟩
set_option maxRecDepth 100000 in
set_option maxHeartbeats 8000000 in
theorem m_put0 (o : OpL) (A : Option Addr) (c : Nat) (SO : Nat → Prop) (m : Nat) (M : MV) (F : Nat → Prop) (w : World) (hM : MAt w m M F) (hh : Rp.str.slice.R w SO [.slice A o.hashes.length c] o.hashes) :
    Calls Try.prog 37 #[.pointer (some ⟨m, 0, none⟩), opV o (.slice A o.hashes.length c), .string ⟨#[]⟩] w fun e w' => e = .returned (.bool (decide (o.size = 0 ∧ o.hashes = []) && M.asks.any (putB o ⟨#[]⟩))) ∧ Kp No w w' := by
  obtain ⟨y, hy⟩ : ∃ v, w.heap.size = v := ⟨_, rfl⟩
  obtain ⟨wb, hwb⟩ : ∃ v, w.alloc (.cells #[.int .i64 o.n, .int .i64 o.epoch, .int .i64 o.kind, .int .i64 o.site, .int .i64 o.client, .int .i64 o.seq, .string o.name, .int .i64 o.size, .slice A o.hashes.length c] 58) = v := ⟨_, rfl⟩
  have hkb : Kp No w wb := by rw [← hwb]; exact (Kp.refl _ _).alloc _
  have hbb : Blk wb y 58 [.int .i64 o.n, .int .i64 o.epoch, .int .i64 o.kind, .int .i64 o.site, .int .i64 o.client, .int .i64 o.seq, .string o.name, .int .i64 o.size, .slice A o.hashes.length c] := by rw [← hwb, ← hy]; exact Blk.new w _ _
  obtain ⟨z, hz⟩ : ∃ v, wb.heap.size = v := ⟨_, rfl⟩
  obtain ⟨wa, hwa⟩ : ∃ v, wb.alloc (.cells #[.string ⟨#[]⟩] 9) = v := ⟨_, rfl⟩
  have hkz : Kp No wb wa := by rw [← hwa]; exact (Kp.refl _ _).alloc _
  have hbz : Blk wa z 9 [.string ⟨#[]⟩] := by rw [← hwa, ← hz]; exact Blk.new wb _ _
  have q0 : wa.cell? ⟨z, 0, none⟩ = some _ := Blk.cell hbz rfl
  have HKA := Lib.hid (hkb.trans' hkz)
  have HBY := Lib.hid (hbb.kept hkz (fun z => z))
  have HBZ := Lib.hid hbz
  have HM := Lib.hid hM
  have HH := Lib.hid hh
  unfold opV
  clear hkb hbb hkz hbz hM hh
  go_enter Try.func37, Try.ntmps37
  go_wp2_with fail
  refine (m_make0 wa).mono ?_
  rintro e w2 ⟨rfl, hk2⟩
  go_upto_region 2 with fail
  obtain ⟨x, hx⟩ : ∃ v, w2.heap.size = v := ⟨_, rfl⟩
  obtain ⟨w3, hw3⟩ : ∃ v, w2.alloc (.cells #[.int .i64 0, .slice none 0 0] 56) = v := ⟨_, rfl⟩
  have hk3 : Kp No w2 w3 := by rw [← hw3]; exact (Kp.refl _ _).alloc _
  have hbx : Blk w3 x 56 [.int .i64 0, .slice none 0 0] := by rw [← hw3, ← hx]; exact Blk.new w2 _ _
  rw [hw3, hx]
  have HKB := Lib.hid (hk2.trans' hk3)
  have HK3 := Lib.hid (HKA.out.trans' HKB.out)
  have hby := HBY.out.kept HKB.out (fun z => z)
  have x0 : w3.cell? ⟨x, 0, none⟩ = some _ := Blk.cell hbx rfl
  have x1 : w3.cell? ⟨x, 1, none⟩ = some _ := Blk.cell hbx rfl
  have y7 : w3.cell? ⟨y, 7, none⟩ = some _ := Blk.cell hby rfl
  have y8 : w3.cell? ⟨y, 8, none⟩ = some _ := Blk.cell hby rfl
  have HE := Lib.hid (c_equalS [] o.hashes none A 0 c w3 No SO (Rp.none_ _ _ _) (Rp.str.slice.keptNo HH.out HK3.out))
  clear hwb hwa hk2 hk3 hbx hby hx hw3 q0 hy hz
  by_cases hs : o.size = 0
  case neg =>
    have hb : ((0 : Int) == o.size) = false := beq_eq_false_iff_ne.2 (fun e => hs e.symm)
    have hbn : ((0 : Int) != o.size) = true := by rw [bne, hb]; rfl
    have HF : Hid (decide (o.size = 0 ∧ o.hashes = []) = false) := Lib.hid (decide_eq_false (fun h => hs h.1))
    clear hs
    go_wp2_with fail
    go_ret
    exact ⟨by rw [HF.out]; rfl, HK3.out⟩
  have hb : ((0 : Int) == o.size) = true := beq_iff_eq.2 hs.symm
  have hbn : ((0 : Int) != o.size) = false := by rw [bne, hb]; rfl
  obtain ⟨Q, hQ⟩ : ∃ Q, decide ([] = o.hashes) = Q := ⟨_, rfl⟩
  rw [hQ] at HE
  have HF : Hid (decide (o.size = 0 ∧ o.hashes = []) = Q) := Lib.hid (by rw [← hQ]; exact decide_eq_decide.2 ⟨fun h => h.2.symm, fun h => ⟨hs, h.symm⟩⟩)
  clear hs hQ
  go_wp2_with fail
  refine HE.out.mono ?_
  rintro e w4 ⟨rfl, hk4⟩
  have HK4 := Lib.hid (HK3.out.trans' hk4)
  have HKC := Lib.hid (HKB.out.trans' hk4)
  clear hk4 x0 x1 y7 y8 HE
  cases Q
  case false =>
    go_wp2_with fail
    go_ret
    exact ⟨by rw [HF.out]; rfl, HK4.out⟩
  case true =>
    obtain ⟨bb, av, S, hin, _⟩ := HM.out.keptNo HK4.out
    obtain ⟨Av, cv, hav⟩ := hin.ask.shape
    have hrd := hin.ask.readFrom
    have k1 : w4.cell? ⟨m, 1, none⟩ = some av := Blk.cell hin.blk rfl
    rw [hav] at k1 hrd
    have HCT := Lib.hid (m_contains M.asks Av cv y z (putB o ⟨#[]⟩) _ w4 hrd (fun a w' hk => m_putf o ⟨#[]⟩ (.slice A o.hashes.length c) y z a w' (HBY.out.kept (HKC.out.trans' hk) (fun z => z)) (HBZ.out.kept (HKC.out.trans' hk) (fun z => z))))
    unfold fnV at HCT
    clear hin hav hrd
    go_wp2_with fail
    refine HCT.out.mono ?_
    rintro e w5 ⟨rfl, hk5⟩
    have HK5 := Lib.hid (HK4.out.trans' hk5)
    clear hk5 k1 HCT
    go_wp2_with fail
    go_ret
    exact ⟨by rw [HF.out]; rfl, HK5.out⟩
end

section
open Go.RowKit Go.ChangeShapes Go.WideShapes Go.ChangeAt

theorem zero_opM (w : World) : (zeroValue 58).run Try.prog w = .ok (opV zeroO (.slice none 0 0)) w := by
  unfold opV zeroO
  go_simp
  rfl
theorem live_look {w : World} {S : Nat → Prop} {b : Nat} {V : List (ByteArray × OpL)} (h : MapRp Rp.opl w S b Value.string V) (nm : ByteArray) : ∃ (o : OpL) (A : Option Addr) (n c : Nat) (B : Bool),
    (∀ w', Kp No w w' → (Instr.lookup 80 (.map (some b)) (.string nm) true).run Try.prog w' = .ok (.tuple #[opV o (.slice A n c), .bool B]) w') ∧ ((B = true ∧ mget nm V = some o ∧ n = o.hashes.length ∧ Rp.str.slice.R w S [.slice A n c] o.hashes) ∨ (B = false ∧ mget nm V = none)) := by
  obtain ⟨u, B, h3, h4⟩ := h.look_all (P := Try.prog) key_text Try.underlying80 nm zero_opM
  rcases h4 with ⟨rfl, a, cs, h5, rfl, hv, rfl, _, h6⟩ | ⟨rfl, h5, rfl⟩
  · obtain ⟨Av, cv, hv', _⟩ := id h6
    simp only [List.cons.injEq, and_true] at hv'
    subst hv'
    exact ⟨a, Av, _, cv, true, h3, .inl ⟨rfl, h5, rfl, h6⟩⟩
  · exact ⟨zeroO, none, 0, 0, false, h3, .inr ⟨rfl, h5⟩⟩
def putOk (M : MV) (o : OpL) : Bool := decide (o.size = 0 ∧ o.hashes = []) && M.asks.any (putB o ⟨#[]⟩)
def judge4 (M : MV) (p : Int × Int) (nm : ByteArray) : Int :=
  if (pathM M p).isSome = false then 51 else match mget nm (liveL1 (pathD M p)) with
    | none => 200
    | some o => if putOk M o = true then 0 else 200
set_option maxRecDepth 100000 in
theorem m_judge_nil (a : AskL) (x0 x1 x2 x3 : Int) (A B : Option Addr) (n c n2 c2 : Nat) (d : ByteArray) (w : World) : Calls Try.prog 12 #[.pointer none, askV a, .agg #[.int .i64 x0, .int .i64 x1, .int .i64 x2, .int .i64 x3, .slice A n c, .string d, .slice B n2 c2]] w fun e w' => e = .returned (.int .i64 2) ∧ Kp No w w' := by
  unfold askV
  have HK : Hid (Kp No w ((w.alloc (.cells #[.int .i64 a.kind, .int .i64 a.client, .int .i64 a.seq, .string a.name, .string a.data, .int .i64 a.mode, .int .i64 a.lag] 34)).alloc (.cells #[.int .i64 x0, .int .i64 x1, .int .i64 x2, .int .i64 x3, .slice A n c, .string d, .slice B n2 c2] 40))) := Lib.hid (((Kp.refl _ _).alloc _).alloc _)
  go_enter Try.func12, Try.ntmps12
  go_wp2_with fail
  go_ret
  exact ⟨rfl, HK.out⟩
set_option maxRecDepth 100000 in
set_option maxHeartbeats 16000000 in
theorem m_judge4 (a : AskL) (hk : a.kind = 4) (p : Int × Int) (m : Nat) (M : MV) (F : Nat → Prop) (w : World) (hM : MAt w m M F) (hok : OkM M) :
    Calls Try.prog 12 #[.pointer (some ⟨m, 0, none⟩), askV a, .agg #[.int .i64 0, .int .i64 0, .int .i64 p.1, .int .i64 p.2, .slice none 0 0, .string ⟨#[]⟩, .slice none 0 0]] w fun e w' => e = .returned (.int .i64 (judge4 M p a.name)) ∧ Kp No w w' := by
  obtain ⟨y, hy⟩ : ∃ v, w.heap.size = v := ⟨_, rfl⟩
  obtain ⟨wb, hwb⟩ : ∃ v, w.alloc (.cells #[.int .i64 a.kind, .int .i64 a.client, .int .i64 a.seq, .string a.name, .string a.data, .int .i64 a.mode, .int .i64 a.lag] 34) = v := ⟨_, rfl⟩
  have hkb : Kp No w wb := by rw [← hwb]; exact (Kp.refl _ _).alloc _
  have hbb : Blk wb y 34 [.int .i64 a.kind, .int .i64 a.client, .int .i64 a.seq, .string a.name, .string a.data, .int .i64 a.mode, .int .i64 a.lag] := by rw [← hwb, ← hy]; exact Blk.new w _ _
  obtain ⟨x, hx⟩ : ∃ v, wb.heap.size = v := ⟨_, rfl⟩
  obtain ⟨wa, hwa⟩ : ∃ v, wb.alloc (.cells #[.int .i64 0, .int .i64 0, .int .i64 p.1, .int .i64 p.2, .slice none 0 0, .string ⟨#[]⟩, .slice none 0 0] 40) = v := ⟨_, rfl⟩
  have hkx : Kp No wb wa := by rw [← hwa]; exact (Kp.refl _ _).alloc _
  have hbx : Blk wa x 40 [.int .i64 0, .int .i64 0, .int .i64 p.1, .int .i64 p.2, .slice none 0 0, .string ⟨#[]⟩, .slice none 0 0] := by rw [← hwa, ← hx]; exact Blk.new wb _ _
  have hby := hbb.kept hkx (fun z => z)
  have x1 : wa.cell? ⟨x, 1, none⟩ = some _ := Blk.cell hbx rfl
  have x2 : wa.cell? ⟨x, 2, none⟩ = some _ := Blk.cell hbx rfl
  have x3 : wa.cell? ⟨x, 3, none⟩ = some _ := Blk.cell hbx rfl
  have y0 : wa.cell? ⟨y, 0, none⟩ = some _ := Blk.cell hby rfl
  rw [hk] at y0
  have HKA := Lib.hid (hkb.trans' hkx)
  have HBY := Lib.hid hby
  have HBX := Lib.hid hbx
  have HM := Lib.hid hM
  have HLV := Lib.hid (m_live p m M F wa (hM.keptNo (hkb.trans' hkx)) hok)
  obtain ⟨R, hR⟩ : ∃ R, judge4 M p a.name = R := ⟨_, rfl⟩
  rw [hR]
  have HR := Lib.hid hR
  have HK4 := Lib.hid hk
  unfold spotV at HLV
  unfold askV
  clear hkb hbb hkx hbx hby hM hok hR hk
  go_enter Try.func12, Try.ntmps12
  go_wp2_with fail
  refine HLV.out.mono ?_
  rintro e w2 ⟨b, rfl, hbw, hmp, hk2⟩
  obtain ⟨o, A, n, c, IS, hlk, his⟩ := live_look hmp a.name
  unfold opV at hlk
  have hl := hlk w2 (Kp.refl _ _)
  have hby := HBY.out.kept hk2 (fun z => z)
  have y3 : w2.cell? ⟨y, 3, none⟩ = some _ := Blk.cell hby rfl
  have HIS := Lib.hid his
  have HK2 := Lib.hid (HKA.out.trans' hk2)
  have HK2a := Lib.hid hk2
  clear hwb hwa hy hx x1 x2 x3 y0 hbw hmp hk2 hlk his hby HLV
  go_upto_region 8 with fail
  obtain ⟨z, hz⟩ : ∃ v, w2.heap.size = v := ⟨_, rfl⟩
  obtain ⟨w3, hw3⟩ : ∃ v, w2.alloc (.cells #[.int .i64 o.n, .int .i64 o.epoch, .int .i64 o.kind, .int .i64 o.site, .int .i64 o.client, .int .i64 o.seq, .string o.name, .int .i64 o.size, .slice A n c] 58) = v := ⟨_, rfl⟩
  have hk3 : Kp No w2 w3 := by rw [← hw3]; exact (Kp.refl _ _).alloc _
  have hbz : Blk w3 z 58 [.int .i64 o.n, .int .i64 o.epoch, .int .i64 o.kind, .int .i64 o.site, .int .i64 o.client, .int .i64 o.seq, .string o.name, .int .i64 o.size, .slice A n c] := by rw [← hw3, ← hz]; exact Blk.new w2 _ _
  try rw [hw3]
  try rw [hz]
  have hby := HBY.out.kept (HK2a.out.trans' hk3) (fun z => z)
  have hbx := HBX.out.kept (HK2a.out.trans' hk3) (fun z => z)
  have y0 : w3.cell? ⟨y, 0, none⟩ = some _ := Blk.cell hby rfl
  have x5 : w3.cell? ⟨x, 5, none⟩ = some _ := Blk.cell hbx rfl
  rw [HK4.out] at y0
  have HLD := Lib.hid (run_load_op hbz)
  have HK3 := Lib.hid (HK2.out.trans' hk3)
  have HK3a := Lib.hid hk3
  clear hby hbx hbz hk3 hw3 hz hl y3
  obtain ⟨TB, hTB⟩ : ∃ TB, (pathM M p).isSome = TB := ⟨_, rfl⟩
  have HTB := Lib.hid hTB
  rw [hTB]
  clear hTB
  cases TB
  case false =>
    have hR : R = 51 := by rw [← HR.out]; unfold judge4; rw [if_pos HTB.out]
    subst hR
    go_wp2_with fail
    go_ret
    exact ⟨rfl, HK3.out⟩
  case true =>
    have HR2 : Hid (R = match mget a.name (liveL1 (pathD M p)) with
      | none => 200
      | some o => if putOk M o = true then 0 else 200) := Lib.hid (by rw [← HR.out]; unfold judge4; rw [if_neg (by rw [HTB.out]; simp)])
    cases IS
    case false =>
      have hR : R = 200 := by
        rcases HIS.out with h | ⟨_, h⟩
        · cases h.1
        · rw [HR2.out, h]
      subst hR
      have HD := fun w => Lib.hid (m_denied false w)
      go_wp2_with fail
      refine (HD _).out.mono ?_
      rintro e w4 ⟨rfl, hk4⟩
      have HK5 := Lib.hid (HK3.out.trans' hk4)
      clear hk4
      go_wp2_with fail
      go_ret
      exact ⟨rfl, HK5.out⟩
    case true =>
      obtain ⟨hg, rfl, hr⟩ : mget a.name (liveL1 (pathD M p)) = some o ∧ n = o.hashes.length ∧ Rp.str.slice.R w2 (fun k => wa.heap.size ≤ k ∧ k ≠ b) [.slice A n c] o.hashes := by
        rcases HIS.out with h | h
        · exact h.2
        · cases h.1
      have hR : R = if putOk M o = true then 0 else 200 := by rw [HR2.out, hg]
      obtain ⟨Q, hQ⟩ : ∃ Q, putOk M o = Q := ⟨_, rfl⟩
      rw [hQ] at hR
      have hput := m_put0 o A c _ m M F w3 (HM.out.keptNo HK3.out) (Rp.str.slice.keptNo hr HK3a.out)
      have hput2 : Calls Try.prog 37 #[.pointer (some ⟨m, 0, none⟩), opV o (.slice A o.hashes.length c), .string ⟨#[]⟩] w3 fun e w' => e = .returned (.bool Q) ∧ Kp No w3 w' := by rw [← hQ]; exact hput
      have HPUT := Lib.hid hput2
      have HRR := Lib.hid hR
      clear hg hr hput hput2 hQ hR
      go_wp2_with (refine wpl_load (by first | rfl | go_simp) 58 _ rfl _ _ rfl HLD.out ?_; go_simp)
      refine HPUT.out.mono ?_
      rintro e w4 ⟨rfl, hk4⟩
      have HK5 := Lib.hid (HK3.out.trans' hk4)
      have hd := m_denied Q w4
      rw [← HRR.out] at hd
      have HD := Lib.hid hd
      clear hk4 y0 x5 hd
      go_wp2_with fail
      refine HD.out.mono ?_
      rintro e w5 ⟨rfl, hk5⟩
      have HK6 := Lib.hid (HK5.out.trans' hk5)
      clear hk5
      go_wp2_with fail
      go_ret
      exact ⟨rfl, HK6.out⟩
end
end Go.Proofs.Ytamfgmlhopjppaa
