/-
  redoubtlaw22.awake. (Printed by wip/tools/awk22.py.)
-/
import Derived.Test.YtamfgmlhopjppaaGreatDkT
import Derived.Test.YtamfgmlhopjppaaGreatGH
import Derived.Deep.DeepCutAuto
namespace Go.Proofs.YtamfgmlhopjppaaGreat
open Go.RowKit Go.ChangeShapes Go.WideShapes Go.ChangeAt

/-- a desk, and a ledger beside it -/
structure DLk (W w : World) (d : Nat) (L : List RowD) (F : Nat → Prop) (l : Nat) (LL : LV) (FL : Nat → Prop) : Prop where
  dk : DkAt w d L F
  ld : LAt w l LL FL
  nf : ∀ k, F k → W.heap.size ≤ k
  nl : ∀ k, FL k → W.heap.size ≤ k
  dj : ∀ k, F k → ¬ FL k
  kp : Kp No W w
namespace DLk
variable {W w w' : World} {d l : Nat} {L L' : List RowD} {LL LL' : LV} {F FL F' : Nat → Prop}
theorem keptNo (h : DLk W w d L F l LL FL) (hk : Kp No w w') : DLk W w' d L F l LL FL := ⟨h.dk.keptNo hk, h.ld.keptNo hk, h.nf, h.nl, h.dj, h.kp.trans' hk⟩
theorem turnD (h : DLk W w d L F l LL FL) (hm : DkAt w' d L' F') (hu : Upd F w w' F') : DLk W w' d L' F' l LL FL :=
  ⟨hm, h.ld.kept hu.kp (fun k hl hf => h.dj k hf hl), fun k hk => (hu.foot k hk).elim (h.nf k) (fun hle => Nat.le_trans h.kp.size hle), h.nl, fun k hk hl => (hu.foot k hk).elim (fun hf => h.dj k hf hl) (fun hle => by have := h.ld.lt k hl; omega), h.kp.trans hu.kp (fun i hi hf => by have := h.nf i hf; omega)⟩
theorem turnL (h : DLk W w d L F l LL FL) (hm : LAt w' l LL' F') (hu : Upd FL w w' F') : DLk W w' d L F l LL' F' :=
  ⟨h.dk.kept hu.kp (fun k hf hl => h.dj k hf hl), hm, h.nf, fun k hk => (hu.foot k hk).elim (h.nl k) (fun hle => Nat.le_trans h.kp.size hle), fun k hf hk => (hu.foot k hk).elim (fun hl => h.dj k hf hl) (fun hle => by have := h.dk.lt hf; omega), h.kp.trans hu.kp (fun i hi hl => by have := h.nl i hl; omega)⟩
end DLk
def opN : OpL := ⟨0, 0, 0, 0, 0, 0, ⟨#[]⟩, 0, []⟩
def dkReign : CmdL := ⟨4, 1, 0, opN, 0, 0, [], 0⟩
def dkOp : OpL := ⟨0, 0, 1, 0, 0, 1, ⟨#[97]⟩, 0, []⟩
def dkPut : CmdL := ⟨1, 1, 0, dkOp, 0, 0, [], 0⟩
def dk1 : LV := ⟨[reignOp.placed 1 1 0], [], 1, 0, 100, 9⟩
def dk2 : LV := ⟨[reignOp.placed 1 1 0, dkOp.placed 2 1 0], [], 1, 0, 100, 9⟩
theorem dk_1 : applyL dkReign (newL 100 9) = ((0, 1, 1), dk1) := by kernel_rfl
theorem dk_2 : applyL dkPut dk1 = ((0, 2, 1), dk2) := by kernel_rfl
theorem dk_names : namesL dk2 = [⟨#[97]⟩] := by
  show sortedN ([⟨#[97]⟩] : List ByteArray) = [⟨#[97]⟩]
  exact sortedN_eq (List.Perm.refl _) (List.pairwise_singleton _ _)
theorem dk_ok0 : OkL 0 (newL 100 9) := newL_ok (by decide)
theorem dk_ok1 : OkL 80 dk1 := by
  have := apply_ok dk_ok0 dkReign
  rw [dk_1] at this; exact this
theorem dk_ok2 : OkL 160 dk2 := by
  have := apply_ok dk_ok1 dkPut
  rw [dk_2] at this; exact this
def dkA5 : AskL := ⟨1, 0, 0, ⟨#[97]⟩, ⟨#[]⟩, 2, 0⟩
def dkA6 : AskL := ⟨3, 0, 0, ⟨#[]⟩, ⟨#[]⟩, 0, 0⟩
def dkR5 : RowD := ⟨5, dkA5, 0, 1, 1, 0, 0, 0, []⟩
def dkR6 : RowD := ⟨6, dkA6, 0, 2, 1, 0, 0, 0, []⟩
def dkR5' : RowD := ⟨5, dkA5, 1, 1, 1, 2, 1, 0, []⟩
def dkP6 : RepL := ⟨6, 0, 2, 1, [⟨#[97]⟩], ⟨#[]⟩, []⟩
def dkP5 : RepL := ⟨5, 0, 2, 1, [], ⟨#[]⟩, []⟩
theorem dk_a1 : eachO 0 (agreedF 1 1 (0, 2, 1) dk2) [dkR5, dkR6] = ([], [dkR5', dkR6]) := by rfl
theorem dk_a2 : eachO 0 (agreedF 2 1 (0, 0, 0) dk2) [dkR5', dkR6] = ([dkP6], [dkR5']) := by
  have h : eachO 0 (agreedF 2 1 (0, 0, 0) dk2) [dkR5', dkR6] = ([{ repD 6 0 (2, 1) with names := namesL dk2 }], [dkR5']) := by rfl
  rw [h, dk_names]
  rfl
theorem dk_s1 : eachO 1 (settleF dk2.ops ⟨2, 1, []⟩ 2 1 ⟨2, 1, [2]⟩) [dkR5'] = ([], [dkR5']) := by kernel_rfl
theorem dk_s2 : eachO 1 (settleF dk2.ops ⟨2, 1, []⟩ 2 1 ⟨2, 1, []⟩) [dkR5'] = ([dkP5], []) := by kernel_rfl
theorem wpl_build3 {P : Program} {ops : Array Oper} {rest : List Oper} {o : Oper} {a : Act} {w w' : World} {Q : Exit → Act → World → Prop} (hw : Region.wanted o (yielded ops a.tmps) = true) (t : TypeId) (i j k : Nat) (x y z : Operand) (ho : o.op = .build t #[(i, x), (j, y), (k, z)]) (v v2 v3 u : Value) (he : a.eval x = v) (he2 : a.eval y = v2) (he3 : a.eval z = v3) (hr : (Instr.build t #[(i, v), (j, v2), (k, v3)]).run P w = .ok u w')
    (h : wpList P ops Q rest (a.put o.dst u) w') : wpList P ops Q (o :: rest) a w := by
  refine wpList_step fun K hK => ?_
  rw [if_pos hw]
  have e : (#[(i, x), (j, y), (k, z)] : Array (Nat × Operand)).map (fun (i, x) => (i, a.eval x)) = #[(i, v), (j, v2), (k, v3)] := by simp [he, he2, he3]
  unfold Oper.wp execOp
  simp only [ho, Sem.run_bind, e, hr, Result.andThen_ok]
  exact hK _ _ h
theorem run_b1 (w : World) : (Instr.build 39 #[(0, .int .i64 4), (1, .int .i64 1)]).run Tryz.prog w = .ok (cmdV dkReign (.slice none 0 0) (.slice none 0 0)) w := by
  unfold cmdV dkReign opN
  go_simp
theorem run_b2 (w : World) : (Instr.build 36 #[(2, .int .i64 1), (5, .int .i64 1), (6, .string { data := #[97] })]).run Tryz.prog w = .ok (opV dkOp (.slice none 0 0)) w := by
  unfold opV dkOp
  go_simp
theorem run_b3 (w : World) : (Instr.build 39 #[(0, .int .i64 1), (1, .int .i64 1), (3, opV dkOp (.slice none 0 0))]).run Tryz.prog w = .ok (cmdV dkPut (.slice none 0 0) (.slice none 0 0)) w := by
  unfold cmdV dkPut opV dkOp
  go_simp
theorem run_b4 (w : World) : (Instr.build 50 #[(0, .int .i64 1), (3, .string { data := #[97] }), (5, .int .i64 2)]).run Tryz.prog w = .ok (askW dkA5) w := by
  unfold askW dkA5
  go_simp
theorem Rp.at_rep {w : World} {S : Nat → Prop} {A : Option Addr} {c : Nat} {x : RepL} (h : Rp.rep.slice.R w S [.slice A 1 c] [x]) :
    ∃ ad N cn M cm, A = some ad ∧ w.cell? ad = some (.int .i64 x.ask) ∧ w.cell? ⟨ad.block, ad.off + 1, none⟩ = some (.int .i64 x.err) ∧ w.cell? ⟨ad.block, ad.off + 2, none⟩ = some (.int .i64 x.an) ∧ w.cell? ⟨ad.block, ad.off + 3, none⟩ = some (.int .i64 x.ae) ∧ w.cell? ⟨ad.block, ad.off + 4, none⟩ = some (.slice N x.names.length cn) ∧ w.cell? ⟨ad.block, ad.off + 5, none⟩ = some (.string x.data) ∧ w.cell? ⟨ad.block, ad.off + 6, none⟩ = some (.slice M x.lost.length cm) := by
  obtain ⟨A2, c2, he, _, _, h3⟩ := h
  simp only [List.cons.injEq, Value.slice.injEq, and_true, List.length_singleton, true_and] at he
  obtain ⟨rfl, rfl⟩ := he
  obtain ⟨ad, rfl, hb, hc⟩ := h3 (by simp)
  obtain ⟨es, he, nv, lv, rfl, hn, h1, h2⟩ := hc 0 x rfl
  obtain ⟨N, cn, e1, _⟩ := id h1
  obtain ⟨M, cm, e2, _⟩ := id h2
  simp only [List.cons.injEq, and_true] at e1 e2
  subst e1 e2
  have hz : ad.add (0 * Rp.rep.size) = ad := by
    rw [Nat.zero_mul]
    rcases ad with ⟨b, o, s⟩
    cases s <;> simp [Addr.add]
  rw [hz] at he
  exact ⟨ad, N, cn, M, cm, rfl, he 0 _ rfl, he 1 _ rfl, he 2 _ rfl, he 3 _ rfl, he 4 _ rfl, he 5 _ rfl, he 6 _ rfl⟩
theorem ints_two {w : World} {g : Nat} (h : Blk w g 3 [.int .i64 2]) : (Rp.int .i64).slice.R w (fun _ => True) [.slice (some ⟨g, 0, none⟩) 1 1] [2] := by
  refine ⟨_, _, rfl, Nat.le_refl _, by unfold maxLen; simp, fun _ => ⟨_, rfl, trivial, fun i b hi => ?_⟩⟩
  obtain rfl : i = 0 := by have := (List.getElem?_eq_some_iff.1 hi).1; simp at this; exact this
  injection hi with hi
  subst hi
  refine ⟨[.int .i64 2], fun j u hu => ?_, rfl, rfl⟩
  have h2 := h.cell hu
  rw [Addr.add_lit, Addr.add_lit]
  simpa using h2
theorem dk_apply1 (l : Nat) (F : Nat → Prop) (w : World) (h : LAt w l (newL 100 9) F) : Calls Tryz.prog 13 #[.pointer (some ⟨l, 0, none⟩), cmdV dkReign (.slice none 0 0) (.slice none 0 0)] w fun x w' => x = .returned (.agg #[.int .i64 0, .int .i64 1, .int .i64 1]) ∧ ∃ F', LAt w' l dk1 F' ∧ Upd F w w' F' := by
  have := a_apply dkReign none none 0 0 No 0 l (newL 100 9) F w h dk_ok0 (by omega) (Rp.none_ _ _ _) (Rp.none_ _ _ _) (fun k h => h.elim) (by decide) (by decide) (by decide) (fun o h => by cases h)
  rw [dk_1] at this
  exact this
theorem dk_apply2 (l : Nat) (F : Nat → Prop) (w : World) (h : LAt w l dk1 F) : Calls Tryz.prog 13 #[.pointer (some ⟨l, 0, none⟩), cmdV dkPut (.slice none 0 0) (.slice none 0 0)] w fun x w' => x = .returned (.agg #[.int .i64 0, .int .i64 2, .int .i64 1]) ∧ ∃ F', LAt w' l dk2 F' ∧ Upd F w w' F' := by
  have := a_apply dkPut none none 0 0 No 80 l dk1 F w h dk_ok1 (by omega) (Rp.none_ _ _ _) (Rp.none_ _ _ _) (fun k h => h.elim) (by decide) (by decide) (by decide) (fun o h => by cases h)
  rw [dk_2] at this
  exact this
theorem dk_add5 (d : Nat) (F : Nat → Prop) (w : World) (h : DkAt w d [] F) : Calls Tryz.prog 19 #[.pointer (some ⟨d, 0, none⟩), .int .i64 5, askW dkA5, .int .i64 1, .int .i64 1] w fun e w' => e = .returned (.int .i64 0) ∧ ∃ F', DkAt w' d [dkR5] F' ∧ Upd F w w' F' :=
  k_add 5 dkA5 1 1 rfl ⟨rfl, rfl, rfl, by decide, by decide, rfl, rfl⟩ rfl rfl d [] F w h
theorem dk_add6 (d : Nat) (F : Nat → Prop) (w : World) (h : DkAt w d [dkR5] F) : Calls Tryz.prog 19 #[.pointer (some ⟨d, 0, none⟩), .int .i64 6, askW dkA6, .int .i64 2, .int .i64 1] w fun e w' => e = .returned (.int .i64 0) ∧ ∃ F', DkAt w' d [dkR5, dkR6] F' ∧ Upd F w w' F' :=
  k_add 6 dkA6 2 1 rfl ⟨rfl, rfl, rfl, by decide, by decide, rfl, rfl⟩ rfl rfl d [dkR5] F w h
theorem dk_agr1 (d l : Nat) (F FL : Nat → Prop) (w : World) (h : DkAt w d [dkR5, dkR6] F) (hl : LAt w l dk2 FL) : Calls Tryz.prog 20 #[.pointer (some ⟨d, 0, none⟩), .int .i64 1, .int .i64 1, doneV (0, 2, 1), .pointer (some ⟨l, 0, none⟩)] w fun e w' => ∃ A c, e = .returned (.slice A 0 c) ∧ ∃ F', DkAt w' d [dkR5', dkR6] F' ∧ Upd F w w' F' ∧ Kp (· = d) w w' := by
  have := k_Agreed 1 1 (0, 2, 1) ⟨rfl, rfl, rfl⟩ 160 l dk2 FL d [dkR5, dkR6] F w h (by decide) hl dk_ok2 (by omega)
  rw [dk_a1] at this
  exact this.mono (fun e w' ⟨A, c, he, _, hF⟩ => ⟨A, c, he, hF⟩)
theorem dk_agr2 (d l : Nat) (F FL : Nat → Prop) (w : World) (h : DkAt w d [dkR5', dkR6] F) (hl : LAt w l dk2 FL) : Calls Tryz.prog 20 #[.pointer (some ⟨d, 0, none⟩), .int .i64 2, .int .i64 1, doneV (0, 0, 0), .pointer (some ⟨l, 0, none⟩)] w fun e w' => ∃ A c, e = .returned (.slice A 1 c) ∧ Rp.rep.slice.R w' (fun k => w.heap.size ≤ k) [.slice A 1 c] [dkP6] ∧ ∃ F', DkAt w' d [dkR5'] F' ∧ Upd F w w' F' ∧ Kp (· = d) w w' := by
  have := k_Agreed 2 1 (0, 0, 0) ⟨rfl, rfl, rfl⟩ 160 l dk2 FL d [dkR5', dkR6] F w h (by decide) hl dk_ok2 (by omega)
  rw [dk_a2] at this
  exact this
theorem dk_set1 (d l g : Nat) (F FL : Nat → Prop) (w : World) (h : DkAt w d [dkR5'] F) (hl : LAt w l dk2 FL) (hg : Blk w g 3 [.int .i64 2]) : Calls Tryz.prog 21 #[.pointer (some ⟨d, 0, none⟩), .pointer (some ⟨l, 0, none⟩), .agg #[.int .i64 2, .int .i64 1, .slice none 0 0], .agg #[.int .i64 2, .int .i64 1], .agg #[.int .i64 2, .int .i64 1, .slice (some ⟨g, 0, none⟩) 1 1]] w fun e w' => ∃ A c, e = .returned (.slice A 0 c) ∧ ∃ F', DkAt w' d [dkR5'] F' ∧ Upd F w w' F' ∧ Kp (· = d) w w' := by
  have := k_Settle 160 l dk2 FL ⟨2, 1, []⟩ ⟨2, 1, [2]⟩ none (some ⟨g, 0, none⟩) 0 1 2 1 d [dkR5'] F w (fun _ => True) h (by decide) hl dk_ok2 (Rp.none_ _ _ _) (ints_two hg)
  rw [dk_s1] at this
  exact this.mono (fun e w' ⟨A, c, he, _, hF⟩ => ⟨A, c, he, hF⟩)
theorem dk_set2 (d l : Nat) (F FL : Nat → Prop) (w : World) (h : DkAt w d [dkR5'] F) (hl : LAt w l dk2 FL) : Calls Tryz.prog 21 #[.pointer (some ⟨d, 0, none⟩), .pointer (some ⟨l, 0, none⟩), .agg #[.int .i64 2, .int .i64 1, .slice none 0 0], .agg #[.int .i64 2, .int .i64 1], .agg #[.int .i64 2, .int .i64 1, .slice none 0 0]] w fun e w' => ∃ A c, e = .returned (.slice A 1 c) ∧ Rp.rep.slice.R w' (fun k => w.heap.size ≤ k) [.slice A 1 c] [dkP5] ∧ ∃ F', DkAt w' d [] F' ∧ Upd F w w' F' ∧ Kp (· = d) w w' := by
  have := k_Settle 160 l dk2 FL ⟨2, 1, []⟩ ⟨2, 1, []⟩ none none 0 0 2 1 d [dkR5'] F w (fun _ => True) h (by decide) hl dk_ok2 (Rp.none_ _ _ _) (Rp.none_ _ _ _)
  rw [dk_s2] at this
  exact this
set_option maxRecDepth 100000 in
set_option maxHeartbeats 40000000 in
theorem h_awake22 (w : World) : Calls Tryz.prog 17 #[] w fun e w' => e = .returned (.bool true) ∧ Kp No w w' := by
  obtain ⟨W, hW⟩ : ∃ v, v = w := ⟨_, rfl⟩
  rw [← hW]
  clear hW w
  have HN := Lib.hid (k_new W)
  go_enter Tryz.func17, Tryz.ntmps17
  go_wp2_with fail
  refine HN.out.mono ?_
  rintro e w2 ⟨d, F, rfl, hd, hf, hk2⟩
  have HD2 := Lib.hid hd
  have HF2 := Lib.hid hf
  have HK2 := Lib.hid hk2
  clear hd hf hk2 HN
  go_wp2_with fail
  refine (a_new 100 9 w2 (by decide)).mono ?_
  rintro e w3 ⟨l, FL, rfl, hl, hfl, hk3⟩
  have HDL : Hid (DLk W w3 d [] F l (newL 100 9) FL) := Lib.hid ⟨HD2.out.keptNo hk3, hl, HF2.out, fun k hk => Nat.le_trans HK2.out.size (hfl k hk), fun k h1 h2 => by have h3 := HD2.out.lt h1; have h4 := hfl k h2; omega, HK2.out.trans' hk3⟩
  clear hl hfl hk3 HD2 HF2 HK2
  have HB1 := Lib.hid (run_b1 w3)
  have HA1 := Lib.hid (dk_apply1 l FL w3 HDL.out.ld)
  unfold cmdV dkReign opN at HB1 HA1
  simp only at HB1 HA1
  go_wp2_with (refine wpl_build2 (by first | rfl | go_simp) 39 0 1 _ _ rfl _ _ _ (by go_simp) (by go_simp) HB1.out ?_; go_simp)
  refine HA1.out.mono ?_
  rintro e w4 ⟨rfl, FL4, hl4, hu4⟩
  have HDL4 := Lib.hid (HDL.out.turnL hl4 hu4)
  clear hl4 hu4 HDL HB1 HA1
  have HB2 := Lib.hid (run_b2 w4)
  have HB3 := Lib.hid (run_b3 w4)
  have HA2 := Lib.hid (dk_apply2 l FL4 w4 HDL4.out.ld)
  unfold opV dkOp at HB2
  unfold cmdV dkPut opV dkOp at HB3
  unfold cmdV dkPut dkOp at HA2
  simp only at HB2 HB3 HA2
  go_wp2_with (first | (refine wpl_build3 (by first | rfl | go_simp) 36 2 5 6 _ _ _ rfl _ _ _ _ (by go_simp) (by go_simp) (by go_simp) HB2.out ?_; go_simp) | (refine wpl_build3 (by first | rfl | go_simp) 39 0 1 3 _ _ _ rfl _ _ _ _ (by go_simp) (by go_simp) (by go_simp) HB3.out ?_; go_simp))
  refine HA2.out.mono ?_
  rintro e w5 ⟨rfl, FL5, hl5, hu5⟩
  have HDL5 := Lib.hid (HDL4.out.turnL hl5 hu5)
  clear hl5 hu5 HDL4 HB2 HB3 HA2
  obtain ⟨x4, hx4⟩ : ∃ v, w5.heap.size = v := ⟨_, rfl⟩
  obtain ⟨w6, hw6⟩ : ∃ v, w5.alloc (.cells #[.int .i64 0, .int .i64 2, .int .i64 1] 44) = v := ⟨_, rfl⟩
  have hk6 : Kp No w5 w6 := by rw [← hw6]; exact (Kp.refl _ _).alloc _
  have HX4 : Hid (Blk w6 x4 44 [.int .i64 0, .int .i64 2, .int .i64 1]) := Lib.hid (by rw [← hw6, ← hx4]; exact Blk.new _ _ _)
  have HDL6 := Lib.hid (HDL5.out.keptNo hk6)
  have HX4F : Hid (∀ k, F k → k ≠ x4) := Lib.hid (fun k hk e => by have := HDL5.out.dk.lt hk; omega)
  clear hk6
  go_upto_region 7 with fail
  try rw [hw6]
  try rw [hx4]
  clear hw6 hx4 HDL5
  have HB4 := Lib.hid (run_b4 w6)
  have HA5 := Lib.hid (dk_add5 d F w6 HDL6.out.dk)
  unfold askW dkA5 at HB4 HA5
  simp only at HB4 HA5
  go_wp2_with (refine wpl_build3 (by first | rfl | go_simp) 50 0 3 5 _ _ _ rfl _ _ _ _ (by go_simp) (by go_simp) (by go_simp) HB4.out ?_; go_simp)
  refine HA5.out.mono ?_
  rintro e w7 ⟨rfl, F7, hd7, hu7⟩
  have HDL7 := Lib.hid (HDL6.out.turnD hd7 hu7)
  have HX47 := Lib.hid (HX4.out.kept hu7.kp (fun h => HX4F.out x4 h rfl))
  have HX4F7 : Hid (∀ k, F7 k → k ≠ x4) := Lib.hid (fun k hk e => (hu7.foot k hk).elim (fun h => HX4F.out k h e) (fun h => by have := Blk.lt HX4.out; omega))
  clear hd7 hu7 HB4 HA5 HX4F
  have HA6 := Lib.hid (dk_add6 d F7 w7 HDL7.out.dk)
  unfold askW dkA6 at HA6
  simp only at HA6
  go_wp2_with fail
  refine HA6.out.mono ?_
  rintro e w8 ⟨rfl, F8, hd8, hu8⟩
  have HDL8 := Lib.hid (HDL7.out.turnD hd8 hu8)
  have HX48 := Lib.hid (HX47.out.kept hu8.kp (fun h => HX4F7.out x4 h rfl))
  clear hd8 hu8 HA6 HX4F7
  have e0 : w8.cell? ⟨x4, 0, none⟩ = some _ := Blk.cell HX48.out rfl
  have e1 : w8.cell? ⟨x4, 1, none⟩ = some _ := Blk.cell HX48.out rfl
  have e2 : w8.cell? ⟨x4, 2, none⟩ = some _ := Blk.cell HX48.out rfl
  have HG1 := Lib.hid (dk_agr1 d l F8 FL5 w8 HDL8.out.dk HDL8.out.ld)
  unfold doneV at HG1
  simp only at HG1
  go_wp2_with fail
  refine HG1.out.mono ?_
  rintro e w9 ⟨A9, c9, rfl, F9, hd9, hu9, _⟩
  have HDL9 := Lib.hid (HDL8.out.turnD hd9 hu9)
  clear hd9 hu9 HG1 e0 e1 e2
  have HG2 := Lib.hid (dk_agr2 d l F9 FL5 w9 HDL9.out.dk HDL9.out.ld)
  unfold doneV at HG2
  simp only at HG2
  go_wp2_with fail
  refine HG2.out.mono ?_
  rintro e w10 ⟨A10, c10, rfl, hrd10, F10, hd10, hu10, _⟩
  have HDL10 := Lib.hid (HDL9.out.turnD hd10 hu10)
  have HRD10 := Lib.hid (Rp.rep.slice.bnd hrd10)
  have HDW : Hid (d < w9.heap.size) := Lib.hid (by
    obtain ⟨rv, S, h1, _⟩ := HDL9.out.dk
    exact Blk.lt h1.blk)
  have HW910 : Hid (w9.heap.size ≤ w10.heap.size) := Lib.hid hu10.kp.size
  clear hd10 hu10 HG2 hrd10 HDL8 HDL9 HX48 HDL6 HDL7 HX47 HX4
  obtain ⟨t, ht⟩ : ∃ v, w10.heap.size = v := ⟨_, rfl⟩
  obtain ⟨w1, hw1⟩ : ∃ v, w10.alloc (.cells #[.int .i64 2, .int .i64 1] 42) = v := ⟨_, rfl⟩
  have hk1 : Kp No w10 w1 := by rw [← hw1]; exact (Kp.refl _ _).alloc _
  have HT0 : Hid (Blk w1 t 42 [.int .i64 2, .int .i64 1]) := Lib.hid (by rw [← hw1, ← ht]; exact Blk.new _ _ _)
  have HTW : Hid (w1.heap.size = t + 1) := Lib.hid (by rw [← hw1, ← ht]; simp)
  have HTD : Hid (d < t ∧ w10.heap.size = t) := Lib.hid ⟨by have := HDW.out; have := HW910.out; omega, ht⟩
  have HDL11 := Lib.hid (HDL10.out.keptNo hk1)
  have HRD11 := Lib.hid (Rp.rep.slice.keptNo HRD10.out hk1)
  clear hk1 HRD10 HDL10
  go_upto_region 11 with fail
  try rw [hw1]
  try rw [ht]
  clear hw1 ht
  go_cut [8, 9] (fun xv yv wx => ∃ x y g, xv = .pointer (some ⟨x, 0, none⟩) ∧ yv = .pointer (some ⟨y, 0, none⟩) ∧ Hid (Blk wx x 53 [.int .i64 2, .int .i64 1, .slice none 0 0]) ∧ Hid (Blk wx y 53 [.int .i64 2, .int .i64 1, .slice (some ⟨g, 0, none⟩) 1 1]) ∧ Hid (Blk wx g 3 [.int .i64 2]) ∧ Hid (Kp No w1 wx) ∧ Hid (t < x ∧ t < y))
  case first =>
    obtain ⟨wd, hwd⟩ : ∃ v, w1.drew = v := ⟨_, rfl⟩
    have HKW : Hid (Kp No w1 wd) := Lib.hid (by rw [← hwd]; exact (Kp.refl _ _).drew)
    have HT := Lib.hid (HT0.out.kept HKW.out (fun h => h))
    have t0 : wd.cell? ⟨t, 0, none⟩ = some _ := Blk.cell HT.out rfl
    have t1 : wd.cell? ⟨t, 1, none⟩ = some _ := Blk.cell HT.out rfl
    refine Reg.wp_region_tree (.look 0 (.look 1 (.look 2 (.three 3 [0, 1, 2] (.look 4 (.two 5 [0, 1, 2, 4] (.one 6 [0, 1, 2, 4] (.one 7 [2, 4] (.one 8 [] (.done)))) 6 [0, 1, 2, 4] (.one 5 [0, 1, 2, 4] (.one 7 [2, 4] (.one 8 [] (.done)))))) 5 [0, 1, 2] (.two 3 [0, 1, 2] (.look 4 (.one 6 [0, 1, 2, 4] (.one 7 [2, 4] (.one 8 [] (.done))))) 6 [0, 1, 2] (.two 3 [0, 1, 2] (.look 4 (.one 7 [2, 4] (.one 8 [] (.done)))) 7 [2] (.one 3 [2] (.look 4 (.one 8 [] (.done)))))) 6 [0, 1, 2] (.two 3 [0, 1, 2] (.look 4 (.one 5 [0, 1, 2, 4] (.one 7 [2, 4] (.one 8 [] (.done))))) 5 [0, 1, 2] (.two 3 [0, 1, 2] (.look 4 (.one 7 [2, 4] (.one 8 [] (.done)))) 7 [2] (.one 3 [2] (.look 4 (.one 8 [] (.done)))))))))) [3, 5, 6, 7, 8] rfl (by kernel_rfl) ?_
    rw [hwd]
    clear hwd
    repeat (first | (refine Reg.lookT rfl rfl rfl (by go_simp; rfl) rfl ?_; go_simp))
    refine Reg.threeT rfl rfl rfl ?_ ?_ ?_ 
    · skip
      obtain ⟨g, hb⟩ : ∃ v, (wd).heap.size = v := ⟨_, rfl⟩
      obtain ⟨v1, hV⟩ : ∃ v, (wd).alloc (.cells #[.int .i64 2] 3) = v := ⟨_, rfl⟩
      have hk : Kp No wd v1 := by rw [← hV]; exact (Kp.refl _ _).alloc _
      have HG : Hid (Blk v1 g 3 [.int .i64 2]) := Lib.hid (by rw [← hV, ← hb]; exact Blk.new _ _ _)
      have HNg : Hid (t < g) := Lib.hid (by rw [← hb]; exact Blk.lt HT.out)
      have HT := Lib.hid (HT.out.kept hk (fun h => h))
      have HKW := Lib.hid (HKW.out.trans' hk)
      clear hk t0 t1
      have t0 : v1.cell? ⟨t, 0, none⟩ = some _ := Blk.cell HT.out rfl
      have t1 : v1.cell? ⟨t, 1, none⟩ = some _ := Blk.cell HT.out rfl
      go_wp2_with fail
      try rw [hV]
      try rw [hb]
      clear hV hb
      (refine ⟨?anew, ?_⟩; case anew => ((repeat (refine Reg.anew_cons rfl rfl (fun _ => by go_simp) ?_)); exact Reg.anew_nil))
      repeat (first | (refine Reg.lookT rfl rfl rfl (by go_simp; rfl) rfl ?_; go_simp))
      refine Reg.twoT rfl rfl ?_ ?_ 
      · skip
        obtain ⟨x, hb⟩ : ∃ v, (v1).heap.size = v := ⟨_, rfl⟩
        obtain ⟨v2, hV⟩ : ∃ v, (v1).alloc (.cells #[.int .i64 0, .int .i64 0, .slice none 0 0] 53) = v := ⟨_, rfl⟩
        have hk : Kp No v1 v2 := by rw [← hV]; exact (Kp.refl _ _).alloc _
        have HX : Hid (Blk v2 x 53 [.int .i64 0, .int .i64 0, .slice none 0 0]) := Lib.hid (by rw [← hV, ← hb]; exact Blk.new _ _ _)
        have HNx : Hid (t < x ∧ g < x) := Lib.hid ⟨by rw [← hb]; exact Blk.lt HT.out, by rw [← hb]; exact Blk.lt HG.out⟩
        have HT := Lib.hid (HT.out.kept hk (fun h => h))
        have HG := Lib.hid (HG.out.kept hk (fun h => h))
        have HKW := Lib.hid (HKW.out.trans' hk)
        clear hk t0 t1
        have t0 : v2.cell? ⟨t, 0, none⟩ = some _ := Blk.cell HT.out rfl
        have t1 : v2.cell? ⟨t, 1, none⟩ = some _ := Blk.cell HT.out rfl
        go_wp2_with fail
        try rw [hV]
        try rw [hb]
        clear hV hb
        (refine ⟨?anew, ?_⟩; case anew => ((repeat (refine Reg.anew_cons rfl rfl (fun _ => by go_simp) ?_)); exact Reg.anew_nil))
        repeat (first | (refine Reg.lookT rfl rfl rfl (by go_simp; rfl) rfl ?_; go_simp))
        refine Reg.oneT rfl ?_ 
        obtain ⟨y, hb⟩ : ∃ v, (v2).heap.size = v := ⟨_, rfl⟩
        obtain ⟨v3, hV⟩ : ∃ v, (v2).alloc (.cells #[.int .i64 0, .int .i64 0, .slice none 0 0] 53) = v := ⟨_, rfl⟩
        have hk : Kp No v2 v3 := by rw [← hV]; exact (Kp.refl _ _).alloc _
        have HY : Hid (Blk v3 y 53 [.int .i64 0, .int .i64 0, .slice none 0 0]) := Lib.hid (by rw [← hV, ← hb]; exact Blk.new _ _ _)
        have HNy : Hid (t < y ∧ g < y ∧ x < y) := Lib.hid ⟨by rw [← hb]; exact Blk.lt HT.out, by rw [← hb]; exact Blk.lt HG.out, by rw [← hb]; exact Blk.lt HX.out⟩
        have HT := Lib.hid (HT.out.kept hk (fun h => h))
        have HG := Lib.hid (HG.out.kept hk (fun h => h))
        have HX := Lib.hid (HX.out.kept hk (fun h => h))
        have HKW := Lib.hid (HKW.out.trans' hk)
        clear hk t0 t1
        have t0 : v3.cell? ⟨t, 0, none⟩ = some _ := Blk.cell HT.out rfl
        have t1 : v3.cell? ⟨t, 1, none⟩ = some _ := Blk.cell HT.out rfl
        go_wp2_with fail
        try rw [hV]
        try rw [hb]
        clear hV hb
        (refine ⟨?anew, ?_⟩; case anew => ((repeat (refine Reg.anew_cons rfl rfl (fun _ => by go_simp) ?_)); exact Reg.anew_nil))
        repeat (first | (refine Reg.lookT rfl rfl rfl (by go_simp; rfl) rfl ?_; go_simp))
        refine Reg.oneT rfl ?_ 
        have c0 : v3.cell? ⟨x, 0, none⟩ = some _ := Blk.cell HX.out rfl
        have c1 : v3.cell? ⟨x, 1, none⟩ = some _ := Blk.cell HX.out rfl
        have c2 : v3.cell? ⟨x, 2, none⟩ = some _ := Blk.cell HX.out rfl
        have cf := Blk.fr HX.out
        obtain ⟨v4, hV⟩ : ∃ v, (((v3).setCell ⟨x, 0, none⟩ (.int .i64 2)).setCell ⟨x, 1, none⟩ (.int .i64 1)).setCell ⟨x, 2, none⟩ (.slice none 0 0) = v := ⟨_, rfl⟩
        have hk : Kp (· = x) v3 v4 := by rw [← hV]; exact (((Kp.refl (· = x) v3).setCell (p := ⟨x, 0, none⟩) (fun _ => rfl) _).setCell (p := ⟨x, 1, none⟩) (fun _ => rfl) _).setCell (p := ⟨x, 2, none⟩) (fun _ => rfl) _
        have HX2 : Hid (Blk v4 x 53 [.int .i64 2, .int .i64 1, .slice none 0 0]) := Lib.hid (by rw [← hV]; exact Blk.set (Blk.set (Blk.set HX.out 0 (.int .i64 2)) 1 (.int .i64 1)) 2 (.slice none 0 0))
        have HT := Lib.hid (HT.out.kept hk (by have n0 := HNg.out; have n1 := HNx.out; have n2 := HNy.out; omega))
        have HG := Lib.hid (HG.out.kept hk (by have n0 := HNg.out; have n1 := HNx.out; have n2 := HNy.out; omega))
        have HY := Lib.hid (HY.out.kept hk (by have n0 := HNg.out; have n1 := HNx.out; have n2 := HNy.out; omega))
        have HX := HX2
        have HKW : Hid (Kp No w1 v4) := Lib.hid (HKW.out.trans hk (fun k hk e => by have h1 := HTW.out; have h2 := HNx.out; omega))
        clear hk t0 t1
        have t0 : v4.cell? ⟨t, 0, none⟩ = some _ := Blk.cell HT.out rfl
        have t1 : v4.cell? ⟨t, 1, none⟩ = some _ := Blk.cell HT.out rfl
        go_wp2_with fail
        try rw [hV]
        clear hV c0 c1 c2 cf
        (refine ⟨?anew, ?_⟩; case anew => ((repeat (refine Reg.anew_cons rfl rfl (fun _ => by go_simp) ?_)); exact Reg.anew_nil))
        repeat (first | (refine Reg.lookT rfl rfl rfl (by go_simp; rfl) rfl ?_; go_simp))
        refine Reg.oneT rfl ?_ 
        have c0 : v4.cell? ⟨y, 0, none⟩ = some _ := Blk.cell HY.out rfl
        have c1 : v4.cell? ⟨y, 1, none⟩ = some _ := Blk.cell HY.out rfl
        have c2 : v4.cell? ⟨y, 2, none⟩ = some _ := Blk.cell HY.out rfl
        have cf := Blk.fr HY.out
        obtain ⟨v5, hV⟩ : ∃ v, (((v4).setCell ⟨y, 0, none⟩ (.int .i64 2)).setCell ⟨y, 1, none⟩ (.int .i64 1)).setCell ⟨y, 2, none⟩ (.slice (some ⟨g, 0, none⟩) 1 1) = v := ⟨_, rfl⟩
        have hk : Kp (· = y) v4 v5 := by rw [← hV]; exact (((Kp.refl (· = y) v4).setCell (p := ⟨y, 0, none⟩) (fun _ => rfl) _).setCell (p := ⟨y, 1, none⟩) (fun _ => rfl) _).setCell (p := ⟨y, 2, none⟩) (fun _ => rfl) _
        have HY2 : Hid (Blk v5 y 53 [.int .i64 2, .int .i64 1, .slice (some ⟨g, 0, none⟩) 1 1]) := Lib.hid (by rw [← hV]; exact Blk.set (Blk.set (Blk.set HY.out 0 (.int .i64 2)) 1 (.int .i64 1)) 2 (.slice (some ⟨g, 0, none⟩) 1 1))
        have HT := Lib.hid (HT.out.kept hk (by have n0 := HNg.out; have n1 := HNx.out; have n2 := HNy.out; omega))
        have HG := Lib.hid (HG.out.kept hk (by have n0 := HNg.out; have n1 := HNx.out; have n2 := HNy.out; omega))
        have HX := Lib.hid (HX.out.kept hk (by have n0 := HNg.out; have n1 := HNx.out; have n2 := HNy.out; omega))
        have HY := HY2
        have HKW : Hid (Kp No w1 v5) := Lib.hid (HKW.out.trans hk (fun k hk e => by have h1 := HTW.out; have h2 := HNy.out; omega))
        clear hk t0 t1
        have t0 : v5.cell? ⟨t, 0, none⟩ = some _ := Blk.cell HT.out rfl
        have t1 : v5.cell? ⟨t, 1, none⟩ = some _ := Blk.cell HT.out rfl
        go_wp2_with fail
        try rw [hV]
        clear hV c0 c1 c2 cf
        refine ⟨Reg.anew_nil, ?_⟩
        repeat (first | (refine Reg.lookT rfl rfl rfl (by go_simp; rfl) rfl ?_; go_simp))
        refine Reg.doneT ?_
        simp only [Exit.then]
        go_wp2_with fail
        go_meet
        exact ⟨x, y, g, rfl, rfl, HX, HY, HG, HKW, Lib.hid ⟨by have h := HNx.out; omega, by have h := HNy.out; omega⟩⟩
      · skip
        obtain ⟨y, hb⟩ : ∃ v, (v1).heap.size = v := ⟨_, rfl⟩
        obtain ⟨v6, hV⟩ : ∃ v, (v1).alloc (.cells #[.int .i64 0, .int .i64 0, .slice none 0 0] 53) = v := ⟨_, rfl⟩
        have hk : Kp No v1 v6 := by rw [← hV]; exact (Kp.refl _ _).alloc _
        have HY : Hid (Blk v6 y 53 [.int .i64 0, .int .i64 0, .slice none 0 0]) := Lib.hid (by rw [← hV, ← hb]; exact Blk.new _ _ _)
        have HNy : Hid (t < y ∧ g < y) := Lib.hid ⟨by rw [← hb]; exact Blk.lt HT.out, by rw [← hb]; exact Blk.lt HG.out⟩
        have HT := Lib.hid (HT.out.kept hk (fun h => h))
        have HG := Lib.hid (HG.out.kept hk (fun h => h))
        have HKW := Lib.hid (HKW.out.trans' hk)
        clear hk t0 t1
        have t0 : v6.cell? ⟨t, 0, none⟩ = some _ := Blk.cell HT.out rfl
        have t1 : v6.cell? ⟨t, 1, none⟩ = some _ := Blk.cell HT.out rfl
        go_wp2_with fail
        try rw [hV]
        try rw [hb]
        clear hV hb
        (refine ⟨?anew, ?_⟩; case anew => ((repeat (refine Reg.anew_cons rfl rfl (fun _ => by go_simp) ?_)); exact Reg.anew_nil))
        repeat (first | (refine Reg.lookT rfl rfl rfl (by go_simp; rfl) rfl ?_; go_simp))
        refine Reg.oneT rfl ?_ 
        obtain ⟨x, hb⟩ : ∃ v, (v6).heap.size = v := ⟨_, rfl⟩
        obtain ⟨v7, hV⟩ : ∃ v, (v6).alloc (.cells #[.int .i64 0, .int .i64 0, .slice none 0 0] 53) = v := ⟨_, rfl⟩
        have hk : Kp No v6 v7 := by rw [← hV]; exact (Kp.refl _ _).alloc _
        have HX : Hid (Blk v7 x 53 [.int .i64 0, .int .i64 0, .slice none 0 0]) := Lib.hid (by rw [← hV, ← hb]; exact Blk.new _ _ _)
        have HNx : Hid (t < x ∧ g < x ∧ y < x) := Lib.hid ⟨by rw [← hb]; exact Blk.lt HT.out, by rw [← hb]; exact Blk.lt HG.out, by rw [← hb]; exact Blk.lt HY.out⟩
        have HT := Lib.hid (HT.out.kept hk (fun h => h))
        have HG := Lib.hid (HG.out.kept hk (fun h => h))
        have HY := Lib.hid (HY.out.kept hk (fun h => h))
        have HKW := Lib.hid (HKW.out.trans' hk)
        clear hk t0 t1
        have t0 : v7.cell? ⟨t, 0, none⟩ = some _ := Blk.cell HT.out rfl
        have t1 : v7.cell? ⟨t, 1, none⟩ = some _ := Blk.cell HT.out rfl
        go_wp2_with fail
        try rw [hV]
        try rw [hb]
        clear hV hb
        (refine ⟨?anew, ?_⟩; case anew => ((repeat (refine Reg.anew_cons rfl rfl (fun _ => by go_simp) ?_)); exact Reg.anew_nil))
        repeat (first | (refine Reg.lookT rfl rfl rfl (by go_simp; rfl) rfl ?_; go_simp))
        refine Reg.oneT rfl ?_ 
        have c0 : v7.cell? ⟨x, 0, none⟩ = some _ := Blk.cell HX.out rfl
        have c1 : v7.cell? ⟨x, 1, none⟩ = some _ := Blk.cell HX.out rfl
        have c2 : v7.cell? ⟨x, 2, none⟩ = some _ := Blk.cell HX.out rfl
        have cf := Blk.fr HX.out
        obtain ⟨v8, hV⟩ : ∃ v, (((v7).setCell ⟨x, 0, none⟩ (.int .i64 2)).setCell ⟨x, 1, none⟩ (.int .i64 1)).setCell ⟨x, 2, none⟩ (.slice none 0 0) = v := ⟨_, rfl⟩
        have hk : Kp (· = x) v7 v8 := by rw [← hV]; exact (((Kp.refl (· = x) v7).setCell (p := ⟨x, 0, none⟩) (fun _ => rfl) _).setCell (p := ⟨x, 1, none⟩) (fun _ => rfl) _).setCell (p := ⟨x, 2, none⟩) (fun _ => rfl) _
        have HX2 : Hid (Blk v8 x 53 [.int .i64 2, .int .i64 1, .slice none 0 0]) := Lib.hid (by rw [← hV]; exact Blk.set (Blk.set (Blk.set HX.out 0 (.int .i64 2)) 1 (.int .i64 1)) 2 (.slice none 0 0))
        have HT := Lib.hid (HT.out.kept hk (by have n0 := HNg.out; have n1 := HNy.out; have n2 := HNx.out; omega))
        have HG := Lib.hid (HG.out.kept hk (by have n0 := HNg.out; have n1 := HNy.out; have n2 := HNx.out; omega))
        have HY := Lib.hid (HY.out.kept hk (by have n0 := HNg.out; have n1 := HNy.out; have n2 := HNx.out; omega))
        have HX := HX2
        have HKW : Hid (Kp No w1 v8) := Lib.hid (HKW.out.trans hk (fun k hk e => by have h1 := HTW.out; have h2 := HNx.out; omega))
        clear hk t0 t1
        have t0 : v8.cell? ⟨t, 0, none⟩ = some _ := Blk.cell HT.out rfl
        have t1 : v8.cell? ⟨t, 1, none⟩ = some _ := Blk.cell HT.out rfl
        go_wp2_with fail
        try rw [hV]
        clear hV c0 c1 c2 cf
        (refine ⟨?anew, ?_⟩; case anew => ((repeat (refine Reg.anew_cons rfl rfl (fun _ => by go_simp) ?_)); exact Reg.anew_nil))
        repeat (first | (refine Reg.lookT rfl rfl rfl (by go_simp; rfl) rfl ?_; go_simp))
        refine Reg.oneT rfl ?_ 
        have c0 : v8.cell? ⟨y, 0, none⟩ = some _ := Blk.cell HY.out rfl
        have c1 : v8.cell? ⟨y, 1, none⟩ = some _ := Blk.cell HY.out rfl
        have c2 : v8.cell? ⟨y, 2, none⟩ = some _ := Blk.cell HY.out rfl
        have cf := Blk.fr HY.out
        obtain ⟨v9, hV⟩ : ∃ v, (((v8).setCell ⟨y, 0, none⟩ (.int .i64 2)).setCell ⟨y, 1, none⟩ (.int .i64 1)).setCell ⟨y, 2, none⟩ (.slice (some ⟨g, 0, none⟩) 1 1) = v := ⟨_, rfl⟩
        have hk : Kp (· = y) v8 v9 := by rw [← hV]; exact (((Kp.refl (· = y) v8).setCell (p := ⟨y, 0, none⟩) (fun _ => rfl) _).setCell (p := ⟨y, 1, none⟩) (fun _ => rfl) _).setCell (p := ⟨y, 2, none⟩) (fun _ => rfl) _
        have HY2 : Hid (Blk v9 y 53 [.int .i64 2, .int .i64 1, .slice (some ⟨g, 0, none⟩) 1 1]) := Lib.hid (by rw [← hV]; exact Blk.set (Blk.set (Blk.set HY.out 0 (.int .i64 2)) 1 (.int .i64 1)) 2 (.slice (some ⟨g, 0, none⟩) 1 1))
        have HT := Lib.hid (HT.out.kept hk (by have n0 := HNg.out; have n1 := HNy.out; have n2 := HNx.out; omega))
        have HG := Lib.hid (HG.out.kept hk (by have n0 := HNg.out; have n1 := HNy.out; have n2 := HNx.out; omega))
        have HX := Lib.hid (HX.out.kept hk (by have n0 := HNg.out; have n1 := HNy.out; have n2 := HNx.out; omega))
        have HY := HY2
        have HKW : Hid (Kp No w1 v9) := Lib.hid (HKW.out.trans hk (fun k hk e => by have h1 := HTW.out; have h2 := HNy.out; omega))
        clear hk t0 t1
        have t0 : v9.cell? ⟨t, 0, none⟩ = some _ := Blk.cell HT.out rfl
        have t1 : v9.cell? ⟨t, 1, none⟩ = some _ := Blk.cell HT.out rfl
        go_wp2_with fail
        try rw [hV]
        clear hV c0 c1 c2 cf
        refine ⟨Reg.anew_nil, ?_⟩
        repeat (first | (refine Reg.lookT rfl rfl rfl (by go_simp; rfl) rfl ?_; go_simp))
        refine Reg.doneT ?_
        simp only [Exit.then]
        go_wp2_with fail
        go_meet
        exact ⟨x, y, g, rfl, rfl, HX, HY, HG, HKW, Lib.hid ⟨by have h := HNx.out; omega, by have h := HNy.out; omega⟩⟩
    · skip
      obtain ⟨x, hb⟩ : ∃ v, (wd).heap.size = v := ⟨_, rfl⟩
      obtain ⟨v10, hV⟩ : ∃ v, (wd).alloc (.cells #[.int .i64 0, .int .i64 0, .slice none 0 0] 53) = v := ⟨_, rfl⟩
      have hk : Kp No wd v10 := by rw [← hV]; exact (Kp.refl _ _).alloc _
      have HX : Hid (Blk v10 x 53 [.int .i64 0, .int .i64 0, .slice none 0 0]) := Lib.hid (by rw [← hV, ← hb]; exact Blk.new _ _ _)
      have HNx : Hid (t < x) := Lib.hid (by rw [← hb]; exact Blk.lt HT.out)
      have HT := Lib.hid (HT.out.kept hk (fun h => h))
      have HKW := Lib.hid (HKW.out.trans' hk)
      clear hk t0 t1
      have t0 : v10.cell? ⟨t, 0, none⟩ = some _ := Blk.cell HT.out rfl
      have t1 : v10.cell? ⟨t, 1, none⟩ = some _ := Blk.cell HT.out rfl
      go_wp2_with fail
      try rw [hV]
      try rw [hb]
      clear hV hb
      (refine ⟨?anew, ?_⟩; case anew => ((repeat (refine Reg.anew_cons rfl rfl (fun _ => by go_simp) ?_)); exact Reg.anew_nil))
      repeat (first | (refine Reg.lookT rfl rfl rfl (by go_simp; rfl) rfl ?_; go_simp))
      refine Reg.twoT rfl rfl ?_ ?_ 
      · skip
        obtain ⟨g, hb⟩ : ∃ v, (v10).heap.size = v := ⟨_, rfl⟩
        obtain ⟨v11, hV⟩ : ∃ v, (v10).alloc (.cells #[.int .i64 2] 3) = v := ⟨_, rfl⟩
        have hk : Kp No v10 v11 := by rw [← hV]; exact (Kp.refl _ _).alloc _
        have HG : Hid (Blk v11 g 3 [.int .i64 2]) := Lib.hid (by rw [← hV, ← hb]; exact Blk.new _ _ _)
        have HNg : Hid (t < g ∧ x < g) := Lib.hid ⟨by rw [← hb]; exact Blk.lt HT.out, by rw [← hb]; exact Blk.lt HX.out⟩
        have HT := Lib.hid (HT.out.kept hk (fun h => h))
        have HX := Lib.hid (HX.out.kept hk (fun h => h))
        have HKW := Lib.hid (HKW.out.trans' hk)
        clear hk t0 t1
        have t0 : v11.cell? ⟨t, 0, none⟩ = some _ := Blk.cell HT.out rfl
        have t1 : v11.cell? ⟨t, 1, none⟩ = some _ := Blk.cell HT.out rfl
        go_wp2_with fail
        try rw [hV]
        try rw [hb]
        clear hV hb
        (refine ⟨?anew, ?_⟩; case anew => ((repeat (refine Reg.anew_cons rfl rfl (fun _ => by go_simp) ?_)); exact Reg.anew_nil))
        repeat (first | (refine Reg.lookT rfl rfl rfl (by go_simp; rfl) rfl ?_; go_simp))
        refine Reg.oneT rfl ?_ 
        obtain ⟨y, hb⟩ : ∃ v, (v11).heap.size = v := ⟨_, rfl⟩
        obtain ⟨v12, hV⟩ : ∃ v, (v11).alloc (.cells #[.int .i64 0, .int .i64 0, .slice none 0 0] 53) = v := ⟨_, rfl⟩
        have hk : Kp No v11 v12 := by rw [← hV]; exact (Kp.refl _ _).alloc _
        have HY : Hid (Blk v12 y 53 [.int .i64 0, .int .i64 0, .slice none 0 0]) := Lib.hid (by rw [← hV, ← hb]; exact Blk.new _ _ _)
        have HNy : Hid (t < y ∧ x < y ∧ g < y) := Lib.hid ⟨by rw [← hb]; exact Blk.lt HT.out, by rw [← hb]; exact Blk.lt HX.out, by rw [← hb]; exact Blk.lt HG.out⟩
        have HT := Lib.hid (HT.out.kept hk (fun h => h))
        have HX := Lib.hid (HX.out.kept hk (fun h => h))
        have HG := Lib.hid (HG.out.kept hk (fun h => h))
        have HKW := Lib.hid (HKW.out.trans' hk)
        clear hk t0 t1
        have t0 : v12.cell? ⟨t, 0, none⟩ = some _ := Blk.cell HT.out rfl
        have t1 : v12.cell? ⟨t, 1, none⟩ = some _ := Blk.cell HT.out rfl
        go_wp2_with fail
        try rw [hV]
        try rw [hb]
        clear hV hb
        (refine ⟨?anew, ?_⟩; case anew => ((repeat (refine Reg.anew_cons rfl rfl (fun _ => by go_simp) ?_)); exact Reg.anew_nil))
        repeat (first | (refine Reg.lookT rfl rfl rfl (by go_simp; rfl) rfl ?_; go_simp))
        refine Reg.oneT rfl ?_ 
        have c0 : v12.cell? ⟨x, 0, none⟩ = some _ := Blk.cell HX.out rfl
        have c1 : v12.cell? ⟨x, 1, none⟩ = some _ := Blk.cell HX.out rfl
        have c2 : v12.cell? ⟨x, 2, none⟩ = some _ := Blk.cell HX.out rfl
        have cf := Blk.fr HX.out
        obtain ⟨v13, hV⟩ : ∃ v, (((v12).setCell ⟨x, 0, none⟩ (.int .i64 2)).setCell ⟨x, 1, none⟩ (.int .i64 1)).setCell ⟨x, 2, none⟩ (.slice none 0 0) = v := ⟨_, rfl⟩
        have hk : Kp (· = x) v12 v13 := by rw [← hV]; exact (((Kp.refl (· = x) v12).setCell (p := ⟨x, 0, none⟩) (fun _ => rfl) _).setCell (p := ⟨x, 1, none⟩) (fun _ => rfl) _).setCell (p := ⟨x, 2, none⟩) (fun _ => rfl) _
        have HX2 : Hid (Blk v13 x 53 [.int .i64 2, .int .i64 1, .slice none 0 0]) := Lib.hid (by rw [← hV]; exact Blk.set (Blk.set (Blk.set HX.out 0 (.int .i64 2)) 1 (.int .i64 1)) 2 (.slice none 0 0))
        have HT := Lib.hid (HT.out.kept hk (by have n0 := HNx.out; have n1 := HNg.out; have n2 := HNy.out; omega))
        have HG := Lib.hid (HG.out.kept hk (by have n0 := HNx.out; have n1 := HNg.out; have n2 := HNy.out; omega))
        have HY := Lib.hid (HY.out.kept hk (by have n0 := HNx.out; have n1 := HNg.out; have n2 := HNy.out; omega))
        have HX := HX2
        have HKW : Hid (Kp No w1 v13) := Lib.hid (HKW.out.trans hk (fun k hk e => by have h1 := HTW.out; have h2 := HNx.out; omega))
        clear hk t0 t1
        have t0 : v13.cell? ⟨t, 0, none⟩ = some _ := Blk.cell HT.out rfl
        have t1 : v13.cell? ⟨t, 1, none⟩ = some _ := Blk.cell HT.out rfl
        go_wp2_with fail
        try rw [hV]
        clear hV c0 c1 c2 cf
        (refine ⟨?anew, ?_⟩; case anew => ((repeat (refine Reg.anew_cons rfl rfl (fun _ => by go_simp) ?_)); exact Reg.anew_nil))
        repeat (first | (refine Reg.lookT rfl rfl rfl (by go_simp; rfl) rfl ?_; go_simp))
        refine Reg.oneT rfl ?_ 
        have c0 : v13.cell? ⟨y, 0, none⟩ = some _ := Blk.cell HY.out rfl
        have c1 : v13.cell? ⟨y, 1, none⟩ = some _ := Blk.cell HY.out rfl
        have c2 : v13.cell? ⟨y, 2, none⟩ = some _ := Blk.cell HY.out rfl
        have cf := Blk.fr HY.out
        obtain ⟨v14, hV⟩ : ∃ v, (((v13).setCell ⟨y, 0, none⟩ (.int .i64 2)).setCell ⟨y, 1, none⟩ (.int .i64 1)).setCell ⟨y, 2, none⟩ (.slice (some ⟨g, 0, none⟩) 1 1) = v := ⟨_, rfl⟩
        have hk : Kp (· = y) v13 v14 := by rw [← hV]; exact (((Kp.refl (· = y) v13).setCell (p := ⟨y, 0, none⟩) (fun _ => rfl) _).setCell (p := ⟨y, 1, none⟩) (fun _ => rfl) _).setCell (p := ⟨y, 2, none⟩) (fun _ => rfl) _
        have HY2 : Hid (Blk v14 y 53 [.int .i64 2, .int .i64 1, .slice (some ⟨g, 0, none⟩) 1 1]) := Lib.hid (by rw [← hV]; exact Blk.set (Blk.set (Blk.set HY.out 0 (.int .i64 2)) 1 (.int .i64 1)) 2 (.slice (some ⟨g, 0, none⟩) 1 1))
        have HT := Lib.hid (HT.out.kept hk (by have n0 := HNx.out; have n1 := HNg.out; have n2 := HNy.out; omega))
        have HX := Lib.hid (HX.out.kept hk (by have n0 := HNx.out; have n1 := HNg.out; have n2 := HNy.out; omega))
        have HG := Lib.hid (HG.out.kept hk (by have n0 := HNx.out; have n1 := HNg.out; have n2 := HNy.out; omega))
        have HY := HY2
        have HKW : Hid (Kp No w1 v14) := Lib.hid (HKW.out.trans hk (fun k hk e => by have h1 := HTW.out; have h2 := HNy.out; omega))
        clear hk t0 t1
        have t0 : v14.cell? ⟨t, 0, none⟩ = some _ := Blk.cell HT.out rfl
        have t1 : v14.cell? ⟨t, 1, none⟩ = some _ := Blk.cell HT.out rfl
        go_wp2_with fail
        try rw [hV]
        clear hV c0 c1 c2 cf
        refine ⟨Reg.anew_nil, ?_⟩
        repeat (first | (refine Reg.lookT rfl rfl rfl (by go_simp; rfl) rfl ?_; go_simp))
        refine Reg.doneT ?_
        simp only [Exit.then]
        go_wp2_with fail
        go_meet
        exact ⟨x, y, g, rfl, rfl, HX, HY, HG, HKW, Lib.hid ⟨by have h := HNx.out; omega, by have h := HNy.out; omega⟩⟩
      · skip
        obtain ⟨y, hb⟩ : ∃ v, (v10).heap.size = v := ⟨_, rfl⟩
        obtain ⟨v15, hV⟩ : ∃ v, (v10).alloc (.cells #[.int .i64 0, .int .i64 0, .slice none 0 0] 53) = v := ⟨_, rfl⟩
        have hk : Kp No v10 v15 := by rw [← hV]; exact (Kp.refl _ _).alloc _
        have HY : Hid (Blk v15 y 53 [.int .i64 0, .int .i64 0, .slice none 0 0]) := Lib.hid (by rw [← hV, ← hb]; exact Blk.new _ _ _)
        have HNy : Hid (t < y ∧ x < y) := Lib.hid ⟨by rw [← hb]; exact Blk.lt HT.out, by rw [← hb]; exact Blk.lt HX.out⟩
        have HT := Lib.hid (HT.out.kept hk (fun h => h))
        have HX := Lib.hid (HX.out.kept hk (fun h => h))
        have HKW := Lib.hid (HKW.out.trans' hk)
        clear hk t0 t1
        have t0 : v15.cell? ⟨t, 0, none⟩ = some _ := Blk.cell HT.out rfl
        have t1 : v15.cell? ⟨t, 1, none⟩ = some _ := Blk.cell HT.out rfl
        go_wp2_with fail
        try rw [hV]
        try rw [hb]
        clear hV hb
        (refine ⟨?anew, ?_⟩; case anew => ((repeat (refine Reg.anew_cons rfl rfl (fun _ => by go_simp) ?_)); exact Reg.anew_nil))
        repeat (first | (refine Reg.lookT rfl rfl rfl (by go_simp; rfl) rfl ?_; go_simp))
        refine Reg.twoT rfl rfl ?_ ?_ 
        · skip
          obtain ⟨g, hb⟩ : ∃ v, (v15).heap.size = v := ⟨_, rfl⟩
          obtain ⟨v16, hV⟩ : ∃ v, (v15).alloc (.cells #[.int .i64 2] 3) = v := ⟨_, rfl⟩
          have hk : Kp No v15 v16 := by rw [← hV]; exact (Kp.refl _ _).alloc _
          have HG : Hid (Blk v16 g 3 [.int .i64 2]) := Lib.hid (by rw [← hV, ← hb]; exact Blk.new _ _ _)
          have HNg : Hid (t < g ∧ x < g ∧ y < g) := Lib.hid ⟨by rw [← hb]; exact Blk.lt HT.out, by rw [← hb]; exact Blk.lt HX.out, by rw [← hb]; exact Blk.lt HY.out⟩
          have HT := Lib.hid (HT.out.kept hk (fun h => h))
          have HX := Lib.hid (HX.out.kept hk (fun h => h))
          have HY := Lib.hid (HY.out.kept hk (fun h => h))
          have HKW := Lib.hid (HKW.out.trans' hk)
          clear hk t0 t1
          have t0 : v16.cell? ⟨t, 0, none⟩ = some _ := Blk.cell HT.out rfl
          have t1 : v16.cell? ⟨t, 1, none⟩ = some _ := Blk.cell HT.out rfl
          go_wp2_with fail
          try rw [hV]
          try rw [hb]
          clear hV hb
          (refine ⟨?anew, ?_⟩; case anew => ((repeat (refine Reg.anew_cons rfl rfl (fun _ => by go_simp) ?_)); exact Reg.anew_nil))
          repeat (first | (refine Reg.lookT rfl rfl rfl (by go_simp; rfl) rfl ?_; go_simp))
          refine Reg.oneT rfl ?_ 
          have c0 : v16.cell? ⟨x, 0, none⟩ = some _ := Blk.cell HX.out rfl
          have c1 : v16.cell? ⟨x, 1, none⟩ = some _ := Blk.cell HX.out rfl
          have c2 : v16.cell? ⟨x, 2, none⟩ = some _ := Blk.cell HX.out rfl
          have cf := Blk.fr HX.out
          obtain ⟨v17, hV⟩ : ∃ v, (((v16).setCell ⟨x, 0, none⟩ (.int .i64 2)).setCell ⟨x, 1, none⟩ (.int .i64 1)).setCell ⟨x, 2, none⟩ (.slice none 0 0) = v := ⟨_, rfl⟩
          have hk : Kp (· = x) v16 v17 := by rw [← hV]; exact (((Kp.refl (· = x) v16).setCell (p := ⟨x, 0, none⟩) (fun _ => rfl) _).setCell (p := ⟨x, 1, none⟩) (fun _ => rfl) _).setCell (p := ⟨x, 2, none⟩) (fun _ => rfl) _
          have HX2 : Hid (Blk v17 x 53 [.int .i64 2, .int .i64 1, .slice none 0 0]) := Lib.hid (by rw [← hV]; exact Blk.set (Blk.set (Blk.set HX.out 0 (.int .i64 2)) 1 (.int .i64 1)) 2 (.slice none 0 0))
          have HT := Lib.hid (HT.out.kept hk (by have n0 := HNx.out; have n1 := HNy.out; have n2 := HNg.out; omega))
          have HY := Lib.hid (HY.out.kept hk (by have n0 := HNx.out; have n1 := HNy.out; have n2 := HNg.out; omega))
          have HG := Lib.hid (HG.out.kept hk (by have n0 := HNx.out; have n1 := HNy.out; have n2 := HNg.out; omega))
          have HX := HX2
          have HKW : Hid (Kp No w1 v17) := Lib.hid (HKW.out.trans hk (fun k hk e => by have h1 := HTW.out; have h2 := HNx.out; omega))
          clear hk t0 t1
          have t0 : v17.cell? ⟨t, 0, none⟩ = some _ := Blk.cell HT.out rfl
          have t1 : v17.cell? ⟨t, 1, none⟩ = some _ := Blk.cell HT.out rfl
          go_wp2_with fail
          try rw [hV]
          clear hV c0 c1 c2 cf
          (refine ⟨?anew, ?_⟩; case anew => ((repeat (refine Reg.anew_cons rfl rfl (fun _ => by go_simp) ?_)); exact Reg.anew_nil))
          repeat (first | (refine Reg.lookT rfl rfl rfl (by go_simp; rfl) rfl ?_; go_simp))
          refine Reg.oneT rfl ?_ 
          have c0 : v17.cell? ⟨y, 0, none⟩ = some _ := Blk.cell HY.out rfl
          have c1 : v17.cell? ⟨y, 1, none⟩ = some _ := Blk.cell HY.out rfl
          have c2 : v17.cell? ⟨y, 2, none⟩ = some _ := Blk.cell HY.out rfl
          have cf := Blk.fr HY.out
          obtain ⟨v18, hV⟩ : ∃ v, (((v17).setCell ⟨y, 0, none⟩ (.int .i64 2)).setCell ⟨y, 1, none⟩ (.int .i64 1)).setCell ⟨y, 2, none⟩ (.slice (some ⟨g, 0, none⟩) 1 1) = v := ⟨_, rfl⟩
          have hk : Kp (· = y) v17 v18 := by rw [← hV]; exact (((Kp.refl (· = y) v17).setCell (p := ⟨y, 0, none⟩) (fun _ => rfl) _).setCell (p := ⟨y, 1, none⟩) (fun _ => rfl) _).setCell (p := ⟨y, 2, none⟩) (fun _ => rfl) _
          have HY2 : Hid (Blk v18 y 53 [.int .i64 2, .int .i64 1, .slice (some ⟨g, 0, none⟩) 1 1]) := Lib.hid (by rw [← hV]; exact Blk.set (Blk.set (Blk.set HY.out 0 (.int .i64 2)) 1 (.int .i64 1)) 2 (.slice (some ⟨g, 0, none⟩) 1 1))
          have HT := Lib.hid (HT.out.kept hk (by have n0 := HNx.out; have n1 := HNy.out; have n2 := HNg.out; omega))
          have HX := Lib.hid (HX.out.kept hk (by have n0 := HNx.out; have n1 := HNy.out; have n2 := HNg.out; omega))
          have HG := Lib.hid (HG.out.kept hk (by have n0 := HNx.out; have n1 := HNy.out; have n2 := HNg.out; omega))
          have HY := HY2
          have HKW : Hid (Kp No w1 v18) := Lib.hid (HKW.out.trans hk (fun k hk e => by have h1 := HTW.out; have h2 := HNy.out; omega))
          clear hk t0 t1
          have t0 : v18.cell? ⟨t, 0, none⟩ = some _ := Blk.cell HT.out rfl
          have t1 : v18.cell? ⟨t, 1, none⟩ = some _ := Blk.cell HT.out rfl
          go_wp2_with fail
          try rw [hV]
          clear hV c0 c1 c2 cf
          refine ⟨Reg.anew_nil, ?_⟩
          repeat (first | (refine Reg.lookT rfl rfl rfl (by go_simp; rfl) rfl ?_; go_simp))
          refine Reg.doneT ?_
          simp only [Exit.then]
          go_wp2_with fail
          go_meet
          exact ⟨x, y, g, rfl, rfl, HX, HY, HG, HKW, Lib.hid ⟨by have h := HNx.out; omega, by have h := HNy.out; omega⟩⟩
        · skip
          have c0 : v15.cell? ⟨x, 0, none⟩ = some _ := Blk.cell HX.out rfl
          have c1 : v15.cell? ⟨x, 1, none⟩ = some _ := Blk.cell HX.out rfl
          have c2 : v15.cell? ⟨x, 2, none⟩ = some _ := Blk.cell HX.out rfl
          have cf := Blk.fr HX.out
          obtain ⟨v19, hV⟩ : ∃ v, (((v15).setCell ⟨x, 0, none⟩ (.int .i64 2)).setCell ⟨x, 1, none⟩ (.int .i64 1)).setCell ⟨x, 2, none⟩ (.slice none 0 0) = v := ⟨_, rfl⟩
          have hk : Kp (· = x) v15 v19 := by rw [← hV]; exact (((Kp.refl (· = x) v15).setCell (p := ⟨x, 0, none⟩) (fun _ => rfl) _).setCell (p := ⟨x, 1, none⟩) (fun _ => rfl) _).setCell (p := ⟨x, 2, none⟩) (fun _ => rfl) _
          have HX2 : Hid (Blk v19 x 53 [.int .i64 2, .int .i64 1, .slice none 0 0]) := Lib.hid (by rw [← hV]; exact Blk.set (Blk.set (Blk.set HX.out 0 (.int .i64 2)) 1 (.int .i64 1)) 2 (.slice none 0 0))
          have HT := Lib.hid (HT.out.kept hk (by have n0 := HNx.out; have n1 := HNy.out; omega))
          have HY := Lib.hid (HY.out.kept hk (by have n0 := HNx.out; have n1 := HNy.out; omega))
          have HX := HX2
          have HKW : Hid (Kp No w1 v19) := Lib.hid (HKW.out.trans hk (fun k hk e => by have h1 := HTW.out; have h2 := HNx.out; omega))
          clear hk t0 t1
          have t0 : v19.cell? ⟨t, 0, none⟩ = some _ := Blk.cell HT.out rfl
          have t1 : v19.cell? ⟨t, 1, none⟩ = some _ := Blk.cell HT.out rfl
          go_wp2_with fail
          try rw [hV]
          clear hV c0 c1 c2 cf
          (refine ⟨?anew, ?_⟩; case anew => ((repeat (refine Reg.anew_cons rfl rfl (fun _ => by go_simp) ?_)); exact Reg.anew_nil))
          repeat (first | (refine Reg.lookT rfl rfl rfl (by go_simp; rfl) rfl ?_; go_simp))
          refine Reg.oneT rfl ?_ 
          obtain ⟨g, hb⟩ : ∃ v, (v19).heap.size = v := ⟨_, rfl⟩
          obtain ⟨v20, hV⟩ : ∃ v, (v19).alloc (.cells #[.int .i64 2] 3) = v := ⟨_, rfl⟩
          have hk : Kp No v19 v20 := by rw [← hV]; exact (Kp.refl _ _).alloc _
          have HG : Hid (Blk v20 g 3 [.int .i64 2]) := Lib.hid (by rw [← hV, ← hb]; exact Blk.new _ _ _)
          have HNg : Hid (t < g ∧ x < g ∧ y < g) := Lib.hid ⟨by rw [← hb]; exact Blk.lt HT.out, by rw [← hb]; exact Blk.lt HX.out, by rw [← hb]; exact Blk.lt HY.out⟩
          have HT := Lib.hid (HT.out.kept hk (fun h => h))
          have HX := Lib.hid (HX.out.kept hk (fun h => h))
          have HY := Lib.hid (HY.out.kept hk (fun h => h))
          have HKW := Lib.hid (HKW.out.trans' hk)
          clear hk t0 t1
          have t0 : v20.cell? ⟨t, 0, none⟩ = some _ := Blk.cell HT.out rfl
          have t1 : v20.cell? ⟨t, 1, none⟩ = some _ := Blk.cell HT.out rfl
          go_wp2_with fail
          try rw [hV]
          try rw [hb]
          clear hV hb
          (refine ⟨?anew, ?_⟩; case anew => ((repeat (refine Reg.anew_cons rfl rfl (fun _ => by go_simp) ?_)); exact Reg.anew_nil))
          repeat (first | (refine Reg.lookT rfl rfl rfl (by go_simp; rfl) rfl ?_; go_simp))
          refine Reg.oneT rfl ?_ 
          have c0 : v20.cell? ⟨y, 0, none⟩ = some _ := Blk.cell HY.out rfl
          have c1 : v20.cell? ⟨y, 1, none⟩ = some _ := Blk.cell HY.out rfl
          have c2 : v20.cell? ⟨y, 2, none⟩ = some _ := Blk.cell HY.out rfl
          have cf := Blk.fr HY.out
          obtain ⟨v21, hV⟩ : ∃ v, (((v20).setCell ⟨y, 0, none⟩ (.int .i64 2)).setCell ⟨y, 1, none⟩ (.int .i64 1)).setCell ⟨y, 2, none⟩ (.slice (some ⟨g, 0, none⟩) 1 1) = v := ⟨_, rfl⟩
          have hk : Kp (· = y) v20 v21 := by rw [← hV]; exact (((Kp.refl (· = y) v20).setCell (p := ⟨y, 0, none⟩) (fun _ => rfl) _).setCell (p := ⟨y, 1, none⟩) (fun _ => rfl) _).setCell (p := ⟨y, 2, none⟩) (fun _ => rfl) _
          have HY2 : Hid (Blk v21 y 53 [.int .i64 2, .int .i64 1, .slice (some ⟨g, 0, none⟩) 1 1]) := Lib.hid (by rw [← hV]; exact Blk.set (Blk.set (Blk.set HY.out 0 (.int .i64 2)) 1 (.int .i64 1)) 2 (.slice (some ⟨g, 0, none⟩) 1 1))
          have HT := Lib.hid (HT.out.kept hk (by have n0 := HNx.out; have n1 := HNy.out; have n2 := HNg.out; omega))
          have HX := Lib.hid (HX.out.kept hk (by have n0 := HNx.out; have n1 := HNy.out; have n2 := HNg.out; omega))
          have HG := Lib.hid (HG.out.kept hk (by have n0 := HNx.out; have n1 := HNy.out; have n2 := HNg.out; omega))
          have HY := HY2
          have HKW : Hid (Kp No w1 v21) := Lib.hid (HKW.out.trans hk (fun k hk e => by have h1 := HTW.out; have h2 := HNy.out; omega))
          clear hk t0 t1
          have t0 : v21.cell? ⟨t, 0, none⟩ = some _ := Blk.cell HT.out rfl
          have t1 : v21.cell? ⟨t, 1, none⟩ = some _ := Blk.cell HT.out rfl
          go_wp2_with fail
          try rw [hV]
          clear hV c0 c1 c2 cf
          refine ⟨Reg.anew_nil, ?_⟩
          repeat (first | (refine Reg.lookT rfl rfl rfl (by go_simp; rfl) rfl ?_; go_simp))
          refine Reg.doneT ?_
          simp only [Exit.then]
          go_wp2_with fail
          go_meet
          exact ⟨x, y, g, rfl, rfl, HX, HY, HG, HKW, Lib.hid ⟨by have h := HNx.out; omega, by have h := HNy.out; omega⟩⟩
    · skip
      obtain ⟨y, hb⟩ : ∃ v, (wd).heap.size = v := ⟨_, rfl⟩
      obtain ⟨v22, hV⟩ : ∃ v, (wd).alloc (.cells #[.int .i64 0, .int .i64 0, .slice none 0 0] 53) = v := ⟨_, rfl⟩
      have hk : Kp No wd v22 := by rw [← hV]; exact (Kp.refl _ _).alloc _
      have HY : Hid (Blk v22 y 53 [.int .i64 0, .int .i64 0, .slice none 0 0]) := Lib.hid (by rw [← hV, ← hb]; exact Blk.new _ _ _)
      have HNy : Hid (t < y) := Lib.hid (by rw [← hb]; exact Blk.lt HT.out)
      have HT := Lib.hid (HT.out.kept hk (fun h => h))
      have HKW := Lib.hid (HKW.out.trans' hk)
      clear hk t0 t1
      have t0 : v22.cell? ⟨t, 0, none⟩ = some _ := Blk.cell HT.out rfl
      have t1 : v22.cell? ⟨t, 1, none⟩ = some _ := Blk.cell HT.out rfl
      go_wp2_with fail
      try rw [hV]
      try rw [hb]
      clear hV hb
      (refine ⟨?anew, ?_⟩; case anew => ((repeat (refine Reg.anew_cons rfl rfl (fun _ => by go_simp) ?_)); exact Reg.anew_nil))
      repeat (first | (refine Reg.lookT rfl rfl rfl (by go_simp; rfl) rfl ?_; go_simp))
      refine Reg.twoT rfl rfl ?_ ?_ 
      · skip
        obtain ⟨g, hb⟩ : ∃ v, (v22).heap.size = v := ⟨_, rfl⟩
        obtain ⟨v23, hV⟩ : ∃ v, (v22).alloc (.cells #[.int .i64 2] 3) = v := ⟨_, rfl⟩
        have hk : Kp No v22 v23 := by rw [← hV]; exact (Kp.refl _ _).alloc _
        have HG : Hid (Blk v23 g 3 [.int .i64 2]) := Lib.hid (by rw [← hV, ← hb]; exact Blk.new _ _ _)
        have HNg : Hid (t < g ∧ y < g) := Lib.hid ⟨by rw [← hb]; exact Blk.lt HT.out, by rw [← hb]; exact Blk.lt HY.out⟩
        have HT := Lib.hid (HT.out.kept hk (fun h => h))
        have HY := Lib.hid (HY.out.kept hk (fun h => h))
        have HKW := Lib.hid (HKW.out.trans' hk)
        clear hk t0 t1
        have t0 : v23.cell? ⟨t, 0, none⟩ = some _ := Blk.cell HT.out rfl
        have t1 : v23.cell? ⟨t, 1, none⟩ = some _ := Blk.cell HT.out rfl
        go_wp2_with fail
        try rw [hV]
        try rw [hb]
        clear hV hb
        (refine ⟨?anew, ?_⟩; case anew => ((repeat (refine Reg.anew_cons rfl rfl (fun _ => by go_simp) ?_)); exact Reg.anew_nil))
        repeat (first | (refine Reg.lookT rfl rfl rfl (by go_simp; rfl) rfl ?_; go_simp))
        refine Reg.oneT rfl ?_ 
        obtain ⟨x, hb⟩ : ∃ v, (v23).heap.size = v := ⟨_, rfl⟩
        obtain ⟨v24, hV⟩ : ∃ v, (v23).alloc (.cells #[.int .i64 0, .int .i64 0, .slice none 0 0] 53) = v := ⟨_, rfl⟩
        have hk : Kp No v23 v24 := by rw [← hV]; exact (Kp.refl _ _).alloc _
        have HX : Hid (Blk v24 x 53 [.int .i64 0, .int .i64 0, .slice none 0 0]) := Lib.hid (by rw [← hV, ← hb]; exact Blk.new _ _ _)
        have HNx : Hid (t < x ∧ y < x ∧ g < x) := Lib.hid ⟨by rw [← hb]; exact Blk.lt HT.out, by rw [← hb]; exact Blk.lt HY.out, by rw [← hb]; exact Blk.lt HG.out⟩
        have HT := Lib.hid (HT.out.kept hk (fun h => h))
        have HY := Lib.hid (HY.out.kept hk (fun h => h))
        have HG := Lib.hid (HG.out.kept hk (fun h => h))
        have HKW := Lib.hid (HKW.out.trans' hk)
        clear hk t0 t1
        have t0 : v24.cell? ⟨t, 0, none⟩ = some _ := Blk.cell HT.out rfl
        have t1 : v24.cell? ⟨t, 1, none⟩ = some _ := Blk.cell HT.out rfl
        go_wp2_with fail
        try rw [hV]
        try rw [hb]
        clear hV hb
        (refine ⟨?anew, ?_⟩; case anew => ((repeat (refine Reg.anew_cons rfl rfl (fun _ => by go_simp) ?_)); exact Reg.anew_nil))
        repeat (first | (refine Reg.lookT rfl rfl rfl (by go_simp; rfl) rfl ?_; go_simp))
        refine Reg.oneT rfl ?_ 
        have c0 : v24.cell? ⟨x, 0, none⟩ = some _ := Blk.cell HX.out rfl
        have c1 : v24.cell? ⟨x, 1, none⟩ = some _ := Blk.cell HX.out rfl
        have c2 : v24.cell? ⟨x, 2, none⟩ = some _ := Blk.cell HX.out rfl
        have cf := Blk.fr HX.out
        obtain ⟨v25, hV⟩ : ∃ v, (((v24).setCell ⟨x, 0, none⟩ (.int .i64 2)).setCell ⟨x, 1, none⟩ (.int .i64 1)).setCell ⟨x, 2, none⟩ (.slice none 0 0) = v := ⟨_, rfl⟩
        have hk : Kp (· = x) v24 v25 := by rw [← hV]; exact (((Kp.refl (· = x) v24).setCell (p := ⟨x, 0, none⟩) (fun _ => rfl) _).setCell (p := ⟨x, 1, none⟩) (fun _ => rfl) _).setCell (p := ⟨x, 2, none⟩) (fun _ => rfl) _
        have HX2 : Hid (Blk v25 x 53 [.int .i64 2, .int .i64 1, .slice none 0 0]) := Lib.hid (by rw [← hV]; exact Blk.set (Blk.set (Blk.set HX.out 0 (.int .i64 2)) 1 (.int .i64 1)) 2 (.slice none 0 0))
        have HT := Lib.hid (HT.out.kept hk (by have n0 := HNy.out; have n1 := HNg.out; have n2 := HNx.out; omega))
        have HY := Lib.hid (HY.out.kept hk (by have n0 := HNy.out; have n1 := HNg.out; have n2 := HNx.out; omega))
        have HG := Lib.hid (HG.out.kept hk (by have n0 := HNy.out; have n1 := HNg.out; have n2 := HNx.out; omega))
        have HX := HX2
        have HKW : Hid (Kp No w1 v25) := Lib.hid (HKW.out.trans hk (fun k hk e => by have h1 := HTW.out; have h2 := HNx.out; omega))
        clear hk t0 t1
        have t0 : v25.cell? ⟨t, 0, none⟩ = some _ := Blk.cell HT.out rfl
        have t1 : v25.cell? ⟨t, 1, none⟩ = some _ := Blk.cell HT.out rfl
        go_wp2_with fail
        try rw [hV]
        clear hV c0 c1 c2 cf
        (refine ⟨?anew, ?_⟩; case anew => ((repeat (refine Reg.anew_cons rfl rfl (fun _ => by go_simp) ?_)); exact Reg.anew_nil))
        repeat (first | (refine Reg.lookT rfl rfl rfl (by go_simp; rfl) rfl ?_; go_simp))
        refine Reg.oneT rfl ?_ 
        have c0 : v25.cell? ⟨y, 0, none⟩ = some _ := Blk.cell HY.out rfl
        have c1 : v25.cell? ⟨y, 1, none⟩ = some _ := Blk.cell HY.out rfl
        have c2 : v25.cell? ⟨y, 2, none⟩ = some _ := Blk.cell HY.out rfl
        have cf := Blk.fr HY.out
        obtain ⟨v26, hV⟩ : ∃ v, (((v25).setCell ⟨y, 0, none⟩ (.int .i64 2)).setCell ⟨y, 1, none⟩ (.int .i64 1)).setCell ⟨y, 2, none⟩ (.slice (some ⟨g, 0, none⟩) 1 1) = v := ⟨_, rfl⟩
        have hk : Kp (· = y) v25 v26 := by rw [← hV]; exact (((Kp.refl (· = y) v25).setCell (p := ⟨y, 0, none⟩) (fun _ => rfl) _).setCell (p := ⟨y, 1, none⟩) (fun _ => rfl) _).setCell (p := ⟨y, 2, none⟩) (fun _ => rfl) _
        have HY2 : Hid (Blk v26 y 53 [.int .i64 2, .int .i64 1, .slice (some ⟨g, 0, none⟩) 1 1]) := Lib.hid (by rw [← hV]; exact Blk.set (Blk.set (Blk.set HY.out 0 (.int .i64 2)) 1 (.int .i64 1)) 2 (.slice (some ⟨g, 0, none⟩) 1 1))
        have HT := Lib.hid (HT.out.kept hk (by have n0 := HNy.out; have n1 := HNg.out; have n2 := HNx.out; omega))
        have HG := Lib.hid (HG.out.kept hk (by have n0 := HNy.out; have n1 := HNg.out; have n2 := HNx.out; omega))
        have HX := Lib.hid (HX.out.kept hk (by have n0 := HNy.out; have n1 := HNg.out; have n2 := HNx.out; omega))
        have HY := HY2
        have HKW : Hid (Kp No w1 v26) := Lib.hid (HKW.out.trans hk (fun k hk e => by have h1 := HTW.out; have h2 := HNy.out; omega))
        clear hk t0 t1
        have t0 : v26.cell? ⟨t, 0, none⟩ = some _ := Blk.cell HT.out rfl
        have t1 : v26.cell? ⟨t, 1, none⟩ = some _ := Blk.cell HT.out rfl
        go_wp2_with fail
        try rw [hV]
        clear hV c0 c1 c2 cf
        refine ⟨Reg.anew_nil, ?_⟩
        repeat (first | (refine Reg.lookT rfl rfl rfl (by go_simp; rfl) rfl ?_; go_simp))
        refine Reg.doneT ?_
        simp only [Exit.then]
        go_wp2_with fail
        go_meet
        exact ⟨x, y, g, rfl, rfl, HX, HY, HG, HKW, Lib.hid ⟨by have h := HNx.out; omega, by have h := HNy.out; omega⟩⟩
      · skip
        obtain ⟨x, hb⟩ : ∃ v, (v22).heap.size = v := ⟨_, rfl⟩
        obtain ⟨v27, hV⟩ : ∃ v, (v22).alloc (.cells #[.int .i64 0, .int .i64 0, .slice none 0 0] 53) = v := ⟨_, rfl⟩
        have hk : Kp No v22 v27 := by rw [← hV]; exact (Kp.refl _ _).alloc _
        have HX : Hid (Blk v27 x 53 [.int .i64 0, .int .i64 0, .slice none 0 0]) := Lib.hid (by rw [← hV, ← hb]; exact Blk.new _ _ _)
        have HNx : Hid (t < x ∧ y < x) := Lib.hid ⟨by rw [← hb]; exact Blk.lt HT.out, by rw [← hb]; exact Blk.lt HY.out⟩
        have HT := Lib.hid (HT.out.kept hk (fun h => h))
        have HY := Lib.hid (HY.out.kept hk (fun h => h))
        have HKW := Lib.hid (HKW.out.trans' hk)
        clear hk t0 t1
        have t0 : v27.cell? ⟨t, 0, none⟩ = some _ := Blk.cell HT.out rfl
        have t1 : v27.cell? ⟨t, 1, none⟩ = some _ := Blk.cell HT.out rfl
        go_wp2_with fail
        try rw [hV]
        try rw [hb]
        clear hV hb
        (refine ⟨?anew, ?_⟩; case anew => ((repeat (refine Reg.anew_cons rfl rfl (fun _ => by go_simp) ?_)); exact Reg.anew_nil))
        repeat (first | (refine Reg.lookT rfl rfl rfl (by go_simp; rfl) rfl ?_; go_simp))
        refine Reg.twoT rfl rfl ?_ ?_ 
        · skip
          obtain ⟨g, hb⟩ : ∃ v, (v27).heap.size = v := ⟨_, rfl⟩
          obtain ⟨v28, hV⟩ : ∃ v, (v27).alloc (.cells #[.int .i64 2] 3) = v := ⟨_, rfl⟩
          have hk : Kp No v27 v28 := by rw [← hV]; exact (Kp.refl _ _).alloc _
          have HG : Hid (Blk v28 g 3 [.int .i64 2]) := Lib.hid (by rw [← hV, ← hb]; exact Blk.new _ _ _)
          have HNg : Hid (t < g ∧ y < g ∧ x < g) := Lib.hid ⟨by rw [← hb]; exact Blk.lt HT.out, by rw [← hb]; exact Blk.lt HY.out, by rw [← hb]; exact Blk.lt HX.out⟩
          have HT := Lib.hid (HT.out.kept hk (fun h => h))
          have HY := Lib.hid (HY.out.kept hk (fun h => h))
          have HX := Lib.hid (HX.out.kept hk (fun h => h))
          have HKW := Lib.hid (HKW.out.trans' hk)
          clear hk t0 t1
          have t0 : v28.cell? ⟨t, 0, none⟩ = some _ := Blk.cell HT.out rfl
          have t1 : v28.cell? ⟨t, 1, none⟩ = some _ := Blk.cell HT.out rfl
          go_wp2_with fail
          try rw [hV]
          try rw [hb]
          clear hV hb
          (refine ⟨?anew, ?_⟩; case anew => ((repeat (refine Reg.anew_cons rfl rfl (fun _ => by go_simp) ?_)); exact Reg.anew_nil))
          repeat (first | (refine Reg.lookT rfl rfl rfl (by go_simp; rfl) rfl ?_; go_simp))
          refine Reg.oneT rfl ?_ 
          have c0 : v28.cell? ⟨x, 0, none⟩ = some _ := Blk.cell HX.out rfl
          have c1 : v28.cell? ⟨x, 1, none⟩ = some _ := Blk.cell HX.out rfl
          have c2 : v28.cell? ⟨x, 2, none⟩ = some _ := Blk.cell HX.out rfl
          have cf := Blk.fr HX.out
          obtain ⟨v29, hV⟩ : ∃ v, (((v28).setCell ⟨x, 0, none⟩ (.int .i64 2)).setCell ⟨x, 1, none⟩ (.int .i64 1)).setCell ⟨x, 2, none⟩ (.slice none 0 0) = v := ⟨_, rfl⟩
          have hk : Kp (· = x) v28 v29 := by rw [← hV]; exact (((Kp.refl (· = x) v28).setCell (p := ⟨x, 0, none⟩) (fun _ => rfl) _).setCell (p := ⟨x, 1, none⟩) (fun _ => rfl) _).setCell (p := ⟨x, 2, none⟩) (fun _ => rfl) _
          have HX2 : Hid (Blk v29 x 53 [.int .i64 2, .int .i64 1, .slice none 0 0]) := Lib.hid (by rw [← hV]; exact Blk.set (Blk.set (Blk.set HX.out 0 (.int .i64 2)) 1 (.int .i64 1)) 2 (.slice none 0 0))
          have HT := Lib.hid (HT.out.kept hk (by have n0 := HNy.out; have n1 := HNx.out; have n2 := HNg.out; omega))
          have HY := Lib.hid (HY.out.kept hk (by have n0 := HNy.out; have n1 := HNx.out; have n2 := HNg.out; omega))
          have HG := Lib.hid (HG.out.kept hk (by have n0 := HNy.out; have n1 := HNx.out; have n2 := HNg.out; omega))
          have HX := HX2
          have HKW : Hid (Kp No w1 v29) := Lib.hid (HKW.out.trans hk (fun k hk e => by have h1 := HTW.out; have h2 := HNx.out; omega))
          clear hk t0 t1
          have t0 : v29.cell? ⟨t, 0, none⟩ = some _ := Blk.cell HT.out rfl
          have t1 : v29.cell? ⟨t, 1, none⟩ = some _ := Blk.cell HT.out rfl
          go_wp2_with fail
          try rw [hV]
          clear hV c0 c1 c2 cf
          (refine ⟨?anew, ?_⟩; case anew => ((repeat (refine Reg.anew_cons rfl rfl (fun _ => by go_simp) ?_)); exact Reg.anew_nil))
          repeat (first | (refine Reg.lookT rfl rfl rfl (by go_simp; rfl) rfl ?_; go_simp))
          refine Reg.oneT rfl ?_ 
          have c0 : v29.cell? ⟨y, 0, none⟩ = some _ := Blk.cell HY.out rfl
          have c1 : v29.cell? ⟨y, 1, none⟩ = some _ := Blk.cell HY.out rfl
          have c2 : v29.cell? ⟨y, 2, none⟩ = some _ := Blk.cell HY.out rfl
          have cf := Blk.fr HY.out
          obtain ⟨v30, hV⟩ : ∃ v, (((v29).setCell ⟨y, 0, none⟩ (.int .i64 2)).setCell ⟨y, 1, none⟩ (.int .i64 1)).setCell ⟨y, 2, none⟩ (.slice (some ⟨g, 0, none⟩) 1 1) = v := ⟨_, rfl⟩
          have hk : Kp (· = y) v29 v30 := by rw [← hV]; exact (((Kp.refl (· = y) v29).setCell (p := ⟨y, 0, none⟩) (fun _ => rfl) _).setCell (p := ⟨y, 1, none⟩) (fun _ => rfl) _).setCell (p := ⟨y, 2, none⟩) (fun _ => rfl) _
          have HY2 : Hid (Blk v30 y 53 [.int .i64 2, .int .i64 1, .slice (some ⟨g, 0, none⟩) 1 1]) := Lib.hid (by rw [← hV]; exact Blk.set (Blk.set (Blk.set HY.out 0 (.int .i64 2)) 1 (.int .i64 1)) 2 (.slice (some ⟨g, 0, none⟩) 1 1))
          have HT := Lib.hid (HT.out.kept hk (by have n0 := HNy.out; have n1 := HNx.out; have n2 := HNg.out; omega))
          have HX := Lib.hid (HX.out.kept hk (by have n0 := HNy.out; have n1 := HNx.out; have n2 := HNg.out; omega))
          have HG := Lib.hid (HG.out.kept hk (by have n0 := HNy.out; have n1 := HNx.out; have n2 := HNg.out; omega))
          have HY := HY2
          have HKW : Hid (Kp No w1 v30) := Lib.hid (HKW.out.trans hk (fun k hk e => by have h1 := HTW.out; have h2 := HNy.out; omega))
          clear hk t0 t1
          have t0 : v30.cell? ⟨t, 0, none⟩ = some _ := Blk.cell HT.out rfl
          have t1 : v30.cell? ⟨t, 1, none⟩ = some _ := Blk.cell HT.out rfl
          go_wp2_with fail
          try rw [hV]
          clear hV c0 c1 c2 cf
          refine ⟨Reg.anew_nil, ?_⟩
          repeat (first | (refine Reg.lookT rfl rfl rfl (by go_simp; rfl) rfl ?_; go_simp))
          refine Reg.doneT ?_
          simp only [Exit.then]
          go_wp2_with fail
          go_meet
          exact ⟨x, y, g, rfl, rfl, HX, HY, HG, HKW, Lib.hid ⟨by have h := HNx.out; omega, by have h := HNy.out; omega⟩⟩
        · skip
          have c0 : v27.cell? ⟨x, 0, none⟩ = some _ := Blk.cell HX.out rfl
          have c1 : v27.cell? ⟨x, 1, none⟩ = some _ := Blk.cell HX.out rfl
          have c2 : v27.cell? ⟨x, 2, none⟩ = some _ := Blk.cell HX.out rfl
          have cf := Blk.fr HX.out
          obtain ⟨v31, hV⟩ : ∃ v, (((v27).setCell ⟨x, 0, none⟩ (.int .i64 2)).setCell ⟨x, 1, none⟩ (.int .i64 1)).setCell ⟨x, 2, none⟩ (.slice none 0 0) = v := ⟨_, rfl⟩
          have hk : Kp (· = x) v27 v31 := by rw [← hV]; exact (((Kp.refl (· = x) v27).setCell (p := ⟨x, 0, none⟩) (fun _ => rfl) _).setCell (p := ⟨x, 1, none⟩) (fun _ => rfl) _).setCell (p := ⟨x, 2, none⟩) (fun _ => rfl) _
          have HX2 : Hid (Blk v31 x 53 [.int .i64 2, .int .i64 1, .slice none 0 0]) := Lib.hid (by rw [← hV]; exact Blk.set (Blk.set (Blk.set HX.out 0 (.int .i64 2)) 1 (.int .i64 1)) 2 (.slice none 0 0))
          have HT := Lib.hid (HT.out.kept hk (by have n0 := HNy.out; have n1 := HNx.out; omega))
          have HY := Lib.hid (HY.out.kept hk (by have n0 := HNy.out; have n1 := HNx.out; omega))
          have HX := HX2
          have HKW : Hid (Kp No w1 v31) := Lib.hid (HKW.out.trans hk (fun k hk e => by have h1 := HTW.out; have h2 := HNx.out; omega))
          clear hk t0 t1
          have t0 : v31.cell? ⟨t, 0, none⟩ = some _ := Blk.cell HT.out rfl
          have t1 : v31.cell? ⟨t, 1, none⟩ = some _ := Blk.cell HT.out rfl
          go_wp2_with fail
          try rw [hV]
          clear hV c0 c1 c2 cf
          (refine ⟨?anew, ?_⟩; case anew => ((repeat (refine Reg.anew_cons rfl rfl (fun _ => by go_simp) ?_)); exact Reg.anew_nil))
          repeat (first | (refine Reg.lookT rfl rfl rfl (by go_simp; rfl) rfl ?_; go_simp))
          refine Reg.oneT rfl ?_ 
          obtain ⟨g, hb⟩ : ∃ v, (v31).heap.size = v := ⟨_, rfl⟩
          obtain ⟨v32, hV⟩ : ∃ v, (v31).alloc (.cells #[.int .i64 2] 3) = v := ⟨_, rfl⟩
          have hk : Kp No v31 v32 := by rw [← hV]; exact (Kp.refl _ _).alloc _
          have HG : Hid (Blk v32 g 3 [.int .i64 2]) := Lib.hid (by rw [← hV, ← hb]; exact Blk.new _ _ _)
          have HNg : Hid (t < g ∧ y < g ∧ x < g) := Lib.hid ⟨by rw [← hb]; exact Blk.lt HT.out, by rw [← hb]; exact Blk.lt HY.out, by rw [← hb]; exact Blk.lt HX.out⟩
          have HT := Lib.hid (HT.out.kept hk (fun h => h))
          have HY := Lib.hid (HY.out.kept hk (fun h => h))
          have HX := Lib.hid (HX.out.kept hk (fun h => h))
          have HKW := Lib.hid (HKW.out.trans' hk)
          clear hk t0 t1
          have t0 : v32.cell? ⟨t, 0, none⟩ = some _ := Blk.cell HT.out rfl
          have t1 : v32.cell? ⟨t, 1, none⟩ = some _ := Blk.cell HT.out rfl
          go_wp2_with fail
          try rw [hV]
          try rw [hb]
          clear hV hb
          (refine ⟨?anew, ?_⟩; case anew => ((repeat (refine Reg.anew_cons rfl rfl (fun _ => by go_simp) ?_)); exact Reg.anew_nil))
          repeat (first | (refine Reg.lookT rfl rfl rfl (by go_simp; rfl) rfl ?_; go_simp))
          refine Reg.oneT rfl ?_ 
          have c0 : v32.cell? ⟨y, 0, none⟩ = some _ := Blk.cell HY.out rfl
          have c1 : v32.cell? ⟨y, 1, none⟩ = some _ := Blk.cell HY.out rfl
          have c2 : v32.cell? ⟨y, 2, none⟩ = some _ := Blk.cell HY.out rfl
          have cf := Blk.fr HY.out
          obtain ⟨v33, hV⟩ : ∃ v, (((v32).setCell ⟨y, 0, none⟩ (.int .i64 2)).setCell ⟨y, 1, none⟩ (.int .i64 1)).setCell ⟨y, 2, none⟩ (.slice (some ⟨g, 0, none⟩) 1 1) = v := ⟨_, rfl⟩
          have hk : Kp (· = y) v32 v33 := by rw [← hV]; exact (((Kp.refl (· = y) v32).setCell (p := ⟨y, 0, none⟩) (fun _ => rfl) _).setCell (p := ⟨y, 1, none⟩) (fun _ => rfl) _).setCell (p := ⟨y, 2, none⟩) (fun _ => rfl) _
          have HY2 : Hid (Blk v33 y 53 [.int .i64 2, .int .i64 1, .slice (some ⟨g, 0, none⟩) 1 1]) := Lib.hid (by rw [← hV]; exact Blk.set (Blk.set (Blk.set HY.out 0 (.int .i64 2)) 1 (.int .i64 1)) 2 (.slice (some ⟨g, 0, none⟩) 1 1))
          have HT := Lib.hid (HT.out.kept hk (by have n0 := HNy.out; have n1 := HNx.out; have n2 := HNg.out; omega))
          have HX := Lib.hid (HX.out.kept hk (by have n0 := HNy.out; have n1 := HNx.out; have n2 := HNg.out; omega))
          have HG := Lib.hid (HG.out.kept hk (by have n0 := HNy.out; have n1 := HNx.out; have n2 := HNg.out; omega))
          have HY := HY2
          have HKW : Hid (Kp No w1 v33) := Lib.hid (HKW.out.trans hk (fun k hk e => by have h1 := HTW.out; have h2 := HNy.out; omega))
          clear hk t0 t1
          have t0 : v33.cell? ⟨t, 0, none⟩ = some _ := Blk.cell HT.out rfl
          have t1 : v33.cell? ⟨t, 1, none⟩ = some _ := Blk.cell HT.out rfl
          go_wp2_with fail
          try rw [hV]
          clear hV c0 c1 c2 cf
          refine ⟨Reg.anew_nil, ?_⟩
          repeat (first | (refine Reg.lookT rfl rfl rfl (by go_simp; rfl) rfl ?_; go_simp))
          refine Reg.doneT ?_
          simp only [Exit.then]
          go_wp2_with fail
          go_meet
          exact ⟨x, y, g, rfl, rfl, HX, HY, HG, HKW, Lib.hid ⟨by have h := HNx.out; omega, by have h := HNy.out; omega⟩⟩
  case rest =>
    obtain ⟨x, y, g, rfl, rfl, HX, HY, HG, HKC, HXT⟩ := hcut
    obtain ⟨w12, rfl⟩ : ∃ v, v = wc := ⟨_, rfl⟩
    have HT12 := Lib.hid (HT0.out.kept HKC.out (fun h => h))
    have HDL12 := Lib.hid (HDL11.out.keptNo HKC.out)
    have HRD12 := Lib.hid (Rp.rep.slice.keptNo HRD11.out HKC.out)
    clear HDL11 HRD11 HT0
    go_upto_region 12 with fail
    obtain ⟨wd, hwd⟩ : ∃ v, w12.drew = v := ⟨_, rfl⟩
    have HKD : Hid (Kp No w12 wd) := Lib.hid (by rw [← hwd]; exact (Kp.refl _ _).drew)
    have HDLd := Lib.hid (HDL12.out.keptNo HKD.out)
    have HS1 := Lib.hid (dk_set1 d l g F10 FL5 wd HDLd.out.dk HDLd.out.ld (HG.out.kept HKD.out (fun h => h)))
    have x0 : wd.cell? ⟨x, 0, none⟩ = some _ := Blk.cell (HX.out.kept HKD.out (fun h => h)) rfl
    have x1 : wd.cell? ⟨x, 1, none⟩ = some _ := Blk.cell (HX.out.kept HKD.out (fun h => h)) rfl
    have x2 : wd.cell? ⟨x, 2, none⟩ = some _ := Blk.cell (HX.out.kept HKD.out (fun h => h)) rfl
    have y0 : wd.cell? ⟨y, 0, none⟩ = some _ := Blk.cell (HY.out.kept HKD.out (fun h => h)) rfl
    have y1 : wd.cell? ⟨y, 1, none⟩ = some _ := Blk.cell (HY.out.kept HKD.out (fun h => h)) rfl
    have y2 : wd.cell? ⟨y, 2, none⟩ = some _ := Blk.cell (HY.out.kept HKD.out (fun h => h)) rfl
    have t0 : wd.cell? ⟨t, 0, none⟩ = some _ := Blk.cell (HT12.out.kept HKD.out (fun h => h)) rfl
    have t1 : wd.cell? ⟨t, 1, none⟩ = some _ := Blk.cell (HT12.out.kept HKD.out (fun h => h)) rfl
    refine Reg.wp_region_plan [⟨0, false, []⟩, ⟨1, false, []⟩, ⟨2, false, []⟩, ⟨3, false, []⟩, ⟨4, false, []⟩, ⟨6, false, []⟩, ⟨7, false, []⟩, ⟨8, false, []⟩, ⟨9, false, []⟩, ⟨10, false, []⟩, ⟨5, true, [8, 9, 10]⟩, ⟨11, true, []⟩, ⟨12, false, []⟩, ⟨13, false, []⟩] rfl (by kernel_rfl) ?_
    rw [hwd]
    clear hwd
    repeat (first | (refine Reg.look rfl rfl rfl (by go_simp; rfl) rfl ?_; go_simp) | (refine Reg.skip rfl rfl rfl ?_; go_simp))
    refine Reg.act rfl ?_
    go_wp2_with fail
    refine HS1.out.mono ?_
    rintro e w13 ⟨A13, c13, rfl, F13, hd13, hu13, hkd13⟩
    have hkp : Kp (· = d) w12 w13 := HKD.out.any.trans' hkd13
    have hdx : x ≠ d := by have h1 := HTD.out; have h2 := HXT.out; omega
    have hdy : y ≠ d := by have h1 := HTD.out; have h2 := HXT.out; omega
    have hdt : t ≠ d := by have h1 := HTD.out; omega
    have HDL13 := Lib.hid (HDLd.out.turnD hd13 hu13)
    have HKP13 := Lib.hid hkp
    have HRD13 := Lib.hid (Rp.rep.slice.kept HRD12.out hkp (fun k hk _ e => by have h1 := HDW.out; have h2 := hk.1; omega))
    have HS2 := Lib.hid (dk_set2 d l F13 FL5 w13 HDL13.out.dk HDL13.out.ld)
    clear hd13 hu13 hkd13 HS1 HDLd HRD12
    clear x0 x1 x2 y0 y1 y2 t0 t1
    have x0 : w13.cell? ⟨x, 0, none⟩ = some _ := Blk.cell (HX.out.kept hkp hdx) rfl
    have x1 : w13.cell? ⟨x, 1, none⟩ = some _ := Blk.cell (HX.out.kept hkp hdx) rfl
    have x2 : w13.cell? ⟨x, 2, none⟩ = some _ := Blk.cell (HX.out.kept hkp hdx) rfl
    have y0 : w13.cell? ⟨y, 0, none⟩ = some _ := Blk.cell (HY.out.kept hkp hdy) rfl
    have y1 : w13.cell? ⟨y, 1, none⟩ = some _ := Blk.cell (HY.out.kept hkp hdy) rfl
    have y2 : w13.cell? ⟨y, 2, none⟩ = some _ := Blk.cell (HY.out.kept hkp hdy) rfl
    have t0 : w13.cell? ⟨t, 0, none⟩ = some _ := Blk.cell (HT12.out.kept hkp hdt) rfl
    have t1 : w13.cell? ⟨t, 1, none⟩ = some _ := Blk.cell (HT12.out.kept hkp hdt) rfl
    clear hkp hdx hdy
    go_wp2_with fail
    (refine ⟨?anew, ?_⟩; case anew => ((repeat (refine Reg.anew_cons rfl rfl (fun _ => by go_simp) ?_)); exact Reg.anew_nil))
    repeat (first | (refine Reg.look rfl rfl rfl (by go_simp; rfl) rfl ?_; go_simp) | (refine Reg.skip rfl rfl rfl ?_; go_simp))
    refine Reg.act rfl ?_
    go_wp2_with fail
    refine HS2.out.mono ?_
    rintro e w14 ⟨A14, c14, rfl, hrd14, F14, hd14, hu14, hkd14⟩
    have HDL14 := Lib.hid (HDL13.out.turnD hd14 hu14)
    have HRD14 := Lib.hid (Rp.rep.slice.kept HRD13.out hkd14 (fun k hk _ e => by have h1 := HDW.out; have h2 := hk.1; omega))
    have HRE14 := Lib.hid hrd14
    have HT14 := Lib.hid ((HT12.out.kept HKP13.out hdt).kept hkd14 hdt)
    clear hd14 hu14 hkd14 hrd14 HS2 HRD13 HDL13 hdt
    clear x0 x1 x2 y0 y1 y2 t0 t1
    go_wp2_with fail
    refine ⟨Reg.anew_nil, ?_⟩
    repeat (first | (refine Reg.look rfl rfl rfl (by go_simp; rfl) rfl ?_; go_simp) | (refine Reg.skip rfl rfl rfl ?_; go_simp))
    (refine Reg.done ?_; simp only [Exit.then])
    go_upto_region 13 with fail
    obtain ⟨wf, hwf⟩ : ∃ v, w14.drew = v := ⟨_, rfl⟩
    have HKF : Hid (Kp No w14 wf) := Lib.hid (by rw [← hwf]; exact (Kp.refl _ _).drew)
    have HDLf := Lib.hid (HDL14.out.keptNo HKF.out)
    obtain ⟨pa, N1, n1, M1, m1, rfl, p0, _, _, _, p4, _, _⟩ := Rp.at_rep (Rp.rep.slice.keptNo HRD14.out HKF.out)
    obtain ⟨pb, N2, n2, M2, m2, rfl, q0, _, q2, q3, _, _, _⟩ := Rp.at_rep (Rp.rep.slice.keptNo HRE14.out HKF.out)
    unfold dkP6 at p0 p4
    unfold dkP5 at q0 q2 q3
    simp only [List.length_cons, List.length_nil, Nat.zero_add] at p0 p4 q0 q2 q3
    have t0 : wf.cell? ⟨t, 0, none⟩ = some _ := Blk.cell (HT14.out.kept HKF.out (fun h => h)) rfl
    have t1 : wf.cell? ⟨t, 1, none⟩ = some _ := Blk.cell (HT14.out.kept HKF.out (fun h => h)) rfl
    have HLN := Lib.hid (k_len d [] F14 wf HDLf.out.dk)
    simp only [List.length_nil] at HLN
    refine Reg.wp_region_plan [⟨0, false, []⟩, ⟨1, false, []⟩, ⟨2, false, []⟩, ⟨3, false, []⟩, ⟨4, false, []⟩, ⟨5, false, []⟩, ⟨6, false, []⟩, ⟨7, false, []⟩, ⟨8, false, []⟩, ⟨9, false, []⟩, ⟨10, false, []⟩, ⟨11, false, []⟩, ⟨12, false, []⟩, ⟨13, false, []⟩, ⟨14, false, []⟩, ⟨15, false, []⟩, ⟨16, false, []⟩, ⟨17, false, []⟩, ⟨18, false, []⟩, ⟨19, false, []⟩, ⟨20, false, []⟩, ⟨21, false, []⟩, ⟨22, false, []⟩, ⟨23, false, []⟩, ⟨24, false, []⟩, ⟨25, false, []⟩, ⟨26, false, []⟩, ⟨27, false, []⟩, ⟨28, false, []⟩, ⟨29, false, []⟩, ⟨30, false, []⟩, ⟨31, false, []⟩, ⟨32, false, []⟩, ⟨33, false, []⟩, ⟨34, false, []⟩, ⟨35, false, []⟩, ⟨36, false, []⟩, ⟨37, false, []⟩, ⟨38, false, []⟩, ⟨39, false, []⟩, ⟨40, false, []⟩, ⟨41, false, []⟩, ⟨42, false, []⟩, ⟨43, false, []⟩, ⟨44, false, []⟩, ⟨45, false, []⟩, ⟨46, false, []⟩, ⟨47, false, []⟩, ⟨48, false, []⟩, ⟨49, false, []⟩, ⟨50, true, []⟩, ⟨51, false, []⟩, ⟨52, false, []⟩, ⟨53, false, []⟩] rfl (by kernel_rfl) ?_
    rw [hwf]
    clear hwf
    repeat (first | (refine Reg.look rfl rfl rfl (by go_simp; rfl) rfl ?_; go_simp) | (refine Reg.skip rfl rfl rfl ?_; go_simp))
    refine Reg.act rfl ?_
    go_wp2_with fail
    refine HLN.out.mono ?_
    rintro e w15 ⟨rfl, hk15⟩
    have HKZ := Lib.hid (HDLf.out.kp.trans' hk15)
    clear hk15 HLN
    go_wp2_with fail
    refine ⟨Reg.anew_nil, ?_⟩
    repeat (first | (refine Reg.look rfl rfl rfl (by go_simp; rfl) rfl ?_; go_simp) | (refine Reg.skip rfl rfl rfl ?_; go_simp))
    (refine Reg.done ?_; simp only [Exit.then])
    go_wp2_with fail
    go_ret
    exact ⟨rfl, HKZ.out⟩
end Go.Proofs.YtamfgmlhopjppaaGreat
