/-
  (*Ledger).reign, (*Ledger).mark.
-/
import Derived.Test.YtbncblnchcmgbaaPut
namespace Go.Proofs.Ytbncblnchcmgbaa
open Go.RowKit Go.ChangeShapes Go.WideShapes Go.ChangeAt

theorem I64.of {n : Int} (h : -9223372036854775808 ≤ n ∧ n ≤ 9223372036854775807) : I64 n := by
  unfold I64
  simp [Lit.wf, IntKind.bits, IntKind.signed, IntKind.min, IntKind.max]
  omega
theorem LAt.lt {w : World} {l : Nat} {L : LV} {F : Nat → Prop} (h : LAt w l L F) : ∀ k, F k → k < w.heap.size := by
  obtain ⟨b1, b2, ov, lv, S, h1, h2⟩ := h
  exact fun k hk => h1.footlt k ((h2 k).1 hk)
theorem LAt.self {w : World} {l : Nat} {L : LV} {F : Nat → Prop} (h : LAt w l L F) : F l := by
  obtain ⟨b1, b2, ov, lv, S, h1, h2⟩ := h
  exact (h2 l).2 (.inl (.inl rfl))
theorem LAt.blk {w : World} {l : Nat} {L : LV} {F : Nat → Prop} (h : LAt w l L F) : ∃ b1 b2 Ao co ll, Blk w l 106 [.map (some b1), .int .i64 L.fold.used, .map (some b2), .int .i64 L.fold.hE, .int .i64 L.fold.hS, .slice Ao L.ops.length co, ll, .int .i64 L.fence, .int .i64 L.settled, .int .i64 L.quota, .int .i64 L.room] := by
  obtain ⟨b1, b2, ov, lv, S, h1, h2⟩ := h
  obtain ⟨A, c, rfl⟩ := h1.oshape
  exact ⟨b1, b2, A, c, lv, h1.fat.blk⟩
theorem done_stored {w : World} {d : Nat} {a b c : Value} (h : Blk w d 95 [a, b, c]) (x y z : Value) :
    Kp (· = d) w (((w.setCell ⟨d, 0, none⟩ x).setCell ⟨d, 1, none⟩ y).setCell ⟨d, 2, none⟩ z) ∧ Blk (((w.setCell ⟨d, 0, none⟩ x).setCell ⟨d, 1, none⟩ y).setCell ⟨d, 2, none⟩ z) d 95 [x, y, z] :=
  ⟨(((Kp.refl (· = d) w).setCell (p := ⟨d, 0, none⟩) (fun _ => rfl) _).setCell (p := ⟨d, 1, none⟩) (fun _ => rfl) _).setCell (p := ⟨d, 2, none⟩) (fun _ => rfl) _, Blk.set (Blk.set (Blk.set h 0 x) 1 y) 2 z⟩
/-- a command's cells -/
def cmdC (c : CmdL) (hv ov : Value) : List Value := [.int .i64 c.kind, .int .i64 c.epoch, .int .i64 c.site, .int .i64 c.op.n, .int .i64 c.op.epoch, .int .i64 c.op.kind, .int .i64 c.op.site, .int .i64 c.op.client, .int .i64 c.op.seq, .string c.op.name, .int .i64 c.op.size, hv, .int .i64 c.after, .int .i64 c.since, ov, .int .i64 c.tag]
theorem put_keep (o : OpL) (e s : Int) (L : LV) : (putL o e s L).2.fence = L.fence := rfl
/-- put, of a ledger as it lies -/
theorem a_put (o : OpL) (ep st : Int) (Ah : Option Addr) (ch : Nat) (SA : Nat → Prop) (l : Nat) (L : LV) (F : Nat → Prop) (w : World) (h : LAt w l L F) (hh : Rp.str.slice.R w SA [.slice Ah o.hashes.length ch] o.hashes)
    (hn : (o.placed (L.ops.length + 1) ep st).nums) (hll : o.hashes.length ≤ 1000000) (hl : L.ops.length ≤ 1000) (hf : L.fold.Ok L.ops.length) (hsz : o.kind = 1 → Small o.size) :
    Calls Try.prog 90 #[.pointer (some ⟨l, 0, none⟩), opV o (.slice Ah o.hashes.length ch), .int .i64 ep, .int .i64 st] w fun x w' => x = .returned (doneV (putL o ep st L).1) ∧
      ∃ F', LAt w' l (putL o ep st L).2 F' ∧ Upd F w w' F' := by
  obtain ⟨b1, b2, ov, lv, S, h1, h2⟩ := h
  refine (l_put o ep st Ah ch SA l b1 b2 ov lv S L w h1 hh hn hll hl hf hsz).mono ?_
  rintro e w' ⟨he, ov', S', h3, h4, h5⟩
  exact ⟨he, _, ⟨b1, b2, ov', lv, S', h3, fun k => Iff.rfl⟩, h4.mono (fun k _ hk => (h2 k).2 hk), fun k hk => by
    rcases h5 k hk with h | h
    · exact .inl ((h2 k).2 h)
    · exact .inr h⟩
theorem LAt.fence {w : World} {l : Nat} {L : LV} {F : Nat → Prop} (h : LAt w l L F) (e : Int) : LAt (w.setCell ⟨l, 7, none⟩ (.int .i64 e)) l { L with fence := e } F := by
  obtain ⟨b1, b2, ov, lv, S, h1, h2⟩ := h
  exact ⟨b1, b2, ov, lv, S, h1.fence e, h2⟩
theorem LAt.settled {w : World} {l : Nat} {L : LV} {F : Nat → Prop} (h : LAt w l L F) (e : Int) : LAt (w.setCell ⟨l, 8, none⟩ (.int .i64 e)) l { L with settled := e } F := by
  obtain ⟨b1, b2, ov, lv, S, h1, h2⟩ := h
  exact ⟨b1, b2, ov, lv, S, h1.settled e, h2⟩
theorem a_has (n e : Int) (l : Nat) (L : LV) (F : Nat → Prop) (w : World) (h : LAt w l L F) (hn : 0 ≤ n) (hl : L.ops.length ≤ 1000000) :
    Calls Try.prog 91 #[.pointer (some ⟨l, 0, none⟩), .agg #[.int .i64 n, .int .i64 e]] w fun x w' => x = .returned (.bool (hasL n e L)) ∧ Kp No w w' := by
  obtain ⟨b1, b2, ov, lv, S, h1, h2⟩ := h
  exact l_has n e l b1 b2 ov lv S L.fold L w h1 hn hl
/-- what a call with a box for its command and one for its answer begins with -/
theorem begin_ {w : World} {l : Nat} {L : LV} {F : Nat → Prop} (h : LAt w l L F) (c : CmdL) (hv ov : Value) :
    LAt ((w.alloc (.cells (cmdC c hv ov).toArray 44)).alloc (.cells #[.int .i64 0, .int .i64 0, .int .i64 0] 95)) l L F ∧
    Kp No w ((w.alloc (.cells (cmdC c hv ov).toArray 44)).alloc (.cells #[.int .i64 0, .int .i64 0, .int .i64 0] 95)) ∧
    Blk ((w.alloc (.cells (cmdC c hv ov).toArray 44)).alloc (.cells #[.int .i64 0, .int .i64 0, .int .i64 0] 95)) w.heap.size 44 (cmdC c hv ov) ∧
    Blk ((w.alloc (.cells (cmdC c hv ov).toArray 44)).alloc (.cells #[.int .i64 0, .int .i64 0, .int .i64 0] 95)) (w.heap.size + 1) 95 [.int .i64 0, .int .i64 0, .int .i64 0] ∧
    ((w.alloc (.cells (cmdC c hv ov).toArray 44)).alloc (.cells #[.int .i64 0, .int .i64 0, .int .i64 0] 95)).heap.size = w.heap.size + 2 := by
  have hk : Kp No w ((w.alloc (.cells (cmdC c hv ov).toArray 44)).alloc (.cells #[.int .i64 0, .int .i64 0, .int .i64 0] 95)) := ((Kp.refl _ _).alloc _).alloc _
  refine ⟨h.keptNo hk, hk, (Blk.new w _ _).kept (S := No) ((Kp.refl _ _).alloc _) (fun x => x), ?_, by simp⟩
  have := Blk.new (w.alloc (.cells (cmdC c hv ov).toArray 44)) [.int .i64 0, .int .i64 0, .int .i64 0] 95
  simpa using this
set_option maxRecDepth 100000 in
set_option maxHeartbeats 1000000 in
theorem a_reign (c : CmdL) (hv ov : Value) (B : Nat) (l : Nat) (L : LV) (F : Nat → Prop) (w : World) (h : LAt w l L F) (hok : OkL B L) (hr : reignP c.epoch c.site) :
    Calls Try.prog 72 #[.pointer (some ⟨l, 0, none⟩), cmdV c hv ov] w fun x w' => x = .returned (doneV (reignL c L).1) ∧ ∃ F', LAt w' l (reignL c L).2 F' ∧ Upd F w w' F' := by
  have HOK := Lib.hid hok
  have HRP := Lib.hid hr
  clear hok hr
  obtain ⟨x, hx⟩ : ∃ x, w.heap.size = x := ⟨_, rfl⟩
  obtain ⟨h1, h2, h3, h4, h5⟩ := begin_ h c hv ov
  have hfx : ¬ F x ∧ ¬ F (x + 1) := ⟨fun e => by have := h.lt _ e; omega, fun e => by have := h.lt _ e; omega⟩
  have HFX := Lib.hid hfx
  have hxl : l ≠ x ∧ l ≠ x + 1 := ⟨fun e => hfx.1 (e ▸ h.self), fun e => hfx.2 (e ▸ h.self)⟩
  have HXL := Lib.hid hxl
  obtain ⟨hxl1, hxl2⟩ := hxl
  obtain ⟨wa, hwa⟩ : ∃ wa, (w.alloc (.cells (cmdC c hv ov).toArray 44)).alloc (.cells #[.int .i64 0, .int .i64 0, .int .i64 0] 95) = wa := ⟨_, rfl⟩
  rw [hwa] at h1 h2 h3 h4 h5
  rw [hx] at h3 h4 h5
  unfold cmdC at h3 hwa
  obtain ⟨b1, b2, Ao, co, ll, hblk⟩ := h1.blk
  have HA := Lib.hid h1
  have HK := Lib.hid h2
  have HC := Lib.hid h3
  have HD := Lib.hid h4
  have HSA := Lib.hid h5
  have HB := Lib.hid hblk
  clear h1 h2 h4 h5 h hfx hblk
  unfold cmdV
  have HX := Lib.hid hx
  have k5 : wa.cell? ⟨l, 5, none⟩ = some (.slice Ao L.ops.length co) := Blk.cell HB.out rfl
  have k7 : wa.cell? ⟨l, 7, none⟩ = some (.int .i64 L.fence) := Blk.cell HB.out rfl
  have z1 : wa.cell? ⟨x, 1, none⟩ = some (.int .i64 c.epoch) := Blk.cell h3 rfl
  have z2 : wa.cell? ⟨x, 2, none⟩ = some (.int .i64 c.site) := Blk.cell h3 rfl
  have f7 := Blk.fr HB.out 7
  obtain ⟨ep, hep⟩ : ∃ ep, c.epoch = ep := ⟨_, rfl⟩
  obtain ⟨st, hst⟩ : ∃ st, c.site = st := ⟨_, rfl⟩
  obtain ⟨fe, hfe⟩ : ∃ fe, L.fence = fe := ⟨_, rfl⟩
  obtain ⟨n, hn⟩ : ∃ n, L.ops.length = n := ⟨_, rfl⟩
  have hn80 : n ≤ 80 := hn ▸ HOK.out.len
  rw [hep] at z1
  rw [hst] at z2
  rw [hfe] at k7
  rw [hn] at k5
  have HEP := Lib.hid hep
  have HST := Lib.hid hst
  have HFE := Lib.hid hfe
  have HNN := Lib.hid hn
  clear h3 hep hst hfe hn
  go_enter Try.func72, Try.ntmps72
  by_cases he : ep ≤ fe
  · have HL : Hid (reignL c L = (failD 120, L)) := Lib.hid (by unfold reignL; rw [HEP.out, HFE.out, if_pos he])
    rw [HL.out]
    go_upto_region 1 with fail
    clear hwa hx
    go_quiet (fail)
    go_wp2_with fail
    refine (l_failed 120 _).mono ?_
    rintro e w9 ⟨rfl, hk9⟩
    have hk9 := ((Kp.refl No wa).drewN _).trans' hk9
    have h9k := (HK.out).trans' hk9
    have h9a := (HA.out).keptNo hk9
    have h9d := (HD.out).kept hk9 (fun x => x)
    have H9K := Lib.hid h9k
    have H9A := Lib.hid h9a
    have H9D := Lib.hid h9d
    have g0 := Blk.fr h9d 0
    have g1 := Blk.fr h9d 1
    have g2 := Blk.fr h9d 2
    have u0 : w9.cell? ⟨x + 1, 0, none⟩ = some _ := Blk.cell h9d rfl
    have u1 : w9.cell? ⟨x + 1, 1, none⟩ = some _ := Blk.cell h9d rfl
    have u2 : w9.cell? ⟨x + 1, 2, none⟩ = some _ := Blk.cell h9d rfl
    clear hk9 h9k h9a h9d
    go_wp2_with fail
    clear g0 g1 g2 u0 u1 u2
    obtain ⟨hkf, hbf⟩ := done_stored H9D.out (.int .i64 120) (.int .i64 0) (.int .i64 0)
    have hfd := HFX.out.2
    have hwx : w.heap.size = x := HX.out
    have hAf := (H9A.out).kept hkf (fun k hk e => hfd (e ▸ hk))
    have hKf := (H9K.out).trans hkf (fun i hi e => absurd hi (by omega))
    exact bodyPost_ret (results_cell_row rfl _ _ (x + 1) _ _ _ _ rfl hbf Try.underlying95 rfl (by kernel_rfl)) rfl ⟨by rfl, F, hAf, hKf.any, fun k hk => .inl hk⟩
  · by_cases hfull : n = 80
    · subst hfull
      have HL : Hid (reignL c L = (failD 125, L)) := Lib.hid (by unfold reignL; rw [HEP.out, HFE.out, if_neg he, HNN.out, if_pos (by omega)])
      rw [HL.out]
      go_upto_region 1 with fail
      clear hwa hx
      go_quiet (fail)
      go_wp2_with fail
      refine (l_failed 125 _).mono ?_
      rintro e w9 ⟨rfl, hk9⟩
      have hk9 := ((Kp.refl No wa).drewN _).trans' hk9
      have h9k := (HK.out).trans' hk9
      have h9a := (HA.out).keptNo hk9
      have h9d := (HD.out).kept hk9 (fun x => x)
      have H9K := Lib.hid h9k
      have H9A := Lib.hid h9a
      have H9D := Lib.hid h9d
      have g0 := Blk.fr h9d 0
      have g1 := Blk.fr h9d 1
      have g2 := Blk.fr h9d 2
      have u0 : w9.cell? ⟨x + 1, 0, none⟩ = some _ := Blk.cell h9d rfl
      have u1 : w9.cell? ⟨x + 1, 1, none⟩ = some _ := Blk.cell h9d rfl
      have u2 : w9.cell? ⟨x + 1, 2, none⟩ = some _ := Blk.cell h9d rfl
      clear hk9 h9k h9a h9d
      go_wp2_with fail
      clear g0 g1 g2 u0 u1 u2
      obtain ⟨hkf, hbf⟩ := done_stored H9D.out (.int .i64 125) (.int .i64 0) (.int .i64 0)
      have hfd := HFX.out.2
      have hwx : w.heap.size = x := HX.out
      have hAf := (H9A.out).kept hkf (fun k hk e => hfd (e ▸ hk))
      have hKf := (H9K.out).trans hkf (fun i hi e => absurd hi (by omega))
      exact bodyPost_ret (results_cell_row rfl _ _ (x + 1) _ _ _ _ rfl hbf Try.underlying95 rfl (by kernel_rfl)) rfl ⟨by rfl, F, hAf, hKf.any, fun k hk => .inl hk⟩
    · have hnf : ¬ 80 ≤ (n : Int) := by omega
      have HL : Hid (reignL c L = putL reignOp ep st { L with fence := ep }) := Lib.hid (by unfold reignL; rw [HEP.out, HFE.out, if_neg he, HNN.out, if_neg hnf, HST.out])
      rw [HL.out]
      go_upto_region 1 with fail
      clear hwa hx
      go_quiet (fail)
      go_upto_region 6 with fail
      have hks : Kp (· = l) wa ((wa.drewN nq).setCell ⟨l, 7, none⟩ (.int .i64 ep)) := ((Kp.refl (· = l) wa).drewN _).setCell (p := ⟨l, 7, none⟩) (fun _ => rfl) _
      have hA5 := (HA.out.keptNo ((Kp.refl No wa).drewN nq)).fence ep
      have hD5 := HD.out.kept hks (fun e => hxl2 e.symm)
      have hC5 := HC.out.kept hks (fun e => hxl1 e.symm)
      obtain ⟨w5, hw5⟩ : ∃ w5, (wa.drewN nq).setCell ⟨l, 7, none⟩ (.int .i64 ep) = w5 := ⟨_, rfl⟩
      rw [hw5] at hks hA5 hD5 hC5
      rw [hw5]
      clear hw5 z1 z2 k5 k7 f7
      rw [HEP.out, HST.out] at hC5
      have z1 : w5.cell? ⟨x, 1, none⟩ = some (.int .i64 ep) := Blk.cell hC5 rfl
      have z2 : w5.cell? ⟨x, 2, none⟩ = some (.int .i64 st) := Blk.cell hC5 rfl
      have hk5 : Kp F w w5 := HK.out.any.trans hks (fun i _ e => by rw [e]; exact HA.out.self)
      have hs5 : x + 1 < w5.heap.size := Blk.lt hD5
      have HA5 := Lib.hid hA5
      have HD5 := Lib.hid hD5
      have HK5 := Lib.hid hk5
      have HS5 := Lib.hid hs5
      have hrp := HRP.out
      rw [HEP.out, HST.out] at hrp
      have HRP2 := Lib.hid hrp
      clear hks hA5 hD5 hC5 hk5 hs5 hrp
      go_wp2_with fail
      refine (a_put reignOp ep st none 0 No l { L with fence := ep } F w5 HA5.out ⟨none, 0, rfl, Nat.le_refl _, by simp, fun h => absurd h (by simp [reignOp])⟩ ?hnum (by simp [reignOp]) (by show L.ops.length ≤ 1000; rw [HNN.out]; omega) (by show FV.Ok L.fold L.ops.length; exact HOK.out.foldOk) (fun h => absurd h (by decide))).mono ?_
      case hnum =>
        have h1 := HRP2.out
        unfold reignP at h1
        show OpL.nums ⟨((L.ops.length : Nat) : Int) + 1, ep, 3, st, 0, 0, ByteArray.empty, 0, []⟩
        rw [HNN.out]
        exact ⟨I64.of (by simp only; omega), I64.of (by simp only; omega), I64.of (by simp only; omega), I64.of (by simp only; omega), I64.of (by simp only; omega), I64.of (by simp only; omega), by simp [maxLen], I64.of (by simp only; omega)⟩
      rintro e w9 ⟨rfl, F', h9a, h9u⟩
      have h9d := HD5.out.kept h9u.kp (fun e => HFX.out.2 e)
      have H9A := Lib.hid h9a
      have H9U := Lib.hid h9u
      have H9D := Lib.hid h9d
      have g0 := Blk.fr h9d 0
      have g1 := Blk.fr h9d 1
      have g2 := Blk.fr h9d 2
      have u0 : w9.cell? ⟨x + 1, 0, none⟩ = some _ := Blk.cell h9d rfl
      have u1 : w9.cell? ⟨x + 1, 1, none⟩ = some _ := Blk.cell h9d rfl
      have u2 : w9.cell? ⟨x + 1, 2, none⟩ = some _ := Blk.cell h9d rfl
      obtain ⟨⟨p0, p1, p2⟩, hp⟩ : ∃ p, (putL reignOp ep st { L with fence := ep }).1 = p := ⟨_, rfl⟩
      rw [hp]
      have HP := Lib.hid hp
      unfold doneV
      clear h9a h9u h9d hp z1 z2
      go_wp2_with fail
      clear g0 g1 g2 u0 u1 u2
      obtain ⟨hkf, hbf⟩ := done_stored H9D.out (.int .i64 p0) (.int .i64 p1) (.int .i64 p2)
      have hwx : w.heap.size = x := HX.out
      have hnf : ∀ k, F' k → k ≠ x + 1 := fun k hk e => by
        rcases (H9U.out).foot k hk with h | h
        · exact HFX.out.2 (e ▸ h)
        · have := HS5.out; omega
      have hAf := (H9A.out).kept hkf (fun k hk e => hnf k hk e)
      have hKf := ((HK5.out).trans (H9U.out).kp (fun _ _ e => e)).trans hkf (fun i hi e => absurd hi (by omega))
      have hF' : ∀ k, F' k → F k ∨ w.heap.size ≤ k := fun k hk => by
        rcases (H9U.out).foot k hk with h | h
        · exact .inl h
        · exact .inr (Nat.le_trans (HK5.out).size h)
      exact bodyPost_ret (results_cell_row rfl _ _ (x + 1) _ _ _ _ rfl hbf Try.underlying95 rfl (by kernel_rfl)) rfl ⟨by rw [HP.out]; rfl, F', hAf, hKf, hF'⟩
set_option maxRecDepth 100000 in
set_option maxHeartbeats 1000000 in
theorem a_mark (c : CmdL) (hv ov : Value) (B : Nat) (l : Nat) (L : LV) (F : Nat → Prop) (w : World) (h : LAt w l L F) (hok : OkL B L) (hr : markP c) :
    Calls Try.prog 73 #[.pointer (some ⟨l, 0, none⟩), cmdV c hv ov] w fun x w' => x = .returned (doneV (markL c L).1) ∧ ∃ F', LAt w' l (markL c L).2 F' ∧ Upd F w w' F' := by
  have HOK := Lib.hid hok
  have HRP := Lib.hid hr
  clear hok hr
  obtain ⟨P, hP⟩ : ∃ P, markL c L = P := ⟨_, rfl⟩
  rw [hP]
  have HP := Lib.hid hP
  clear hP
  obtain ⟨x, hx⟩ : ∃ x, w.heap.size = x := ⟨_, rfl⟩
  obtain ⟨h1, h2, h3, h4, h5⟩ := begin_ h c hv ov
  have hfx : ¬ F x ∧ ¬ F (x + 1) := ⟨fun e => by have := h.lt _ e; omega, fun e => by have := h.lt _ e; omega⟩
  have HFX := Lib.hid hfx
  have hxl : l ≠ x ∧ l ≠ x + 1 := ⟨fun e => hfx.1 (e ▸ h.self), fun e => hfx.2 (e ▸ h.self)⟩
  have HXL := Lib.hid hxl
  obtain ⟨hxl1, hxl2⟩ := hxl
  obtain ⟨wa, hwa⟩ : ∃ wa, (w.alloc (.cells (cmdC c hv ov).toArray 44)).alloc (.cells #[.int .i64 0, .int .i64 0, .int .i64 0] 95) = wa := ⟨_, rfl⟩
  rw [hwa] at h1 h2 h3 h4 h5
  rw [hx] at h3 h4 h5
  unfold cmdC at h3 hwa
  obtain ⟨b1, b2, Ao, co, ll, hblk⟩ := h1.blk
  have HA := Lib.hid h1
  have HK := Lib.hid h2
  have HC := Lib.hid h3
  have HD := Lib.hid h4
  have HSA := Lib.hid h5
  have HB := Lib.hid hblk
  clear h1 h2 h4 h5 h hfx hblk
  unfold cmdV
  have HX := Lib.hid hx
  obtain ⟨ep, hep⟩ : ∃ ep, c.epoch = ep := ⟨_, rfl⟩
  obtain ⟨st, hst⟩ : ∃ st, c.site = st := ⟨_, rfl⟩
  obtain ⟨fe, hfe⟩ : ∃ fe, L.fence = fe := ⟨_, rfl⟩
  obtain ⟨he, hhe⟩ : ∃ he, L.fold.hE = he := ⟨_, rfl⟩
  obtain ⟨hs, hhs⟩ : ∃ hs, L.fold.hS = hs := ⟨_, rfl⟩
  obtain ⟨sd, hsd⟩ : ∃ sd, L.settled = sd := ⟨_, rfl⟩
  obtain ⟨an, han⟩ : ∃ an, c.after = an := ⟨_, rfl⟩
  obtain ⟨ae, hae⟩ : ∃ ae, c.since = ae := ⟨_, rfl⟩
  have HEP := Lib.hid hep
  have HST := Lib.hid hst
  have HFE := Lib.hid hfe
  have HHE := Lib.hid hhe
  have HHS := Lib.hid hhs
  have HSD := Lib.hid hsd
  have HAN := Lib.hid han
  have HAE := Lib.hid hae
  have z1 : wa.cell? ⟨x, 1, none⟩ = some (.int .i64 ep) := hep ▸ Blk.cell h3 rfl
  have z2 : wa.cell? ⟨x, 2, none⟩ = some (.int .i64 st) := hst ▸ Blk.cell h3 rfl
  have z12 : wa.cell? ⟨x, 12, none⟩ = some (.int .i64 an) := han ▸ Blk.cell h3 rfl
  have z13 : wa.cell? ⟨x, 13, none⟩ = some (.int .i64 ae) := hae ▸ Blk.cell h3 rfl
  obtain ⟨wb, hwb⟩ : ∃ wb, wa.alloc (.cells #[.int .i64 an, .int .i64 ae] 54) = wb := ⟨_, rfl⟩
  have hkb : Kp No wa wb := by rw [← hwb]; exact (Kp.refl _ _).alloc _
  have hy : Blk wb (x + 2) 54 [.int .i64 an, .int .i64 ae] := by
    rw [← hwb, ← HSA.out]; exact Blk.new wa _ _
  have hcb := h3.kept hkb (fun x => x)
  have hbb := HB.out.kept hkb (fun x => x)
  have k3 : wb.cell? ⟨l, 3, none⟩ = some (.int .i64 he) := hhe ▸ Blk.cell hbb rfl
  have k4 : wb.cell? ⟨l, 4, none⟩ = some (.int .i64 hs) := hhs ▸ Blk.cell hbb rfl
  have k7 : wb.cell? ⟨l, 7, none⟩ = some (.int .i64 fe) := hfe ▸ Blk.cell hbb rfl
  have k8 : wb.cell? ⟨l, 8, none⟩ = some (.int .i64 sd) := hsd ▸ Blk.cell hbb rfl
  have y1 : wb.cell? ⟨x, 1, none⟩ = some (.int .i64 ep) := hep ▸ Blk.cell hcb rfl
  have y2 : wb.cell? ⟨x, 2, none⟩ = some (.int .i64 st) := hst ▸ Blk.cell hcb rfl
  have s0 : wb.cell? ⟨x + 2, 0, none⟩ = some (.int .i64 an) := Blk.cell hy rfl
  have s1 : wb.cell? ⟨x + 2, 1, none⟩ = some (.int .i64 ae) := Blk.cell hy rfl
  have HY := Lib.hid hy
  have HKB := Lib.hid hkb
  have HSA' : wa.heap.size = x + 2 := HSA.out
  clear h3 hep hst hfe hhe hhs hsd han hae hkb hy hcb hbb
  go_enter Try.func73, Try.ntmps73
  go_upto_region 2 with fail
  try rw [hwb]
  clear hwa hx hwb HSA' z1 z2 z12 z13
  by_cases hh : holdsL ep st L
  case neg =>
    have hPe : P = (failD 120, L) := by rw [← HP.out]; unfold markL; rw [HEP.out, HST.out, if_neg hh]
    subst hPe
    clear HP
    unfold holdsL at hh
    rw [HFE.out, HHE.out, HHS.out] at hh
    have HHH := Lib.hid hh
    clear hh
    by_cases e1 : ep = fe
    · subst e1
      by_cases e2 : he = ep
      · subst e2
        have e3 : ¬ hs = st := fun e => HHH.out ⟨rfl, rfl, e⟩
        have b3 : (hs == st) = false := beq_eq_false_iff_ne.2 e3
        clear e3
        go_quiet (fail)
        go_wp2_with fail
        refine (l_failed 120 _).mono ?_
        rintro e w9 ⟨rfl, hk9⟩
        have hk9 := (HKB.out.trans' ((Kp.refl No wb).drewN _)).trans' hk9
        have h9k := (HK.out).trans' hk9
        have h9a := (HA.out).keptNo hk9
        have h9d := (HD.out).kept hk9 (fun x => x)
        have H9K := Lib.hid h9k
        have H9A := Lib.hid h9a
        have H9D := Lib.hid h9d
        have g0 := Blk.fr h9d 0
        have g1 := Blk.fr h9d 1
        have g2 := Blk.fr h9d 2
        have u0 : w9.cell? ⟨x + 1, 0, none⟩ = some _ := Blk.cell h9d rfl
        have u1 : w9.cell? ⟨x + 1, 1, none⟩ = some _ := Blk.cell h9d rfl
        have u2 : w9.cell? ⟨x + 1, 2, none⟩ = some _ := Blk.cell h9d rfl
        clear hk9 h9k h9a h9d
        go_wp2_with fail
        clear g0 g1 g2 u0 u1 u2
        obtain ⟨hkf, hbf⟩ := done_stored H9D.out (.int .i64 120) (.int .i64 0) (.int .i64 0)
        have hfd := HFX.out.2
        have hwx : w.heap.size = x := HX.out
        have hAf := (H9A.out).kept hkf (fun k hk e => hfd (e ▸ hk))
        have hKf := (H9K.out).trans hkf (fun i hi e => absurd hi (by omega))
        exact bodyPost_ret (results_cell_row rfl _ _ (x + 1) _ _ _ _ rfl hbf Try.underlying95 rfl (by kernel_rfl)) rfl ⟨by rfl, F, hAf, hKf.any, fun k hk => .inl hk⟩
      · have b2 : (he == ep) = false := beq_eq_false_iff_ne.2 e2
        clear e2
        go_quiet (fail)
        go_wp2_with fail
        refine (l_failed 120 _).mono ?_
        rintro e w9 ⟨rfl, hk9⟩
        have hk9 := (HKB.out.trans' ((Kp.refl No wb).drewN _)).trans' hk9
        have h9k := (HK.out).trans' hk9
        have h9a := (HA.out).keptNo hk9
        have h9d := (HD.out).kept hk9 (fun x => x)
        have H9K := Lib.hid h9k
        have H9A := Lib.hid h9a
        have H9D := Lib.hid h9d
        have g0 := Blk.fr h9d 0
        have g1 := Blk.fr h9d 1
        have g2 := Blk.fr h9d 2
        have u0 : w9.cell? ⟨x + 1, 0, none⟩ = some _ := Blk.cell h9d rfl
        have u1 : w9.cell? ⟨x + 1, 1, none⟩ = some _ := Blk.cell h9d rfl
        have u2 : w9.cell? ⟨x + 1, 2, none⟩ = some _ := Blk.cell h9d rfl
        clear hk9 h9k h9a h9d
        go_wp2_with fail
        clear g0 g1 g2 u0 u1 u2
        obtain ⟨hkf, hbf⟩ := done_stored H9D.out (.int .i64 120) (.int .i64 0) (.int .i64 0)
        have hfd := HFX.out.2
        have hwx : w.heap.size = x := HX.out
        have hAf := (H9A.out).kept hkf (fun k hk e => hfd (e ▸ hk))
        have hKf := (H9K.out).trans hkf (fun i hi e => absurd hi (by omega))
        exact bodyPost_ret (results_cell_row rfl _ _ (x + 1) _ _ _ _ rfl hbf Try.underlying95 rfl (by kernel_rfl)) rfl ⟨by rfl, F, hAf, hKf.any, fun k hk => .inl hk⟩
    · have b1 : (ep == fe) = false := beq_eq_false_iff_ne.2 e1
      have b1n : (ep != fe) = true := by simp [e1]
      clear e1
      go_quiet (fail)
      go_wp2_with fail
      refine (l_failed 120 _).mono ?_
      rintro e w9 ⟨rfl, hk9⟩
      have hk9 := (HKB.out.trans' ((Kp.refl No wb).drewN _)).trans' hk9
      have h9k := (HK.out).trans' hk9
      have h9a := (HA.out).keptNo hk9
      have h9d := (HD.out).kept hk9 (fun x => x)
      have H9K := Lib.hid h9k
      have H9A := Lib.hid h9a
      have H9D := Lib.hid h9d
      have g0 := Blk.fr h9d 0
      have g1 := Blk.fr h9d 1
      have g2 := Blk.fr h9d 2
      have u0 : w9.cell? ⟨x + 1, 0, none⟩ = some _ := Blk.cell h9d rfl
      have u1 : w9.cell? ⟨x + 1, 1, none⟩ = some _ := Blk.cell h9d rfl
      have u2 : w9.cell? ⟨x + 1, 2, none⟩ = some _ := Blk.cell h9d rfl
      clear hk9 h9k h9a h9d
      go_wp2_with fail
      clear g0 g1 g2 u0 u1 u2
      obtain ⟨hkf, hbf⟩ := done_stored H9D.out (.int .i64 120) (.int .i64 0) (.int .i64 0)
      have hfd := HFX.out.2
      have hwx : w.heap.size = x := HX.out
      have hAf := (H9A.out).kept hkf (fun k hk e => hfd (e ▸ hk))
      have hKf := (H9K.out).trans hkf (fun i hi e => absurd hi (by omega))
      exact bodyPost_ret (results_cell_row rfl _ _ (x + 1) _ _ _ _ rfl hbf Try.underlying95 rfl (by kernel_rfl)) rfl ⟨by rfl, F, hAf, hKf.any, fun k hk => .inl hk⟩
  case pos =>
    have hP2 : P = if hasL an ae L = true then ((0, an, ae), { L with settled := max sd an }) else (failD 121, L) := by rw [← HP.out]; unfold markL; rw [HEP.out, HST.out, if_pos hh, HAN.out, HAE.out, HSD.out]
    have HP2 := Lib.hid hP2
    have hrp := HRP.out
    unfold markP at hrp
    rw [HAN.out, HAE.out, HEP.out] at hrp
    have HRP2 := Lib.hid hrp
    have hset := HOK.out.settled
    rw [HSD.out] at hset
    have hlen := HOK.out.len
    have HSET := Lib.hid hset
    unfold holdsL at hh
    rw [HFE.out, HHE.out, HHS.out] at hh
    obtain ⟨hh1, hh2, hh3⟩ := hh
    subst hh1 hh2 hh3
    have HAB := Lib.hid (HA.out.keptNo HKB.out)
    have HDB := Lib.hid (HD.out.kept HKB.out (fun x => x))
    clear hP2 hrp HRP HP hset hlen
    go_quiet (fail)
    go_wp2_with fail
    refine (a_has an ae l L F _ (HAB.out.keptNo ((Kp.refl No wb).drewN _)) (by have := HRP2.out; omega) (by have := HOK.out.len; omega)).mono ?_
    rintro e w5 ⟨rfl, hk5⟩
    have hk5 := ((Kp.refl No wb).drewN _).trans' hk5
    have hy5 := HY.out.kept hk5 (fun x => x)
    have hd5 := HDB.out.kept hk5 (fun x => x)
    have ha5 := HAB.out.keptNo hk5
    have hb5 := HB.out.kept (HKB.out.trans' hk5) (fun x => x)
    have HA5 := Lib.hid ha5
    have HD5 := Lib.hid hd5
    have HK5 := Lib.hid ((HK.out.trans' HKB.out).trans' hk5)
    have HY5 := Lib.hid hy5
    have k8' : w5.cell? ⟨l, 8, none⟩ = some (.int .i64 sd) := HSD.out ▸ Blk.cell hb5 rfl
    have f8 := Blk.fr hb5 8
    have t0 : w5.cell? ⟨x + 2, 0, none⟩ = some (.int .i64 an) := Blk.cell hy5 rfl
    have t1 : w5.cell? ⟨x + 2, 1, none⟩ = some (.int .i64 ae) := Blk.cell hy5 rfl
    have hHB : Hid (HB = HB) := Lib.hid rfl
    clear k3 k4 k7 k8 y1 y2 s0 s1 hk5 hy5 hd5 ha5 hb5 HKB HAB HDB HY hHB
    obtain ⟨H, hH⟩ : ∃ H, hasL an ae L = H := ⟨_, rfl⟩
    rw [hH] at HP2
    rw [hH]
    clear hH
    cases H
    · have hPe : P = (failD 121, L) := HP2.out
      subst hPe
      clear HP2
      go_wp2_with fail
      refine (l_failed 121 _).mono ?_
      rintro e w9 ⟨rfl, hk9⟩
      have hk9 := ((Kp.refl No w5)).trans' hk9
      have h9k := (HK5.out).trans' hk9
      have h9a := (HA5.out).keptNo hk9
      have h9d := (HD5.out).kept hk9 (fun x => x)
      have H9K := Lib.hid h9k
      have H9A := Lib.hid h9a
      have H9D := Lib.hid h9d
      have g0 := Blk.fr h9d 0
      have g1 := Blk.fr h9d 1
      have g2 := Blk.fr h9d 2
      have u0 : w9.cell? ⟨x + 1, 0, none⟩ = some _ := Blk.cell h9d rfl
      have u1 : w9.cell? ⟨x + 1, 1, none⟩ = some _ := Blk.cell h9d rfl
      have u2 : w9.cell? ⟨x + 1, 2, none⟩ = some _ := Blk.cell h9d rfl
      clear hk9 h9k h9a h9d
      go_wp2_with fail
      clear g0 g1 g2 u0 u1 u2
      obtain ⟨hkf, hbf⟩ := done_stored H9D.out (.int .i64 121) (.int .i64 0) (.int .i64 0)
      have hfd := HFX.out.2
      have hwx : w.heap.size = x := HX.out
      have hAf := (H9A.out).kept hkf (fun k hk e => hfd (e ▸ hk))
      have hKf := (H9K.out).trans hkf (fun i hi e => absurd hi (by omega))
      exact bodyPost_ret (results_cell_row rfl _ _ (x + 1) _ _ _ _ rfl hbf Try.underlying95 rfl (by kernel_rfl)) rfl ⟨by rfl, F, hAf, hKf.any, fun k hk => .inl hk⟩
    · have hPe : P = ((0, an, ae), { L with settled := max sd an }) := HP2.out
      obtain ⟨M, hM⟩ : ∃ M, max sd an = M := ⟨_, rfl⟩
      rw [hM] at hPe
      subst hPe
      clear HP2
      have HM := Lib.hid hM
      have hsdb := HSET.out
      have hlen := HOK.out.len
      have hanb := HRP2.out
      have hsd1 : 0 ≤ sd ∧ sd ≤ 80 := ⟨hsdb.1, by omega⟩
      obtain ⟨hsd2, hsd3⟩ := hsd1
      have han2 := hanb.1
      have han3 := hanb.2.1
      clear hsdb hlen hanb
      go_upto_region 6 with fail
      refine Reg.wp_region_plan [⟨0, false, []⟩, ⟨1, false, []⟩, ⟨2, false, []⟩, ⟨3, false, []⟩, ⟨4, false, []⟩, ⟨5, false, []⟩, ⟨6, false, []⟩, ⟨7, false, []⟩, ⟨8, false, []⟩, ⟨9, false, []⟩, ⟨10, true, []⟩] rfl (by kernel_rfl) ?_
      repeat (first | (refine Reg.look rfl rfl rfl (by go_simp; rfl) rfl ?_; go_simp) | (refine Reg.skip rfl rfl rfl ?_; go_simp))
      obtain ⟨e9, he9⟩ : ∃ e9, (if sd < an then an else sd) = e9 := ⟨_, rfl⟩
      have hMe : e9 = M := by rw [← he9, ← hM]; split <;> omega
      rw [he9, hMe]
      refine Reg.act rfl ?_
      go_wp2_with fail
      (refine ⟨?anew, ?_⟩; case anew => ((repeat (refine Reg.anew_cons rfl rfl (fun _ => by go_simp) ?_)); exact Reg.anew_nil))
      repeat (first | (refine Reg.look rfl rfl rfl (by go_simp; rfl) rfl ?_; go_simp) | (refine Reg.skip rfl rfl rfl ?_; go_simp))
      (refine Reg.done ?_; simp only [Exit.then])
      have hks : Kp (· = l) w5 (w5.setCell ⟨l, 8, none⟩ (.int .i64 M)).drew := ((Kp.refl (· = l) w5).setCell (p := ⟨l, 8, none⟩) (fun _ => rfl) _).drew
      have hA6 := (HA5.out.settled M).keptNo ((Kp.refl No _).drew)
      have hD6 := HD5.out.kept hks (fun e => hxl2 e.symm)
      have hY6 := HY5.out.kept hks (fun e => by have h1 := HA5.out.lt l HA5.out.self; have h2 := HFX.out; have h3 := HA.out.lt l HA.out.self; have h4 := HSA.out; omega)
      have hK6 : Kp F w (w5.setCell ⟨l, 8, none⟩ (.int .i64 M)).drew := HK5.out.any.trans hks (fun i _ e => by rw [e]; exact HA5.out.self)
      obtain ⟨w6, hw6⟩ : ∃ w6, (w5.setCell ⟨l, 8, none⟩ (.int .i64 M)).drew = w6 := ⟨_, rfl⟩
      rw [hw6] at hA6 hD6 hY6 hK6
      rw [hw6]
      have HA6 := Lib.hid hA6
      have HD6 := Lib.hid hD6
      have HK6 := Lib.hid hK6
      clear hw6 hks hA6 hK6 k8' f8 t0 t1 hM he9 hMe HY5 HA5 HD5 HK5
      have t0 : w6.cell? ⟨x + 2, 0, none⟩ = some (.int .i64 an) := Blk.cell hY6 rfl
      have t1 : w6.cell? ⟨x + 2, 1, none⟩ = some (.int .i64 ae) := Blk.cell hY6 rfl
      have u0 : w6.cell? ⟨x + 1, 0, none⟩ = some _ := Blk.cell hD6 rfl
      have u1 : w6.cell? ⟨x + 1, 1, none⟩ = some _ := Blk.cell hD6 rfl
      have u2 : w6.cell? ⟨x + 1, 2, none⟩ = some _ := Blk.cell hD6 rfl
      have g0 := Blk.fr hD6 0
      have g1 := Blk.fr hD6 1
      have g2 := Blk.fr hD6 2
      clear hD6 hY6
      go_wp2_with fail
      clear g0 g1 g2 u0 u1 u2 t0 t1
      obtain ⟨hkf, hbf⟩ := done_stored HD6.out (.int .i64 0) (.int .i64 an) (.int .i64 ae)
      have hfd := HFX.out.2
      have hwx : w.heap.size = x := HX.out
      have hAf := (HA6.out).kept hkf (fun k hk e => hfd (e ▸ hk))
      have hKf := (HK6.out).trans hkf (fun i hi e => absurd hi (by omega))
      exact bodyPost_ret (results_cell_row rfl _ _ (x + 1) _ _ _ _ rfl hbf Try.underlying95 rfl (by kernel_rfl)) rfl ⟨by rfl, F, hAf, hKf, fun k hk => .inl hk⟩
end Go.Proofs.Ytbncblnchcmgbaa
