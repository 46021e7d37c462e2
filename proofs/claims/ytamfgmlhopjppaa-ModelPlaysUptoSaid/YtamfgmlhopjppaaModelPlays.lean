/-
  In every order of calls a model answers as the document's does: ModelPlays answers true for every input of bulk at most 1048576. (Said is false BY SIZE.)
-/
import Derived.Test.YtamfgmlhopjppaaModF
import Derived.Test.YtamfgmlhopjppaaGrt26S
import Derived.Test.YtamfgmlhopjppaaSpots
import Derived.Test.YtamfgmlhopjppaaPlyL
import Derived.Test.YtamfgmlhopjppaaModI
import Derived.Test.YtamfgmlhopjppaaRmI
import Derived.Test.YtamfgmlhopjppaaGL
import Derived.Test.YtamfgmlhopjppaaFModelPlays
import Derived.Deep.CutBlock
namespace Go.Proofs.Ytamfgmlhopjppaa
open Go.RowKit Go.ChangeShapes Go.WideShapes Go.ChangeAt

theorem sumμ_memQ {α : Type} {f : α → Nat} {a : α} : ∀ {l : List α}, a ∈ l → f a ≤ Rp.sumμ f l
  | b :: l, h => by
    unfold Rp.sumμ
    rw [List.map_cons, List.sum_cons]
    rcases List.mem_cons.1 h with rfl | h
    · omega
    · have := sumμ_memQ (f := f) h
      unfold Rp.sumμ at this
      omega
theorem sumμ_lengthQ {α : Type} {f : α → Nat} (hf : ∀ a, 1 ≤ f a) : ∀ l : List α, l.length ≤ Rp.sumμ f l
  | [] => Nat.zero_le _
  | b :: l => by
    have := sumμ_lengthQ hf l
    have := hf b
    unfold Rp.sumμ at *
    rw [List.map_cons, List.sum_cons, List.length_cons]; omega
theorem strs_μQ (l : List ByteArray) : l.length + 1 ≤ Rp.str.slice.μ l := by
  have := sumμ_lengthQ (f := Rp.str.μ) (fun a => by show 1 ≤ a.size + 1; omega) l
  show _ ≤ 1 + Rp.sumμ Rp.str.μ l
  omega
theorem opl_μQ (o : OpL) : o.hashes.length + 1 ≤ Rp.opl.μ o ∧ o.name.size ≤ Rp.opl.μ o := by
  have := strs_μQ o.hashes
  have e : Rp.opl.μ o = o.name.size + Rp.str.slice.μ o.hashes := rfl
  omega
theorem ops_μQ (l : List OpL) : l.length + 1 ≤ Rp.opl.slice.μ l ∧ ∀ o ∈ l, o.hashes.length ≤ Rp.opl.slice.μ l ∧ o.name.size ≤ Rp.opl.slice.μ l := by
  have h2 := sumμ_lengthQ (f := Rp.opl.μ) (fun o => by have := (opl_μQ o).1; omega) l
  have e : Rp.opl.slice.μ l = 1 + Rp.sumμ Rp.opl.μ l := rfl
  refine ⟨by omega, fun o ho => ?_⟩
  have h3 := sumμ_memQ (f := Rp.opl.μ) ho
  have h4 := opl_μQ o
  omega
theorem plays_μ {l : List PlayL} (h : Rp.play.slice.μ l ≤ 1048576) : ∀ o ∈ l, SmallPl 1048576 o := by
  intro o ho
  have e : Rp.play.slice.μ l = 1 + Rp.sumμ Rp.play.μ l := rfl
  have h3 := sumμ_memQ (f := Rp.play.μ) ho
  have e2 : Rp.play.μ o = Rp.opl.slice.μ o.ops + (o.ask.name.size + o.ask.data.size + 1) + (Rp.str.slice.μ o.rep.names + o.rep.data.size + Rp.opl.slice.μ o.rep.lost) := rfl
  obtain ⟨h4, h5⟩ := ops_μQ o.ops
  have h6 := strs_μQ o.rep.names
  refine ⟨by omega, fun x hx => ?_, by omega, by omega, by omega⟩
  have := h5 x hx
  omega
theorem Rp.at_spotQ {w : World} {S : Nat → Prop} {A : Option Addr} {c : Nat} {l : List (Int × Int)} (h : Rp.spot.slice.R w S [.slice A l.length c] l) {i : Nat} {x : Int × Int} (hi : l[i]? = some x) :
    ∃ ad, A = some ad ∧ S ad.block ∧ w.cell? (ad.add (i * 2)) = some (.int .i64 x.1) ∧ w.cell? ⟨(ad.add (i * 2)).block, (ad.add (i * 2)).off + 1, none⟩ = some (.int .i64 x.2) := by
  obtain ⟨A2, c2, he, _, _, h3⟩ := h
  simp only [List.cons.injEq, Value.slice.injEq, and_true, true_and] at he
  obtain ⟨rfl, rfl⟩ := he
  have hl : 0 < l.length := by have := (List.getElem?_eq_some_iff.1 hi).1; omega
  obtain ⟨ad, rfl, hb, hc⟩ := h3 hl
  obtain ⟨es, he, rfl, _, _⟩ := hc i x hi
  exact ⟨ad, rfl, hb, he 0 _ rfl, he 1 _ rfl⟩
set_option maxRecDepth 100000 in
theorem BP.asked {W w w' : World} {m r n : Nat} {M : MV} {R : RV} {F G F' G' : Nat → Prop} {a : AskL} (h : BP W w' m (if a.kind = 1 then { M with asks := M.asks ++ [a] } else M) F' r (if a.kind = 1 then { R with asks := R.asks ++ [a] } else R) G') (hb : BM W w m M F r R G n) :
    BM W w' m (if a.kind = 1 then { M with asks := M.asks ++ [a] } else M) F' r (if a.kind = 1 then { R with asks := R.asks ++ [a] } else R) G' (n + 1) := by
  by_cases hk : a.kind = 1
  · rw [if_pos hk, if_pos hk] at h ⊢
    exact ⟨h.mm, h.rr, h.nm, h.nr, h.dj, h.kp, hb.ok.asked _, hb.snd.asked _, hb.same, by show M.asks ++ [a] = R.asks ++ [a]; rw [hb.asks], by show (R.asks ++ [a]).length ≤ _; have := hb.la; simp; omega, by have := hb.ll; show R.lines.length ≤ _; omega⟩
  · rw [if_neg hk, if_neg hk] at h ⊢
    exact ⟨h.mm, h.rr, h.nm, h.nr, h.dj, h.kp, hb.ok, hb.snd, hb.same, hb.asks, by have := hb.la; omega, by have := hb.ll; omega⟩
set_option maxRecDepth 100000 in
theorem BM.more {W w : World} {m r n : Nat} {M : MV} {R : RV} {F G : Nat → Prop} (h : BM W w m M F r R G n) : BM W w m M F r R G (n + 1) :=
  ⟨h.mm, h.rr, h.nm, h.nr, h.dj, h.kp, h.ok, h.snd, h.same, h.asks, by have := h.la; omega, by have := h.ll; omega⟩
set_option maxRecDepth 100000 in
theorem BM.copied {W w w2 : World} {m m2 r n : Nat} {M : MV} {R : RV} {F G F2 : Nat → Prop} (h : BM W w m M F r R G n) (hm : MAt w2 m2 M F2) (hu : Upd F w w2 F2) : BM W w2 m2 M F2 r R G (n + 1) := by
  have h2 := (BP.of h).turnM hm hu
  exact ⟨h2.mm, h2.rr, h2.nm, h2.nr, h2.dj, h2.kp, h.ok, h.snd, h.same, h.asks, by have := h.la; omega, by have := h.ll; omega⟩
def blkP (y : Nat) (w : World) (o : PlayL) (ov nv lv : Value) : Prop := Blk w y 42 (o.cells ov nv lv)
theorem blkP.at {y : Nat} {w w' : World} {o : PlayL} {ov nv lv : Value} (h : blkP y w o ov nv lv) (hk : Kp No w w') {j : Nat} {u : Value} (hu : (o.cells ov nv lv)[j]? = some u) : w'.cell? ⟨y, j, none⟩ = some u :=
  Blk.cell (Blk.kept h hk (fun z => z)) hu
set_option maxRecDepth 100000 in
set_option maxHeartbeats 40000000 in
theorem modelPlaysUpto_walk : ModelPlaysUptoWalk := by
  intro W v0 l h0 hμ
  obtain ⟨A0, c0, hv0, hz0⟩ := id h0
  clear hz0
  simp only [List.cons.injEq, and_true] at hv0
  subst hv0
  have HGR : Hid (∀ w, Kp No W w → Calls Try.prog 5 #[.slice A0 l.length c0] w fun e w' => GreatP l e ∧ Kp No w w') := Lib.hid (fun w hk => h_great26S l A0 c0 w _ (Rp.play.slice.keptNo h0 hk) (plays_μ hμ))
  have HR := Lib.hid h0
  clear h0 hμ
  go_enter Try.func3, Try.ntmps3
  go_wp2_with fail
  refine (h_awake26 W).mono ?_
  rintro e w1 ⟨rfl, hk1⟩
  have HK1 := Lib.hid hk1
  have HG := Lib.hid (HGR.out w1 hk1)
  clear hk1 HGR
  go_wp2_with fail
  refine HG.out.mono ?_
  rintro e w2 ⟨⟨b, rfl, hb⟩, hk2⟩
  have HK2 := Lib.hid (HK1.out.trans' hk2)
  clear hk2 HG HK1
  cases b
  case true =>
    clear hb
    go_wp2_with fail
    refine (h_awake26 w2).mono ?_
    rintro e w3 ⟨rfl, hk3⟩
    have HK3 := Lib.hid (HK2.out.trans' hk3)
    clear hk3
    go_wp2_with fail
    go_ret
    exact ⟨rfl, HK3.out⟩
  obtain ⟨hb1, hb2⟩ := hb rfl
  have hln : (l.length : Int) ≤ 60 := by omega
  have HSM := Lib.hid hb2
  clear hb1 hb2 hb
  go_wp2_with fail
  refine (m_new w2).mono ?_
  rintro e w3 ⟨m, F, rfl, hm, hf, hk3⟩
  obtain ⟨r, hr⟩ : ∃ v, w3.heap.size = v := ⟨_, rfl⟩
  obtain ⟨w4, hw4⟩ : ∃ v, w3.alloc (.cells #[.slice none 0 0, .slice none 0 0] 31) = v := ⟨_, rfl⟩
  have hk4 : Kp No w3 w4 := by rw [← hw4]; exact (Kp.refl _ _).alloc _
  have hb4 : Blk w4 r 31 [.slice none 0 0, .slice none 0 0] := by rw [← hw4, ← hr]; exact Blk.new w3 _ _
  have HB : Hid (BM W w4 m ⟨[], []⟩ F r ⟨[], []⟩ (RFoot r (.slice none 0 0) (.slice none 0 0) No) 0) := Lib.hid
    ⟨hm.keptNo hk4, ⟨_, _, No, ⟨hb4, Own.nil _ _ _ _ _, Own.nil _ _ _ _ _, fun h => h, by simp [Value.ownBlock], by simp [Value.ownBlock], fun k h => h.elim, fun k h => h.elim, fun k h => h.elim⟩, fun k => Iff.rfl⟩,
      fun k hk => Nat.le_trans HK2.out.size (hf k hk), fun k hk => (by
        rcases hk with rfl | h | h | h
        · rw [← hr]; exact (HK2.out.trans' hk3).size
        · simp [Value.ownBlock] at h
        · simp [Value.ownBlock] at h
        · exact h.elim), fun k h1 h2 => (by
        have := hm.lt h1
        rcases h2 with rfl | h | h | h
        · omega
        · simp [Value.ownBlock] at h
        · simp [Value.ownBlock] at h
        · exact h.elim), (HK2.out.trans' hk3).trans' hk4, OkM.new, SoundM.new, fun p => rfl, rfl, Nat.zero_le _, Nat.zero_le _⟩
  clear hm hf hk3 hk4 hb4 HK2
  go_wp2_with fail
  try rw [hw4]
  try rw [hr]
  clear hw4 hr
  go_loopw [3, 34] (fun mv iv wr => ∃ (i m : Nat) (M : MV) (F : Nat → Prop) (R : RV) (G : Nat → Prop), i ≤ l.length ∧ iv = .int .i64 (i : Int) ∧ mv = .pointer (some ⟨m, 0, none⟩) ∧ Hid (BM W wr m M F r R G i)) (fun _ iv _ => l.length - (intOf iv).toNat)
  case atStart => exact ⟨0, m, _, F, _, _, Nat.zero_le _, rfl, rfl, HB⟩
  case round =>
    clear HB
    obtain ⟨i, m, M, F, R, G, hi, rfl, rfl, HB⟩ := hrel
    by_cases hlt : i < l.length
    case neg =>
      obtain rfl : i = l.length := by omega
      go_wp2_with fail
      go_ret
      exact ⟨rfl, HB.out.kp⟩
    case pos =>
    have hli : (i : Int) < (l.length : Int) := by omega
    have HI : Hid (i ≤ 60) := Lib.hid (by omega)
    obtain ⟨o, ho⟩ : ∃ o, l[i]? = some o := ⟨_, List.getElem?_eq_getElem hlt⟩
    obtain ⟨ad, O, co, N, cn, L, cl, rfl, hadl, hcW, hnum, hrO, hrN, hrL⟩ := Rp.at_play HR.out ho
    obtain ⟨z0, z1, z2, z3, z4, z5, z6, z7, z8, z9, z10, z11, z12, z13, z14, z15⟩ := play_cells (w := wr) (ad := ad.add (i * 16)) (fun j u hu => (HB.out.kp.cell (p := (ad.add (i * 16)).add j) (by rw [block_add, block_add]; exact hadl) (fun z => z)).trans (hcW j u hu))
    have HSL := Lib.hid (HSM.out o (List.mem_of_getElem? ho))
    obtain ⟨y, hy⟩ : ∃ v, wr.heap.size = v := ⟨_, rfl⟩
    obtain ⟨w1, hw1⟩ : ∃ v, wr.alloc (.cells #[.int .i64 o.kind, .slice O o.ops.length co, .int .i64 o.ask.kind, .int .i64 o.ask.client, .int .i64 o.ask.seq, .string o.ask.name, .string o.ask.data, .int .i64 o.ask.mode, .int .i64 o.ask.lag, .int .i64 o.rep.ask, .int .i64 o.rep.err, .int .i64 o.rep.an, .int .i64 o.rep.ae, .slice N o.rep.names.length cn, .string o.rep.data, .slice L o.rep.lost.length cl] 42) = v := ⟨_, rfl⟩
    have hk1 : Kp No wr w1 := by rw [← hw1]; exact (Kp.refl _ _).alloc _
    have HY : Hid (blkP y w1 o (.slice O o.ops.length co) (.slice N o.rep.names.length cn) (.slice L o.rep.lost.length cl)) := Lib.hid (by rw [← hw1, ← hy]; exact Blk.new wr _ _)
    have HYG : Hid (W.heap.size ≤ y ∧ (∀ k, F k → k ≠ y) ∧ ∀ k, G k → k ≠ y) := Lib.hid ⟨by rw [← hy]; exact HB.out.kp.size, fun k hk e => by have := HB.out.mm.lt hk; omega, fun k hk e => by have := HB.out.rr.lt hk; omega⟩
    have HB1 := Lib.hid (HB.out.keptNo hk1)
    have HRO := Lib.hid (fun w' (hk : Kp No W w') => Rp.opl.slice.keptNo hrO hk)
    have HRN := Lib.hid (fun w' (hk : Kp No W w') => Rp.str.slice.keptNo hrN hk)
    have HNU := Lib.hid hnum
    have HON : Hid (∀ x ∈ o.ops, x.nums) := Lib.hid (fun x hx => by
      obtain ⟨j, hj⟩ := List.getElem?_of_mem hx
      obtain ⟨_, _, _, _, _, _, hn, _⟩ := Rp.at_opl hrO hj
      exact hn)
    clear ho hcW hnum hrO hrN hrL hk1
    obtain ⟨k, ops, a, x⟩ := o
    simp only at z0 z1 z2 z3 z4 z5 z6 z7 z8 z9 z10 z11 z12 z13 z14 z15 hw1 HY HSL HRO HRN HNU HON
    have HSM2 : Hid (ops.length ≤ 4096 ∧ ∀ x ∈ ops, x.hashes.length ≤ 4096) := Lib.hid ⟨HSL.out.1, fun x hx => (HSL.out.2.1 x hx).1⟩
    go_upto_region 7 with fail
    try rw [hw1]
    try rw [hy]
    clear hw1 hy z0 z1 z2 z3 z4 z5 z6 z7 z8 z9 z10 z11 z12 z13 z14 z15
    have y0 : w1.cell? ⟨y, 0, none⟩ = some _ := HY.out.at (Kp.refl _ _) rfl
    go_upto_block 2 with fail
    go_cut [3] (fun mv wx => ∃ (m : Nat) (M : MV) (F : Nat → Prop) (R : RV) (G : Nat → Prop), mv = .pointer (some ⟨m, 0, none⟩) ∧ Hid (BM W wx m M F r R G (i + 1)) ∧ Hid (blkP y wx ⟨k, ops, a, x⟩ (.slice O ops.length co) (.slice N x.names.length cn) (.slice L x.lost.length cl)))
    case first =>
      have HMN : Hid (M.asks.length ≤ 1000000 ∧ R.asks.length ≤ 1000000 ∧ R.lines.length ≤ 800000) := Lib.hid (by have h1 := HB.out.la; have h2 := HB.out.ll; have h3 := HI.out; have h4 := HB.out.asks; rw [h4]; omega)
      by_cases k1 : k = 1
      case pos =>
        subst k1
        go_upto_region 12 with fail
        obtain ⟨wd, hwd⟩ : ∃ v, w1.drew = v := ⟨_, rfl⟩
        have HKD : Hid (Kp No w1 wd) := Lib.hid (by rw [← hwd]; exact (Kp.refl _ _).drew)
        have HBD := Lib.hid (HB1.out.keptNo HKD.out)
        have y1 : wd.cell? ⟨y, 1, none⟩ = some _ := HY.out.at HKD.out rfl
        refine Reg.wp_region_plan [⟨0, false, []⟩, ⟨1, false, []⟩, ⟨2, false, []⟩, ⟨5, false, []⟩, ⟨6, false, []⟩, ⟨7, false, []⟩, ⟨3, true, [6, 7]⟩, ⟨4, true, [6, 7]⟩, ⟨8, true, []⟩, ⟨9, false, []⟩] rfl (by kernel_rfl) ?_
        rw [hwd]
        clear hwd y0
        repeat (first | (refine Reg.look rfl rfl rfl (by go_simp; rfl) rfl ?_; go_simp) | (refine Reg.skip rfl rfl rfl ?_; go_simp))
        have HOW := Lib.hid (r_ownops ops O co wd _ (HRO.out wd HBD.out.kp) (by have := HSM2.out.1; omega) (fun o ho => by have := HSM2.out.2 o ho; omega))
        refine Reg.act rfl ?_
        go_wp2_with fail
        refine HOW.out.mono ?_
        rintro e w2 ⟨A2, c2, rfl, hown, hk2⟩
        have HK2 := Lib.hid (HKD.out.trans' hk2)
        have HB2 := Lib.hid (HBD.out.keptNo hk2)
        have HRD := Lib.hid hown.readFrom
        clear hown hk2 y1 HOW
        have y1 : w2.cell? ⟨y, 1, none⟩ = some _ := HY.out.at HK2.out rfl
        go_wp2_with fail
        (refine ⟨?anew, ?_⟩; case anew => ((repeat (refine Reg.anew_cons rfl rfl (fun _ => by go_simp) ?_)); exact Reg.anew_nil))
        repeat (first | (refine Reg.look rfl rfl rfl (by go_simp; rfl) rfl ?_; go_simp) | (refine Reg.skip rfl rfl rfl ?_; go_simp))
        have HSE := Lib.hid (m_see ops A2 c2 _ m M F w2 HB2.out.mm HB2.out.ok HRD.out (by have := HSM2.out.1; omega) (fun o ho => by have := HSM2.out.2 o ho; omega))
        refine Reg.act rfl ?_
        go_wp2_with fail
        refine HSE.out.mono ?_
        rintro e w3 ⟨rfl, F3, hm3, hu3⟩
        have HP3 := Lib.hid ((BP.of HB2.out).turnM hm3 hu3)
        have HY3 : Hid (blkP y w3 ⟨1, ops, a, x⟩ (.slice O ops.length co) (.slice N x.names.length cn) (.slice L x.lost.length cl)) := Lib.hid (Blk.kept (Blk.kept HY.out HK2.out (fun z => z)) hu3.kp (fun z => HYG.out.2.1 y z rfl))
        clear hm3 hu3 y1 HSE
        have y1 : w3.cell? ⟨y, 1, none⟩ = some _ := HY3.out.at (Kp.refl _ _) rfl
        go_wp2_with fail
        (refine ⟨?anew, ?_⟩; case anew => ((repeat (refine Reg.anew_cons rfl rfl (fun _ => by go_simp) ?_)); exact Reg.anew_nil))
        repeat (first | (refine Reg.look rfl rfl rfl (by go_simp; rfl) rfl ?_; go_simp) | (refine Reg.skip rfl rfl rfl ?_; go_simp))
        have HSR := Lib.hid (r_see26 ops O co _ r R G w3 HP3.out.rr (HRO.out w3 HP3.out.kp) (fun k hk => ⟨by have := HP3.out.kp.size; omega, fun hg => by have := HB.out.nr k hg; omega⟩) (by have := HSM2.out.1; omega) (fun o ho => by have := HSM2.out.2 o ho; omega) HMN.out.2.2)
        refine Reg.act rfl ?_
        go_wp2_with fail
        refine HSR.out.mono ?_
        rintro e w4 ⟨rfl, G4, hr4, hu4⟩
        have HP4 := Lib.hid ((HP3.out.turnR hr4 hu4).see HB2.out HON.out (by have := HSM2.out.1; omega) (fun o ho => by have := HSM2.out.2 o ho; omega))
        have HY4 : Hid (blkP y w4 ⟨1, ops, a, x⟩ (.slice O ops.length co) (.slice N x.names.length cn) (.slice L x.lost.length cl)) := Lib.hid (Blk.kept HY3.out hu4.kp (fun z => HYG.out.2.2 y z rfl))
        rw [← HP4.out.2]
        obtain ⟨J, hJ⟩ : ∃ J, (seeL ops M).1 = J := ⟨_, rfl⟩
        rw [hJ]
        clear hr4 hu4 y1 HSR hJ
        go_wp2_with fail
        (refine ⟨?anew, ?_⟩; case anew => ((repeat (refine Reg.anew_cons rfl rfl (fun _ => by go_simp) ?_)); exact Reg.anew_nil))
        repeat (first | (refine Reg.look rfl rfl rfl (by go_simp; rfl) rfl ?_; go_simp) | (refine Reg.skip rfl rfl rfl ?_; go_simp))
        (refine Reg.done ?_; simp only [Exit.then])
        go_wp2_with fail
        go_meet
        exact ⟨m, _, F3, _, G4, rfl, Lib.hid HP4.out.1, HY4⟩
      case neg =>
      have k1b : (k == 1) = false := beq_eq_false_iff_ne.2 k1
      by_cases k2 : k = 2
      case pos =>
        subst k2
        clear k1 k1b
        have HA := Lib.hid (m_asked a m M F w1 HB1.out.mm HNU.out.2.1 HMN.out.1)
        unfold askV at HA
        have y2 : w1.cell? ⟨y, 2, none⟩ = some _ := HY.out.at (Kp.refl _ _) rfl
        have y3 : w1.cell? ⟨y, 3, none⟩ = some _ := HY.out.at (Kp.refl _ _) rfl
        have y4 : w1.cell? ⟨y, 4, none⟩ = some _ := HY.out.at (Kp.refl _ _) rfl
        have y5 : w1.cell? ⟨y, 5, none⟩ = some _ := HY.out.at (Kp.refl _ _) rfl
        have y6 : w1.cell? ⟨y, 6, none⟩ = some _ := HY.out.at (Kp.refl _ _) rfl
        have y7 : w1.cell? ⟨y, 7, none⟩ = some _ := HY.out.at (Kp.refl _ _) rfl
        have y8 : w1.cell? ⟨y, 8, none⟩ = some _ := HY.out.at (Kp.refl _ _) rfl
        go_wp2_with fail
        refine HA.out.mono ?_
        rintro e w2 ⟨rfl, F2, hm2, hu2⟩
        have HP2 := Lib.hid ((BP.of HB1.out).turnM hm2 hu2)
        have HY2 : Hid (blkP y w2 ⟨2, ops, a, x⟩ (.slice O ops.length co) (.slice N x.names.length cn) (.slice L x.lost.length cl)) := Lib.hid (Blk.kept HY.out hu2.kp (fun z => HYG.out.2.1 y z rfl))
        have HA2 := Lib.hid (r_asked26 a r R G w2 HP2.out.rr HNU.out.2.1 HMN.out.2.1)
        unfold askV at HA2
        clear hm2 hu2 HA y0 y2 y3 y4 y5 y6 y7 y8
        have y2 : w2.cell? ⟨y, 2, none⟩ = some _ := HY2.out.at (Kp.refl _ _) rfl
        have y3 : w2.cell? ⟨y, 3, none⟩ = some _ := HY2.out.at (Kp.refl _ _) rfl
        have y4 : w2.cell? ⟨y, 4, none⟩ = some _ := HY2.out.at (Kp.refl _ _) rfl
        have y5 : w2.cell? ⟨y, 5, none⟩ = some _ := HY2.out.at (Kp.refl _ _) rfl
        have y6 : w2.cell? ⟨y, 6, none⟩ = some _ := HY2.out.at (Kp.refl _ _) rfl
        have y7 : w2.cell? ⟨y, 7, none⟩ = some _ := HY2.out.at (Kp.refl _ _) rfl
        have y8 : w2.cell? ⟨y, 8, none⟩ = some _ := HY2.out.at (Kp.refl _ _) rfl
        go_wp2_with fail
        refine HA2.out.mono ?_
        rintro e w3 ⟨rfl, G3, hr3, hu3⟩
        have HB3 := Lib.hid ((HP2.out.turnR hr3 hu3).asked HB1.out)
        have HY3 : Hid (blkP y w3 ⟨2, ops, a, x⟩ (.slice O ops.length co) (.slice N x.names.length cn) (.slice L x.lost.length cl)) := Lib.hid (Blk.kept HY2.out hu3.kp (fun z => HYG.out.2.2 y z rfl))
        clear hr3 hu3 HA2 y2 y3 y4 y5 y6 y7 y8
        go_wp2_with fail
        go_meet
        exact ⟨m, _, F2, _, G3, rfl, HB3, HY3⟩
      case neg =>
      have k2b : (k == 2) = false := beq_eq_false_iff_ne.2 k2
      by_cases k3 : k = 3
      case pos =>
        subst k3
        clear k1 k1b k2 k2b y0
        go_upto_region 18 with fail
        obtain ⟨wd, hwd⟩ : ∃ v, w1.drew = v := ⟨_, rfl⟩
        have HKD : Hid (Kp No w1 wd) := Lib.hid (by rw [← hwd]; exact (Kp.refl _ _).drew)
        have HBD := Lib.hid (HB1.out.keptNo HKD.out)
        have HRF : Hid (RefOk M R) := Lib.hid (HB.out.ref (by have := HI.out; omega))
        have HJ1 := m_judge HBD.out.ok (putP M.asks) m F wd HBD.out.mm a x HNU.out.2.2 N cn (.slice L x.lost.length cl) (fun o d A' c' S' w' hk _ hr => m_put o d A' c' S' m M F w' (HBD.out.mm.keptNo hk) hr) _ (HRN.out wd HBD.out.kp)
        have HJ2 := fun w' (hk : Kp No wd w') => r_judge26 HRF.out (putP M.asks) r G w' (HBD.out.rr.keptNo hk) a x HNU.out.2.2 N cn (.slice L x.lost.length cl) (fun o d A' c' S' w'' hk' _ hr => by rw [HB.out.asks]; exact r_bytes26 o d A' c' S' r R G w'' (HBD.out.rr.keptNo (hk.trans' hk')) HMN.out.2.1 hr) _ (HRN.out w' (HBD.out.kp.trans' hk))
        obtain ⟨J, hJ⟩ : ∃ J, judgeP M (putP M.asks) a x = J := ⟨_, rfl⟩
        rw [hJ] at HJ1 HJ2
        unfold askV repV at HJ1 HJ2
        have HJ1 := Lib.hid HJ1
        have HJ2 := Lib.hid HJ2
        clear hJ
        have y2 : wd.cell? ⟨y, 2, none⟩ = some _ := HY.out.at HKD.out rfl
        have y3 : wd.cell? ⟨y, 3, none⟩ = some _ := HY.out.at HKD.out rfl
        have y4 : wd.cell? ⟨y, 4, none⟩ = some _ := HY.out.at HKD.out rfl
        have y5 : wd.cell? ⟨y, 5, none⟩ = some _ := HY.out.at HKD.out rfl
        have y6 : wd.cell? ⟨y, 6, none⟩ = some _ := HY.out.at HKD.out rfl
        have y7 : wd.cell? ⟨y, 7, none⟩ = some _ := HY.out.at HKD.out rfl
        have y8 : wd.cell? ⟨y, 8, none⟩ = some _ := HY.out.at HKD.out rfl
        have y9 : wd.cell? ⟨y, 9, none⟩ = some _ := HY.out.at HKD.out rfl
        have y10 : wd.cell? ⟨y, 10, none⟩ = some _ := HY.out.at HKD.out rfl
        have y11 : wd.cell? ⟨y, 11, none⟩ = some _ := HY.out.at HKD.out rfl
        have y12 : wd.cell? ⟨y, 12, none⟩ = some _ := HY.out.at HKD.out rfl
        have y13 : wd.cell? ⟨y, 13, none⟩ = some _ := HY.out.at HKD.out rfl
        have y14 : wd.cell? ⟨y, 14, none⟩ = some _ := HY.out.at HKD.out rfl
        have y15 : wd.cell? ⟨y, 15, none⟩ = some _ := HY.out.at HKD.out rfl
        refine Reg.wp_region_plan [⟨0, false, []⟩, ⟨1, false, []⟩, ⟨2, false, []⟩, ⟨3, false, []⟩, ⟨4, false, []⟩, ⟨6, false, []⟩, ⟨7, false, []⟩, ⟨8, false, []⟩, ⟨9, false, []⟩, ⟨10, false, []⟩, ⟨5, true, [7, 8, 9, 10]⟩, ⟨11, true, []⟩, ⟨12, false, []⟩] rfl (by kernel_rfl) ?_
        rw [hwd]
        clear hwd
        repeat (first | (refine Reg.look rfl rfl rfl (by go_simp; rfl) rfl ?_; go_simp) | (refine Reg.skip rfl rfl rfl ?_; go_simp))
        refine Reg.act rfl ?_
        go_wp2_with fail
        refine HJ1.out.mono ?_
        rintro e w2 ⟨rfl, hk2⟩
        have HK2 := Lib.hid (HKD.out.trans' hk2)
        have HC2 := Lib.hid (HJ2.out w2 hk2)
        clear hk2 HJ1 HJ2
        clear y2 y3 y4 y5 y6 y7 y8 y9 y10 y11 y12 y13 y14 y15
        have y2 : w2.cell? ⟨y, 2, none⟩ = some _ := HY.out.at HK2.out rfl
        have y3 : w2.cell? ⟨y, 3, none⟩ = some _ := HY.out.at HK2.out rfl
        have y4 : w2.cell? ⟨y, 4, none⟩ = some _ := HY.out.at HK2.out rfl
        have y5 : w2.cell? ⟨y, 5, none⟩ = some _ := HY.out.at HK2.out rfl
        have y6 : w2.cell? ⟨y, 6, none⟩ = some _ := HY.out.at HK2.out rfl
        have y7 : w2.cell? ⟨y, 7, none⟩ = some _ := HY.out.at HK2.out rfl
        have y8 : w2.cell? ⟨y, 8, none⟩ = some _ := HY.out.at HK2.out rfl
        have y9 : w2.cell? ⟨y, 9, none⟩ = some _ := HY.out.at HK2.out rfl
        have y10 : w2.cell? ⟨y, 10, none⟩ = some _ := HY.out.at HK2.out rfl
        have y11 : w2.cell? ⟨y, 11, none⟩ = some _ := HY.out.at HK2.out rfl
        have y12 : w2.cell? ⟨y, 12, none⟩ = some _ := HY.out.at HK2.out rfl
        have y13 : w2.cell? ⟨y, 13, none⟩ = some _ := HY.out.at HK2.out rfl
        have y14 : w2.cell? ⟨y, 14, none⟩ = some _ := HY.out.at HK2.out rfl
        have y15 : w2.cell? ⟨y, 15, none⟩ = some _ := HY.out.at HK2.out rfl
        go_wp2_with fail
        (refine ⟨?anew, ?_⟩; case anew => ((repeat (refine Reg.anew_cons rfl rfl (fun _ => by go_simp) ?_)); exact Reg.anew_nil))
        repeat (first | (refine Reg.look rfl rfl rfl (by go_simp; rfl) rfl ?_; go_simp) | (refine Reg.skip rfl rfl rfl ?_; go_simp))
        refine Reg.act rfl ?_
        go_wp2_with fail
        refine HC2.out.mono ?_
        rintro e w3 ⟨rfl, hk3⟩
        have HB3 := Lib.hid ((HB1.out.keptNo (HK2.out.trans' hk3)).more)
        have HY3 : Hid (blkP y w3 ⟨3, ops, a, x⟩ (.slice O ops.length co) (.slice N x.names.length cn) (.slice L x.lost.length cl)) := Lib.hid (Blk.kept HY.out (HK2.out.trans' hk3) (fun z => z))
        clear hk3 HC2
        clear y2 y3 y4 y5 y6 y7 y8 y9 y10 y11 y12 y13 y14 y15
        go_wp2_with fail
        (refine ⟨?anew, ?_⟩; case anew => ((repeat (refine Reg.anew_cons rfl rfl (fun _ => by go_simp) ?_)); exact Reg.anew_nil))
        repeat (first | (refine Reg.look rfl rfl rfl (by go_simp; rfl) rfl ?_; go_simp) | (refine Reg.skip rfl rfl rfl ?_; go_simp))
        (refine Reg.done ?_; simp only [Exit.then])
        go_wp2_with fail
        go_meet
        exact ⟨m, M, F, R, G, rfl, HB3, HY3⟩
      case neg =>
      have k3b : (k == 3) = false := beq_eq_false_iff_ne.2 k3
      clear k1 k2 k3
      obtain ⟨bb, av, S, hin, hft⟩ := HB1.out.mm
      have HIN := Lib.hid hin
      have HFT := Lib.hid hft
      have HC := Lib.hid (m_copy m bb av S M w1 hin HMN.out.1)
      clear hin hft
      go_wp2_with fail
      refine HC.out.mono ?_
      rintro e w2 ⟨m2, b2, av2, rfl, hin2, hnew, hk2⟩
      have HK2 := Lib.hid hk2
      have HIN2 := Lib.hid hin2
      have HNEW := Lib.hid hnew
      have HSE := Lib.hid (m_see_in ops O co _ m bb av S M w2 (HIN.out.kept hk2 (fun _ _ z => z)) HB1.out.ok (HRO.out w2 (HB1.out.kp.trans' hk2)) (by have := HSM2.out.1; omega) (fun o ho => by have := HSM2.out.2 o ho; omega))
      have y1 : w2.cell? ⟨y, 1, none⟩ = some _ := HY.out.at hk2 rfl
      clear hk2 hin2 hnew HC y0
      go_wp2_with fail
      refine HSE.out.mono ?_
      rintro e w3 ⟨rfl, S3, _, hk3, _⟩
      have HUP := Lib.hid (Upd.copied HIN.out HFT.out HK2.out HIN2.out HNEW.out hk3)
      have HY3 : Hid (blkP y w3 ⟨k, ops, a, x⟩ (.slice O ops.length co) (.slice N x.names.length cn) (.slice L x.lost.length cl)) := Lib.hid (Blk.kept (Blk.kept HY.out HK2.out (fun z => z)) hk3 (fun e => HYG.out.2.1 bb ((HFT.out bb).2 (.inr (.inl rfl))) e.symm))
      clear hk3 HSE y1
      go_wp2_with fail
      go_meet
      exact ⟨m2, M, _, R, G, rfl, Lib.hid (HB1.out.copied HUP.out.1 HUP.out.2), HY3⟩
    case rest =>
      clear HB HB1 HY HYG HI
      obtain ⟨m, M, F, R, G, rfl, HB, HY⟩ := hcut
      obtain ⟨w5, rfl⟩ : ∃ v, v = wc := ⟨_, rfl⟩
      clear y0
      have y1 : w5.cell? ⟨y, 1, none⟩ = some _ := HY.out.at (Kp.refl _ _) rfl
      have HSP := Lib.hid (h_spots ops O co w5 _ (HRO.out w5 HB.out.kp) (by have := HSM2.out.1; omega))
      have HSLEN : Hid ((spotsL ops).length ≤ 5000) := Lib.hid (by have := HSM2.out.1; simp [spotsL]; omega)
      have HRF : Hid (RefOk M R) := Lib.hid (HB.out.ref (by omega))
      obtain ⟨Z, hZ⟩ : ∃ Z, spotsL ops = Z := ⟨_, rfl⟩
      rw [hZ] at HSP HSLEN
      clear hZ HRO HRN HNU HON HSL HSM2
      go_wp2_with fail
      refine HSP.out.mono ?_
      rintro e w6 ⟨A5, c5, rfl, hsp, hk6⟩
      have H6 := Lib.hid (HB.out.keptNo hk6)
      have HY6 : Hid (blkP y w6 ⟨k, ops, a, x⟩ (.slice O ops.length co) (.slice N x.names.length cn) (.slice L x.lost.length cl)) := Lib.hid (Blk.kept HY.out hk6 (fun z => z))
      have HSR := Lib.hid hsp
      have hzl : (Z.length : Int) ≤ 5000 := by have := HSLEN.out; omega
      clear hsp hk6 HSP HSLEN y1 HB HY
      go_wp2_with fail
      go_loopw [88] (fun iv wr5 => ∃ j : Nat, j ≤ Z.length ∧ iv = .int .i64 (j : Int) ∧ Hid (Kp No w6 wr5)) (fun iv _ => Z.length - (intOf iv).toNat)
      case atStart => exact ⟨0, Nat.zero_le _, rfl, Lib.hid (Kp.refl _ _)⟩
      case round =>
        obtain ⟨j, hj, rfl, HKJ⟩ := hrel
        by_cases hjt : j < Z.length
        case neg =>
          obtain rfl : j = Z.length := by omega
          clear hj hjt
          go_wp2_with fail
          go_roundw
          case rel => exact ⟨i + 1, m, M, F, R, G, by omega, by go_num, rfl, Lib.hid (H6.out.keptNo HKJ.out)⟩
          case measure => simp [intOf]; omega
        case pos =>
        have hji : (j : Int) < (Z.length : Int) := by omega
        obtain ⟨q, hq⟩ : ∃ q, Z[j]? = some q := ⟨_, List.getElem?_eq_getElem hjt⟩
        obtain ⟨ad5, rfl, _, hc0, hc1⟩ := Rp.at_spotQ (Rp.spot.slice.keptNo HSR.out HKJ.out) hq
        obtain ⟨z, hz⟩ : ∃ v, wr.heap.size = v := ⟨_, rfl⟩
        obtain ⟨w7, hw7⟩ : ∃ v, wr.alloc (.cells #[.int .i64 q.1, .int .i64 q.2] 37) = v := ⟨_, rfl⟩
        have hk7 : Kp No wr w7 := by rw [← hw7]; exact (Kp.refl _ _).alloc _
        have HB7 : Hid (Blk w7 z 37 [.int .i64 q.1, .int .i64 q.2]) := Lib.hid (by rw [← hw7, ← hz]; exact Blk.new wr _ _)
        have HK7 := Lib.hid (HKJ.out.trans' hk7)
        have H7 := Lib.hid (H6.out.keptNo HK7.out)
        have HY7 := Lib.hid (fun w' (hk : Kp No w7 w') => HY6.out.at (HK7.out.trans' hk) (j := 5) rfl)
        have hpa := fun w' (hk' : Kp No w7 w') => (m_path q m M F w' (H7.out.mm.keptNo hk') H7.out.ok).mono (fun e w'' h => (⟨pathP_all h.1, h.2⟩ : (∃ A2 c2, e = .returned (.tuple #[.slice A2 (pathD M q).length c2, .bool (pathM M q).isSome]) ∧ Rp.opl.slice.R w'' (fun k => w'.heap.size ≤ k) [.slice A2 (pathD M q).length c2] (pathD M q)) ∧ Kp No w' w''))
        have hpb := fun w' (hk' : Kp No w7 w') => r_path26' HRF.out q r G w' (H7.out.rr.keptNo hk')
        have hna := fun w' (hk' : Kp No w7 w') => m_names q m M F w' (H7.out.mm.keptNo hk') H7.out.ok
        have hnb := fun w' (hk' : Kp No w7 w') => r_names26 HRF.out q r G w' (H7.out.rr.keptNo hk')
        have hfa := fun w' (hk' : Kp No w7 w') => m_find q a.name m M F w' (H7.out.mm.keptNo hk') H7.out.ok
        have hfb := fun w' (hk' : Kp No w7 w') => r_fnd26 HRF.out q a.name r G w' (H7.out.rr.keptNo hk')
        obtain ⟨TB, hTB⟩ : ∃ v, (pathM M q).isSome = v := ⟨_, rfl⟩
        obtain ⟨PL, hPL⟩ : ∃ v, pathD M q = v := ⟨_, rfl⟩
        obtain ⟨NL, hNL⟩ : ∃ v, namesM M q = v := ⟨_, rfl⟩
        obtain ⟨FB, hFB⟩ : ∃ v, (findM M q a.name).isSome = v := ⟨_, rfl⟩
        obtain ⟨fo, hfo⟩ : ∃ v, (findM M q a.name).getD zeroO = v := ⟨_, rfl⟩
        rw [hTB, hPL] at hpa hpb
        rw [hTB, hNL] at hna hnb
        rw [hFB, hfo] at hfa hfb
        unfold spotV at hpa hpb hna hnb hfa hfb
        have HPA := Lib.hid hpa
        have HPB := Lib.hid hpb
        have HNA := Lib.hid hna
        have HNB := Lib.hid hnb
        have HFA := Lib.hid hfa
        have HFB := Lib.hid hfb
        clear hpa hpb hna hnb hfa hfb hTB hPL hNL hFB hfo hk7 hq H6 HY6 HRF
        go_upto_region 23 with fail
        try rw [hw7]
        try rw [hz]
        clear hw7 hz hc0 hc1
        have q0 : w7.cell? ⟨z, 0, none⟩ = some _ := Blk.cell (HB7.out.kept (Kp.refl No w7) (fun z => z)) rfl
        have q1 : w7.cell? ⟨z, 1, none⟩ = some _ := Blk.cell (HB7.out.kept (Kp.refl No w7) (fun z => z)) rfl
        go_wp2_with fail
        refine (HPA.out w7 (Kp.refl _ _)).mono ?_
        rintro e w8 ⟨⟨A8, c8, rfl, hr8⟩, hk8⟩
        have HR8 := Lib.hid (fun w' (hk : Kp No w8 w') => Rp.opl.slice.keptNo hr8 hk)
        have HK8 := Lib.hid hk8
        clear q0 q1 hr8 hk8 HPA
        have q0 : w8.cell? ⟨z, 0, none⟩ = some _ := Blk.cell (HB7.out.kept HK8.out (fun z => z)) rfl
        have q1 : w8.cell? ⟨z, 1, none⟩ = some _ := Blk.cell (HB7.out.kept HK8.out (fun z => z)) rfl
        go_wp2_with fail
        refine (HPB.out w8 HK8.out).mono ?_
        rintro e w9 ⟨⟨A9, c9, rfl, hr9⟩, hk9⟩
        have HR9 := Lib.hid (fun w' (hk : Kp No w9 w') => Rp.opl.slice.keptNo hr9 hk)
        have H89 := Lib.hid hk9
        have HK9 := Lib.hid (HK8.out.trans' hk9)
        clear q0 q1 hr9 hk9 HPB
        have q0 : w9.cell? ⟨z, 0, none⟩ = some _ := Blk.cell (HB7.out.kept HK9.out (fun z => z)) rfl
        have q1 : w9.cell? ⟨z, 1, none⟩ = some _ := Blk.cell (HB7.out.kept HK9.out (fun z => z)) rfl
        go_wp2_with fail
        refine (HNA.out w9 HK9.out).mono ?_
        rintro e w10 ⟨A10, c10, rfl, ho10, hk10⟩
        have HR10 := Lib.hid (fun w' (hk : Kp No w10 w') => Rp.str.slice.keptNo ho10.readFrom hk)
        have H910 := Lib.hid hk10
        have HK10 := Lib.hid (HK9.out.trans' hk10)
        clear q0 q1 ho10 hk10 HNA
        have q0 : w10.cell? ⟨z, 0, none⟩ = some _ := Blk.cell (HB7.out.kept HK10.out (fun z => z)) rfl
        have q1 : w10.cell? ⟨z, 1, none⟩ = some _ := Blk.cell (HB7.out.kept HK10.out (fun z => z)) rfl
        go_wp2_with fail
        refine (HNB.out w10 HK10.out).mono ?_
        rintro e w11 ⟨A11, c11, rfl, hr11, hk11⟩
        have HR11 := Lib.hid (fun w' (hk : Kp No w11 w') => Rp.str.slice.keptNo hr11 hk)
        have H1011 := Lib.hid hk11
        have HK11 := Lib.hid (HK10.out.trans' hk11)
        clear q0 q1 hr11 hk11 HNB
        have q0 : w11.cell? ⟨z, 0, none⟩ = some _ := Blk.cell (HB7.out.kept HK11.out (fun z => z)) rfl
        have q1 : w11.cell? ⟨z, 1, none⟩ = some _ := Blk.cell (HB7.out.kept HK11.out (fun z => z)) rfl
        have y5 : w11.cell? ⟨y, 5, none⟩ = some _ := HY7.out w11 HK11.out
        obtain ⟨fn, fe, fk, fs, fc, fq, fnm, fsz, fhs⟩ := fo
        simp only at HFA HFB
        unfold opV at HFA HFB
        go_wp2_with fail
        refine (HFA.out w11 HK11.out).mono ?_
        rintro e w12 ⟨A12, c12, rfl, hr12, hk12⟩
        obtain ⟨u, hu⟩ : ∃ v, w12.heap.size = v := ⟨_, rfl⟩
        obtain ⟨w13, hw13⟩ : ∃ v, w12.alloc (.cells #[.int .i64 fn, .int .i64 fe, .int .i64 fk, .int .i64 fs, .int .i64 fc, .int .i64 fq, .string fnm, .int .i64 fsz, .slice A12 fhs.length c12] 58) = v := ⟨_, rfl⟩
        have hk13 : Kp No w12 w13 := by rw [← hw13]; exact (Kp.refl _ _).alloc _
        have HBU : Hid (Blk w13 u 58 [.int .i64 fn, .int .i64 fe, .int .i64 fk, .int .i64 fs, .int .i64 fc, .int .i64 fq, .string fnm, .int .i64 fsz, .slice A12 fhs.length c12]) := Lib.hid (by rw [← hw13, ← hu]; exact Blk.new w12 _ _)
        have HR13 := Lib.hid (fun w' (hk : Kp No w13 w') => Rp.str.slice.keptNo hr12 (hk13.trans' hk))
        have H1113 := Lib.hid (hk12.trans' hk13)
        have HK13 := Lib.hid (HK11.out.trans' H1113.out)
        clear q0 q1 y5 hr12 hk12 hk13 HFA
        go_upto_region 28 with fail
        try rw [hw13]
        try rw [hu]
        clear hw13 hu
        have q0 : w13.cell? ⟨z, 0, none⟩ = some _ := Blk.cell (HB7.out.kept HK13.out (fun z => z)) rfl
        have q1 : w13.cell? ⟨z, 1, none⟩ = some _ := Blk.cell (HB7.out.kept HK13.out (fun z => z)) rfl
        have y5 : w13.cell? ⟨y, 5, none⟩ = some _ := HY7.out w13 HK13.out
        go_wp2_with fail
        refine (HFB.out w13 HK13.out).mono ?_
        rintro e w14 ⟨A14, c14, rfl, hr14, hk14⟩
        obtain ⟨t, ht⟩ : ∃ v, w14.heap.size = v := ⟨_, rfl⟩
        obtain ⟨w15, hw15⟩ : ∃ v, w14.alloc (.cells #[.int .i64 fn, .int .i64 fe, .int .i64 fk, .int .i64 fs, .int .i64 fc, .int .i64 fq, .string fnm, .int .i64 fsz, .slice A14 fhs.length c14] 58) = v := ⟨_, rfl⟩
        have hk15 : Kp No w14 w15 := by rw [← hw15]; exact (Kp.refl _ _).alloc _
        have HBT : Hid (Blk w15 t 58 [.int .i64 fn, .int .i64 fe, .int .i64 fk, .int .i64 fs, .int .i64 fc, .int .i64 fq, .string fnm, .int .i64 fsz, .slice A14 fhs.length c14]) := Lib.hid (by rw [← hw15, ← ht]; exact Blk.new w14 _ _)
        have HR15 := Lib.hid (fun w' (hk : Kp No w15 w') => Rp.str.slice.keptNo hr14 (hk15.trans' hk))
        have H1315 := Lib.hid (hk14.trans' hk15)
        have HK15 := Lib.hid (HK13.out.trans' H1315.out)
        have HBU15 := Lib.hid (HBU.out.kept H1315.out (fun z => z))
        have H1115 := Lib.hid (H1113.out.trans' H1315.out)
        have H1015 := Lib.hid (H1011.out.trans' H1115.out)
        have H915 := Lib.hid (H910.out.trans' H1015.out)
        have H815 := Lib.hid (H89.out.trans' H915.out)
        clear q0 q1 y5 hr14 hk14 hk15 HFB
        go_upto_region 29 with fail
        try rw [hw15]
        try rw [ht]
        clear hw15 ht
        have HSO := r_sameops PL PL A8 A9 c8 c9 w15 _ _ (HR8.out w15 H815.out) (HR9.out w15 H915.out)
        rw [sameOps_iff.2 rfl] at HSO
        have HSO := Lib.hid HSO
        go_wp2_with fail
        refine HSO.out.mono ?_
        rintro e w16 ⟨rfl, hk16⟩
        have HSN := r_same NL NL A10 A11 c10 c11 w16 _ _ (HR10.out w16 (H1015.out.trans' hk16)) (HR11.out w16 (H1115.out.trans' hk16))
        rw [decide_eq_true (rfl : NL = NL)] at HSN
        have HSN := Lib.hid HSN
        have HK16 := Lib.hid hk16
        clear hk16 HSO
        go_wp2_with fail
        refine HSN.out.mono ?_
        rintro e w17 ⟨rfl, n17, hn17⟩
        have hk17 : Kp No w15 w17 := HK16.out.trans' (by rw [hn17]; exact (Kp.refl _ _).drewN _)
        have HSP := r_sameop ⟨fn, fe, fk, fs, fc, fq, fnm, fsz, fhs⟩ ⟨fn, fe, fk, fs, fc, fq, fnm, fsz, fhs⟩ A12 A14 c12 c14 w17 _ _ (HR13.out w17 (H1315.out.trans' hk17)) (HR15.out w17 hk17)
        rw [decide_eq_true ((sameP_iff _ _).2 rfl)] at HSP
        unfold opV at HSP
        have HSP := Lib.hid HSP
        have hl1 := run_load_op (o := ⟨fn, fe, fk, fs, fc, fq, fnm, fsz, fhs⟩) (A := A12) (n := fhs.length) (c := c12) (HBU15.out.kept hk17 (fun z => z))
        have hl2 := run_load_op (o := ⟨fn, fe, fk, fs, fc, fq, fnm, fsz, fhs⟩) (A := A14) (n := fhs.length) (c := c14) (HBT.out.kept hk17 (fun z => z))
        unfold opV at hl1 hl2
        have HL1 := Lib.hid hl1
        have HL2 := Lib.hid hl2
        have HK17 := Lib.hid (HK15.out.trans' hk17)
        clear hl1 hl2 hk17 hn17 HSN
        go_wp2_with (first | (refine wpl_load (by first | rfl | go_simp) 58 _ rfl _ _ rfl HL1.out ?_; go_simp) | (refine wpl_load (by first | rfl | go_simp) 58 _ rfl _ _ rfl HL2.out ?_; go_simp))
        refine HSP.out.mono ?_
        rintro e w18 ⟨rfl, hk18⟩
        have HK18 := Lib.hid (HK7.out.trans' (HK17.out.trans' hk18))
        clear hk18 HSP
        go_wp2_with fail
        go_roundw
        case rel => exact ⟨j + 1, by omega, by go_num, HK18⟩
        case measure => simp [intOf]; omega
theorem modelPlaysUpto_holds : Rows.ModelPlaysUptoSaid := modelPlaysUpto_of modelPlaysUpto_walk
end Go.Proofs.Ytamfgmlhopjppaa
