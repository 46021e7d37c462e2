/-
  A client operation that comes again is answered by the same place, and nothing is done: LedgerOnce answers true for every input of bulk at most 1048576. (Said is false BY SIZE.)
-/
import Derived.Test.YtobgnklebfdbnaaLedP
import Derived.Test.YtobgnklebfdbnaaSide
import Derived.Test.YtobgnklebfdbnaaGrt12S
import Derived.Test.YtobgnklebfdbnaaLedR
import Derived.Test.YtobgnklebfdbnaaAwk12
import Derived.Test.YtobgnklebfdbnaaOwnC
import Derived.Test.YtobgnklebfdbnaaPackW
import Derived.Test.YtobgnklebfdbnaaFLedgerOnceM
namespace Go.Proofs.Ytobgnklebfdbnaa
section
open Go.RowKit Go.ChangeShapes Go.WideShapes Go.ChangeAt

theorem once_same {c : CmdL} {L : LV} {d : Done3} (h : applyL c L = (d, L)) : applyL c (applyL c L).2 = (d, L) := by rw [h]; exact h
theorem doNew_cases2 (c : CmdL) (L : LV) : (∃ e, doNew c L = (failD e, L)) ∨ doNew c L = putL c.op c.epoch c.site L := by
  unfold doNew
  split
  · exact .inl ⟨_, rfl⟩
  · split
    · exact .inl ⟨_, rfl⟩
    · split
      · exact .inl ⟨_, rfl⟩
      · split
        · exact .inl ⟨_, rfl⟩
        · exact .inr rfl
theorem do_cases2 (c : CmdL) (L : LV) : (∃ d, doL c L = (d, L)) ∨ (holdsL c.epoch c.site L ∧ doL c L = putL c.op c.epoch c.site L) := by
  unfold doL
  split
  · rename_i hh
    split
    · split
      · exact .inl ⟨_, rfl⟩
      · rcases doNew_cases2 c L with ⟨e, h⟩ | h
        · exact .inl ⟨_, h⟩
        · exact .inr ⟨hh, h⟩
    · rcases doNew_cases2 c L with ⟨e, h⟩ | h
      · exact .inl ⟨_, h⟩
      · exact .inr ⟨hh, h⟩
  · exact .inl ⟨_, rfl⟩
/-- what is done once more does nothing, and is answered alike -/
theorem apply_once {c : CmdL} {L : LV} (hk : c.kind = 1) : ∃ d, applyL c (applyL c L).2 = (d, (applyL c L).2) ∧ ((applyL c L).1.1 = 0 → d = (applyL c L).1) := by
  have hc : (∃ d, applyL c L = (d, L)) ∨ (okC c = true ∧ holdsL c.epoch c.site L ∧ applyL c L = putL c.op c.epoch c.site L) := by
    unfold applyL
    split
    · rename_i hok
      rcases do_cases2 c L with ⟨d, h⟩ | ⟨h1, h2⟩
      · exact .inl ⟨d, h⟩
      · exact .inr ⟨hok, h1, h2⟩
    · exact .inl ⟨_, rfl⟩
  rcases hc with ⟨d, h⟩ | ⟨hok, hh, h⟩
  · rw [h]
    exact ⟨d, h, fun _ => rfl⟩
  · have hk3 : c.op.kind ≠ 3 := by
      unfold okC at hok
      rw [if_neg (by omega), if_pos hk, Bool.and_eq_true, decide_eq_true_iff] at hok
      exact hok.1.2.2.2
    rw [h]
    obtain ⟨L', hL'⟩ : ∃ L', (putL c.op c.epoch c.site L).2 = L' := ⟨_, rfl⟩
    have hops : L'.ops = L.ops ++ [c.op.placed (L.ops.length + 1) c.epoch c.site] := by rw [← hL']; rfl
    have hfe : L'.fence = L.fence := by rw [← hL']; rfl
    have hfold : L'.fold = L.fold.take1 (c.op.placed (L.ops.length + 1) c.epoch c.site) := by
      unfold LV.fold; rw [hops, FV.take_snoc]
    have hkp : (c.op.placed (L.ops.length + 1) c.epoch c.site).kind = c.op.kind := rfl
    rw [hL']
    obtain ⟨h1, h2, h3⟩ := hh
    have hh' : holdsL c.epoch c.site L' := by
      refine ⟨by rw [hfe]; exact h1, ?_, ?_⟩
      · rw [hfold]; unfold FV.take1; rw [if_neg (by rw [hkp]; exact hk3)]; exact h2
      · rw [hfold]; unfold FV.take1; rw [if_neg (by rw [hkp]; exact hk3)]; exact h3
    refine ⟨(0, L.ops.length + 1, c.epoch), ?_, fun _ => rfl⟩
    have hl : mget c.op.client L'.fold.lastOf = some (c.op.placed (L.ops.length + 1) c.epoch c.site) := by
      rw [hfold]; unfold FV.take1; rw [if_neg (by rw [hkp]; exact hk3)]
      exact mget_put_same _ _ _
    unfold applyL
    rw [if_pos hok, if_pos hk]
    unfold doL
    rw [if_pos hh', hl]
    show (if c.op.seq ≤ c.op.seq then _ else _) = _
    rw [if_pos (Int.le_refl _)]
    show ((if c.op.seq < c.op.seq then _ else _), L') = _
    rw [if_neg (Int.lt_irrefl _)]
    rfl
end

section
open Go.RowKit Go.ChangeShapes Go.WideShapes Go.ChangeAt

theorem sumμ_memL {α : Type} {f : α → Nat} {a : α} : ∀ {l : List α}, a ∈ l → f a ≤ Rp.sumμ f l
  | b :: l, h => by
    unfold Rp.sumμ
    rw [List.map_cons, List.sum_cons]
    rcases List.mem_cons.1 h with rfl | h
    · omega
    · have := sumμ_memL (f := f) h
      unfold Rp.sumμ at this
      omega
theorem sumμ_lengthL {α : Type} {f : α → Nat} (hf : ∀ a, 1 ≤ f a) : ∀ l : List α, l.length ≤ Rp.sumμ f l
  | [] => Nat.zero_le _
  | b :: l => by
    have := sumμ_lengthL hf l
    have := hf b
    unfold Rp.sumμ at *
    rw [List.map_cons, List.sum_cons, List.length_cons]; omega
theorem strs_μ (l : List ByteArray) : l.length + 1 ≤ Rp.str.slice.μ l := by
  have := sumμ_lengthL (f := Rp.str.μ) (fun a => by show 1 ≤ a.size + 1; omega) l
  show _ ≤ 1 + Rp.sumμ Rp.str.μ l
  omega
theorem opl_μ (o : OpL) : o.hashes.length + 1 ≤ Rp.opl.μ o := by
  have := strs_μ o.hashes
  show _ ≤ o.name.size + Rp.str.slice.μ o.hashes
  omega
theorem cmd_μ (c : CmdL) : c.op.hashes.length + 1 ≤ Rp.cmd.μ c ∧ c.ops.length + 1 ≤ Rp.cmd.μ c ∧ ∀ o ∈ c.ops, o.hashes.length ≤ Rp.cmd.μ c := by
  have h1 := opl_μ c.op
  have h2 := sumμ_lengthL (f := Rp.opl.μ) (fun o => by have := opl_μ o; omega) c.ops
  have e : Rp.cmd.μ c = Rp.opl.μ c.op + (1 + Rp.sumμ Rp.opl.μ c.ops) := rfl
  refine ⟨by omega, by omega, fun o ho => ?_⟩
  have h3 := sumμ_memL (f := Rp.opl.μ) ho
  have h4 := opl_μ o
  omega
theorem cmd_small {c : CmdL} (h : Rp.cmd.μ c ≤ 1048576) : SmallC 1048576 1048576 c := by
  obtain ⟨h1, h2, h3⟩ := cmd_μ c
  exact ⟨by omega, by omega, fun o ho => by have := h3 o ho; omega⟩
theorem cmds_small {l : List CmdL} (h : Rp.cmd.slice.μ l ≤ 1048576) : ∀ c ∈ l, SmallC 1048576 1048576 c := fun c hc => by
  have e : Rp.cmd.slice.μ l = 1 + Rp.sumμ Rp.cmd.μ l := rfl
  have h3 := sumμ_memL (f := Rp.cmd.μ) hc
  exact cmd_small (by omega)
theorem Side.start1 {w0 w : World} {l x : Nat} {L : LV} {F : Nat → Prop} {T : TypeId} {cs : List Value} (h : LAt w l L F) (hF : ∀ k, F k → w0.heap.size ≤ k) (hk : Kp No w0 w) (hb : Blk w x T cs) (hx : w0.heap.size ≤ x) (hxF : ¬ F x) : Side w0 w l L [(x, T, cs)] :=
  ⟨⟨F, h, hF, fun b hm => by rw [List.mem_singleton.1 hm]; exact hxF⟩, fun b hm => by rw [List.mem_singleton.1 hm]; exact hb, fun b hm => by rw [List.mem_singleton.1 hm]; exact hx, by simp, hk⟩
/-- a command whose lists are new -/
theorem Side.applyNew {w0 w w' : World} {l : Nat} {L : LV} {bs : List (Nat × TypeId × List Value)} {B : Nat} (h : Side w0 w l L bs) (hk : Kp No w w') (hok : OkL B L) (hB : B ≤ 800000) (c : CmdL) (A Bo : Option Addr) (ca cb : Nat) (hh : Rp.str.slice.R w' (fun k => w.heap.size ≤ k) [.slice A c.op.hashes.length ca] c.op.hashes)
    (ho : Rp.opl.slice.R w' (fun k => w.heap.size ≤ k) [.slice Bo c.ops.length cb] c.ops) (hn : c.nums) (hs : SmallC 1000000 1000000 c) :
    Calls Try.prog 17 #[.pointer (some ⟨l, 0, none⟩), cmdV c (.slice A c.op.hashes.length ca) (.slice Bo c.ops.length cb)] w' fun x w2 => x = .returned (doneV (applyL c L).1) ∧ Side w0 w2 l (applyL c L).2 bs := by
  obtain ⟨F, h1, h2, h3⟩ := h.ex
  have hs' := h.keptNo hk
  refine (a_apply c A Bo ca cb _ B l L F w' (h1.keptNo hk) hok hB hh ho (fun k hk _ hF => by have := h1.lt k hF; omega) (bounds_I64 hn.2.2.2.1.2.2.2.2.2.2.2) hs.1 hs.2.1 hs.2.2).mono ?_
  rintro x w2 ⟨rfl, F', ha, hu⟩
  refine ⟨rfl, ⟨F', ha, fun k hk => (hu.foot k hk).elim (h2 k) (fun hle => Nat.le_trans hs'.kp.size hle), fun b hb hF => ?_⟩, fun b hb => (hs'.blk b hb).kept hu.kp (h3 b hb), h.new, h.nd, hs'.kp.trans hu.kp (fun i hi e => ?_)⟩
  · rcases hu.foot b.1 hF with hf | hf
    · exact h3 b hb hf
    · have := Blk.lt (hs'.blk b hb); omega
  · have := h2 i e; omega
theorem SmallC.mono {m k m' k' : Nat} {c : CmdL} (h : SmallC m k c) (hm : m ≤ m') (hk : k ≤ k') : SmallC m' k' c := ⟨by have := h.1; omega, by have := h.2.1; omega, fun o ho => by have := h.2.2 o ho; omega⟩
theorem Side.begin_ {w0 w : World} {l : Nat} {L : LV} {F : Nat → Prop} (h : LAt w l L F) (hF : ∀ k, F k → w0.heap.size ≤ k) (hk : Kp No w0 w) : Side w0 w l L [] :=
  ⟨⟨F, h, hF, fun _ hb => absurd hb List.not_mem_nil⟩, fun _ hb => absurd hb List.not_mem_nil, fun _ hb => absurd hb List.not_mem_nil, List.nodup_nil, hk⟩
end

section
open Go.RowKit Go.ChangeShapes Go.WideShapes Go.ChangeAt

set_option maxRecDepth 100000 in
set_option maxHeartbeats 20000000 in
theorem ledgerOnceUpto_walk : LedgerOnceUptoWalk := by
  intro W v0 q v1 r v2 script v3 c h0 h1 h2 h3 hμ
  obtain ⟨hv0, _⟩ := h0
  obtain ⟨hv1, _⟩ := h1
  obtain ⟨As, cas, hv2, _⟩ := id h2
  obtain ⟨A, ca, B, cb, hv3, hn, hh, ho⟩ := h3
  simp only [List.cons.injEq, and_true] at hv0 hv1 hv2 hv3
  subst hv0 hv1 hv2 hv3
  have hμ2 : Rp.cmd.slice.μ script ≤ 1048576 := by omega
  have hμ3 : Rp.cmd.μ c ≤ 1048576 := by have e : Rd.cmd.μ c = Rp.cmd.μ c := rfl; omega
  have hsm := cmds_small hμ2
  have hsc := cmd_small hμ3
  have hk0 : Kp No W (W.alloc (.cells (cmdC c (.slice A c.op.hashes.length ca) (.slice B c.ops.length cb)).toArray 36)) := (Kp.refl _ _).alloc _
  have hb0 : Blk (W.alloc (.cells (cmdC c (.slice A c.op.hashes.length ca) (.slice B c.ops.length cb)).toArray 36)) W.heap.size 36 (cmdC c (.slice A c.op.hashes.length ca) (.slice B c.ops.length cb)) := Blk.new W _ _
  have hgs : ∀ w, Kp No W w → Calls Try.prog 13 #[.slice As script.length cas] w fun e w' => GreatS script e ∧ Kp No w w' := fun w hk => h_great12S script As cas w _ (Rp.cmd.slice.keptNo h2 hk) hsm
  have hgc : ∀ w, Kp No W w → Calls Try.prog 13 #[.slice (some ⟨w.heap.size, 0, none⟩) 1 1] (w.alloc (.cells (cmdC c (.slice A c.op.hashes.length ca) (.slice B c.ops.length cb)).toArray 36)) fun e w' => GreatS [c] e ∧ Kp No (w.alloc (.cells (cmdC c (.slice A c.op.hashes.length ca) (.slice B c.ops.length cb)).toArray 36)) w' := fun w hk =>
    h_great12S [c] (some ⟨w.heap.size, 0, none⟩) 1 _ _ (Own.oneC w c _ _ _ hn (Rp.str.slice.keptNo hh hk) (Rp.opl.slice.keptNo ho hk) rfl rfl).readFrom (fun d hd => by rw [List.mem_singleton.1 hd]; exact hsc)
  have hli := fun w => run_lit_cmd w c (.slice A c.op.hashes.length ca) (.slice B c.ops.length cb)
  have hn1 : ({ c with kind := 1 } : CmdL).nums := ⟨show I64 1 from WalkArith.wf_i64 ⟨by omega, by omega⟩, hn.2⟩
  have hown := fun w (hk : Kp No W w) (hs : SmallC 1000000 1000000 c) => r_own { c with kind := 1 } A B ca cb w _ hn1 (Rp.str.slice.keptNo hh hk) (Rp.opl.slice.keptNo ho hk) hs.1 hs.2.1 hs.2.2
  simp only at hown
  have HN1 := Lib.hid hn1
  have HSCR := Lib.hid h2
  have HN := Lib.hid hn
  obtain ⟨hnm, hhn⟩ : ∃ k, c.op.hashes.length = k := ⟨_, rfl⟩
  obtain ⟨onm, hon⟩ : ∃ k, c.ops.length = k := ⟨_, rfl⟩
  have HHN := Lib.hid hhn
  have HON := Lib.hid hon
  rw [hhn, hon] at hk0 hb0 hgc hli hown ⊢
  clear hhn hon hh ho hn hn1 h2 hμ hμ2 hμ3 hsm hsc
  obtain ⟨x, hx⟩ : ∃ x, W.heap.size = x := ⟨_, rfl⟩
  obtain ⟨wa, hwa⟩ : ∃ w, W.alloc (.cells (cmdC c (.slice A hnm ca) (.slice B onm cb)).toArray 36) = w := ⟨_, rfl⟩
  rw [hwa] at hk0 hb0
  rw [hx] at hb0
  have hxw : W.heap.size ≤ x := Nat.le_of_eq hx
  unfold cmdC at hwa hb0 hgc hli
  unfold cmdV at hli hown ⊢
  simp only at hown
  have HGS := Lib.hid hgs
  have HGC := Lib.hid hgc
  have HLI := Lib.hid hli
  have HOW := Lib.hid hown
  have HK0 := Lib.hid hk0
  have HB0 := Lib.hid hb0
  have HXW := Lib.hid hxw
  clear hgs hgc hli hown hk0 hb0 hxw
  by_cases hnew : newP q r
  case neg =>
    have hnb := a_new_bad q r wa hnew
    have HNB := Lib.hid hnb
    clear hnb hnew
    go_enter Try.func8, Try.ntmps8
    go_wp2_with fail
    clear hwa hx
    refine HNB.out.mono ?_
    rintro e w1 ⟨rfl, rfl⟩
    go_wp2_with fail
    refine (h_awake12 w1).mono ?_
    rintro e w2 ⟨rfl, hk2⟩
    have HK2 := Lib.hid (HK0.out.trans' hk2)
    clear hk2
    go_wp2_with fail
    refine (h_awake12 w2).mono ?_
    rintro e wz ⟨rfl, hkz⟩
    have HKZ := Lib.hid (HK2.out.trans' hkz)
    clear hkz
    go_wp2_with fail
    go_ret
    exact ⟨rfl, HKZ.out⟩
  case pos =>
    have hnb := a_new q r wa hnew
    have HNB := Lib.hid hnb
    have HOK0 := Lib.hid (newL_ok hnew)
    clear hnb hnew
    go_enter Try.func8, Try.ntmps8
    go_wp2_with fail
    clear hwa hx
    refine HNB.out.mono ?_
    rintro e w1 ⟨l, F, rfl, hl, hF, hk1⟩
    have hxl : x < wa.heap.size := Blk.lt HB0.out
    have HS1 : Hid (Side W w1 l (newL q r) [(x, 36, _)]) := Lib.hid (Side.start1 hl (fun k hk => by have := hF k hk; have := HK0.out.size; omega) (HK0.out.trans' hk1) (HB0.out.kept hk1 (fun x => x)) HXW.out (fun e => by have := hF x e; omega))
    clear hl hF hk1 hxl HB0 HK0 HNB
    go_wp2_with fail
    refine (h_awake12 w1).mono ?_
    rintro e w2 ⟨rfl, hk2⟩
    have HS2 := Lib.hid (HS1.out.keptNo hk2)
    clear hk2 HS1
    go_wp2_with fail
    refine (HGS.out w2 HS2.out.kp).mono ?_
    rintro e w3 ⟨⟨b, rfl, hsm⟩, hk3⟩
    have HSM := Lib.hid hsm
    have HS3 := Lib.hid (HS2.out.keptNo hk3)
    clear hk3 HS2 hsm HGS
    cases b
    case true =>
      clear HSM HGC HLI HOW
      go_wp2_with fail
      refine (h_awake12 w3).mono ?_
      rintro e wz ⟨rfl, hkz⟩
      have HKZ := Lib.hid (HS3.out.kp.trans' hkz)
      clear hkz
      go_wp2_with fail
      go_ret
      exact ⟨rfl, HKZ.out⟩
    have hb3 := HS3.out.blk _ List.mem_cons_self
    have z0 : w3.cell? ⟨x, 0, none⟩ = some _ := Blk.cell hb3 rfl
    have z1 : w3.cell? ⟨x, 1, none⟩ = some _ := Blk.cell hb3 rfl
    have z2 : w3.cell? ⟨x, 2, none⟩ = some _ := Blk.cell hb3 rfl
    have z3 : w3.cell? ⟨x, 3, none⟩ = some _ := Blk.cell hb3 rfl
    have z4 : w3.cell? ⟨x, 4, none⟩ = some _ := Blk.cell hb3 rfl
    have z5 : w3.cell? ⟨x, 5, none⟩ = some _ := Blk.cell hb3 rfl
    have z6 : w3.cell? ⟨x, 6, none⟩ = some _ := Blk.cell hb3 rfl
    have z7 : w3.cell? ⟨x, 7, none⟩ = some _ := Blk.cell hb3 rfl
    have z8 : w3.cell? ⟨x, 8, none⟩ = some _ := Blk.cell hb3 rfl
    have z9 : w3.cell? ⟨x, 9, none⟩ = some _ := Blk.cell hb3 rfl
    have z10 : w3.cell? ⟨x, 10, none⟩ = some _ := Blk.cell hb3 rfl
    have z11 : w3.cell? ⟨x, 11, none⟩ = some _ := Blk.cell hb3 rfl
    have z12 : w3.cell? ⟨x, 12, none⟩ = some _ := Blk.cell hb3 rfl
    have z13 : w3.cell? ⟨x, 13, none⟩ = some _ := Blk.cell hb3 rfl
    have z14 : w3.cell? ⟨x, 14, none⟩ = some _ := Blk.cell hb3 rfl
    have z15 : w3.cell? ⟨x, 15, none⟩ = some _ := Blk.cell hb3 rfl
    clear hb3
    have HL3 := Lib.hid (HLI.out w3)
    clear HLI
    go_wp2_with (refine wpList_litW (by first | rfl | go_simp) 22 _ rfl _ _ (by go_simp) HL3.out ?_; go_simp)
    clear z0 z1 z2 z3 z4 z5 z6 z7 z8 z9 z10 z11 z12 z13 z14 z15 HL3
    refine (HGC.out w3 HS3.out.kp).mono ?_
    rintro e w4 ⟨⟨b, rfl, hsc⟩, hk4⟩
    have HSC := Lib.hid hsc
    have HS4 := Lib.hid ((HS3.out.keptNo ((Kp.refl _ _).alloc _)).keptNo hk4)
    clear hk4 HS3 hsc HGC
    cases b
    case true =>
      clear HSM HSC HOW
      go_wp2_with fail
      refine (h_awake12 w4).mono ?_
      rintro e wz ⟨rfl, hkz⟩
      have HKZ := Lib.hid (HS4.out.kp.trans' hkz)
      clear hkz
      go_wp2_with fail
      go_ret
      exact ⟨rfl, HKZ.out⟩
    obtain ⟨hsn, hs2⟩ := HSM.out (by first | rfl | trivial)
    have HS200 := Lib.hid hs2
    have hsc := (HSC.out (by first | rfl | trivial)).2 c (List.mem_singleton.2 rfl)
    have HSCC := Lib.hid hsc
    have hn200 : (script.length : Int) ≤ 200 := by omega
    clear HSM HSC hs2 hsc
    go_wp2_with fail
    go_loopw [40] (fun iv wr => ∃ (i : Nat) (L : LV), i ≤ script.length ∧ iv = .int .i64 (i : Int) ∧ Hid (OkL (80 * i) L) ∧ Hid (LostOk L) ∧ Hid (Side W wr l L [(x, 36, _)])) (fun iv _ => script.length - (intOf iv).toNat)
    case atStart => exact ⟨0, newL q r, Nat.zero_le _, rfl, HOK0, Lib.hid (LostOk.new q r), HS4⟩
    case round =>
      clear HS4 HOK0
      rename_i q1 q2 q3 yQ yK yH
      obtain ⟨i, L, hi, rfl, HOKL, HLOK, HS⟩ := hrel
      by_cases hlt : i < script.length
      · revert yQ
        as_aux_lemma =>
          intros
          have hli : (i : Int) < (script.length : Int) := by omega
          obtain ⟨o, hoi⟩ : ∃ o, script[i]? = some o := ⟨_, List.getElem?_eq_getElem hlt⟩
          obtain ⟨ad, A', c', B', d', rfl, _, hcell, hon, hoh, hoo⟩ := Rp.at_cmd (Rp.cmd.slice.keptNo HSCR.out HS.out.kp) hoi
          obtain ⟨z0, z1, z2, z3, z4, z5, z6, z7, z8, z9, z10, z11, z12, z13, z14, z15⟩ := cmd_cells hcell
          have hso := (HS200.out o (List.mem_of_getElem? hoi)).mono (m' := 1000000) (k' := 1000000) (by omega) (by omega)
          have how := fun w (hk : Kp No wr w) => r_own o A' B' c' d' w _ hon (Rp.str.slice.keptNo hoh hk) (Rp.opl.slice.keptNo hoo hk) hso.1 hso.2.1 hso.2.2
          have hap := fun (bs : List (Nat × TypeId × List Value)) (w : World) (hS : Side W w l L bs) (w' : World) (hk : Kp No w w') => fun A Bo ca cb hh ho => hS.applyNew hk HOKL.out (by omega) o A Bo ca cb hh ho hon hso
          have hok2 := (apply_ok HOKL.out o).mono (show 80 * i + 80 ≤ 80 * (i + 1) by omega)
          unfold cmdV at how hap
          have HOW2 := Lib.hid how
          have HAP := Lib.hid hap
          have HOK2 := Lib.hid hok2
          have HLOK2 := Lib.hid (HLOK.out.apply HOKL.out o)
          clear hcell hon hoh hoo hso how hap hok2 hoi
          obtain ⟨ck, ep, st, ⟨on, oe, ok, os, oc, oq, onm2, osz, ohs⟩, an, ae, ops, tg⟩ := o
          simp only at *
          go_wp2_with fail
          clear z0 z1 z2 z3 z4 z5 z6 z7 z8 z9 z10 z11 z12 z13 z14 z15
          refine (HOW2.out _ ((Kp.refl _ _).alloc _)).mono ?_
          rintro e w5 ⟨A2, c2, B2, d2, rfl, hr1, hr2, hk5⟩
          have HA2 := Lib.hid (HAP.out _ _ (HS.out.keptNo ((Kp.refl _ _).alloc _)) w5 hk5 A2 B2 c2 d2 hr1 hr2)
          clear hr1 hr2 hk5 HAP HOW2 HS
          go_wp2_with fail
          refine HA2.out.mono ?_
          rintro e w6 ⟨rfl, hs6⟩
          have HS6 := Lib.hid hs6
          clear hs6 HA2
          go_wp2_with fail
          go_roundw
          case rel => exact ⟨i + 1, _, by omega, by go_num, HOK2, HLOK2, HS6⟩
          case measure => simp [intOf]; omega
      · obtain rfl : i = script.length := by omega
        obtain ⟨w4, hw4⟩ : ∃ v, wr.setCell ⟨x, 0, none⟩ (.int .i64 1) = v := ⟨_, rfl⟩
        have hs4 := HS.out.set (pre := []) (post := []) 0 (.int .i64 1)
        rw [hw4] at hs4
        have hbx := HS.out.blk _ List.mem_cons_self
        have zz0 : wr.cell? ⟨x, 0, none⟩ = some _ := Blk.cell hbx rfl
        have g0 := Blk.fr hbx 0
        have hb4 := hs4.blk _ List.mem_cons_self
        have HS4 := Lib.hid hs4
        have hsc1 : SmallC 1000000 1000000 { c with kind := 1 } := HSCC.out.mono (by omega) (by omega)
        have HS1C := Lib.hid hsc1
        obtain ⟨⟨⟨p0, p1, p2⟩, L1⟩, hP⟩ : ∃ P, applyL { c with kind := 1 } L = P := ⟨_, rfl⟩
        obtain ⟨⟨d0, d1, d2⟩, hD, hD0⟩ := apply_once (c := { c with kind := 1 }) (L := L) rfl
        rw [hP] at hD hD0
        simp only at hD hD0
        have hok1 := apply_ok HOKL.out { c with kind := 1 }
        have hlo1 := HLOK.out.apply HOKL.out { c with kind := 1 }
        rw [hP] at hok1 hlo1
        have hAP : ∀ (L0 L2 : LV) (e0 e1 e2 : Int) (B0 : Nat) (bs : List (Nat × TypeId × List Value)) (v w : World) (A3 B3 : Option Addr) (c3 d3 : Nat), applyL { c with kind := 1 } L0 = ((e0, e1, e2), L2) → OkL B0 L0 → B0 ≤ 800000 → Side W v l L0 bs → Kp No v w → Rp.str.slice.R w (fun k => v.heap.size ≤ k) [.slice A3 hnm c3] c.op.hashes → Rp.opl.slice.R w (fun k => v.heap.size ≤ k) [.slice B3 onm d3] c.ops →
            Calls Try.prog 17 #[.pointer (some ⟨l, 0, none⟩), .agg #[.int .i64 1, .int .i64 c.epoch, .int .i64 c.site, .int .i64 c.op.n, .int .i64 c.op.epoch, .int .i64 c.op.kind, .int .i64 c.op.site, .int .i64 c.op.client, .int .i64 c.op.seq, .string c.op.name, .int .i64 c.op.size, .slice A3 hnm c3, .int .i64 c.after, .int .i64 c.since, .slice B3 onm d3, .int .i64 c.tag]] w
              fun x w2 => x = .returned (.agg #[.int .i64 e0, .int .i64 e1, .int .i64 e2]) ∧ Side W w2 l L2 bs := by
          intro L0 L2 e0 e1 e2 B0 bs v w A3 B3 c3 d3 he hok hB hS hk h1 h2
          have h := hS.applyNew hk hok hB { c with kind := 1 } A3 B3 c3 d3 (by show Rp.str.slice.R w _ [.slice A3 c.op.hashes.length c3] c.op.hashes; rw [HHN.out]; exact h1) (by show Rp.opl.slice.R w _ [.slice B3 c.ops.length d3] c.ops; rw [HON.out]; exact h2) HN1.out HS1C.out
          rw [he] at h
          unfold doneV cmdV at h
          simp only at h
          rw [HHN.out, HON.out] at h
          exact h
        have HAP := Lib.hid hAP
        have HP := Lib.hid hP
        have HD := Lib.hid hD
        have HD0 := Lib.hid hD0
        have HOK1 := Lib.hid hok1
        have HLO1 := Lib.hid hlo1
        have z0 : w4.cell? ⟨x, 0, none⟩ = some _ := Blk.cell hb4 rfl
        have z1 : w4.cell? ⟨x, 1, none⟩ = some _ := Blk.cell hb4 rfl
        have z2 : w4.cell? ⟨x, 2, none⟩ = some _ := Blk.cell hb4 rfl
        have z3 : w4.cell? ⟨x, 3, none⟩ = some _ := Blk.cell hb4 rfl
        have z4 : w4.cell? ⟨x, 4, none⟩ = some _ := Blk.cell hb4 rfl
        have z5 : w4.cell? ⟨x, 5, none⟩ = some _ := Blk.cell hb4 rfl
        have z6 : w4.cell? ⟨x, 6, none⟩ = some _ := Blk.cell hb4 rfl
        have z7 : w4.cell? ⟨x, 7, none⟩ = some _ := Blk.cell hb4 rfl
        have z8 : w4.cell? ⟨x, 8, none⟩ = some _ := Blk.cell hb4 rfl
        have z9 : w4.cell? ⟨x, 9, none⟩ = some _ := Blk.cell hb4 rfl
        have z10 : w4.cell? ⟨x, 10, none⟩ = some _ := Blk.cell hb4 rfl
        have z11 : w4.cell? ⟨x, 11, none⟩ = some _ := Blk.cell hb4 rfl
        have z12 : w4.cell? ⟨x, 12, none⟩ = some _ := Blk.cell hb4 rfl
        have z13 : w4.cell? ⟨x, 13, none⟩ = some _ := Blk.cell hb4 rfl
        have z14 : w4.cell? ⟨x, 14, none⟩ = some _ := Blk.cell hb4 rfl
        have z15 : w4.cell? ⟨x, 15, none⟩ = some _ := Blk.cell hb4 rfl
        clear hs4 hbx hb4 hsc1 hP hD hD0 hok1 hlo1 hAP HS HS200 HSCR HSCC
        go_wp2_with fail
        clear z0 z1 z2 z3 z4 z5 z6 z7 z8 z9 z10 z11 z12 z13 z14 z15 zz0 g0 hw4
        refine (HOW.out w4 HS4.out.kp HS1C.out).mono ?_
        rintro e w5 ⟨A3, c3, B3, d3, rfl, hr1, hr2, hk5⟩
        have HA := Lib.hid (HAP.out L L1 p0 p1 p2 _ _ w4 w5 A3 B3 c3 d3 HP.out HOKL.out (by omega) HS4.out hk5 hr1 hr2)
        clear hr1 hr2 hk5 HS4
        go_wp2_with fail
        refine HA.out.mono ?_
        rintro e w6 ⟨rfl, hs6⟩
        obtain ⟨y, hy⟩ : ∃ v, w6.heap.size = v := ⟨_, rfl⟩
        obtain ⟨w7, hw7⟩ : ∃ v, w6.alloc (.cells #[.int .i64 p0, .int .i64 p1, .int .i64 p2] 42) = v := ⟨_, rfl⟩
        have hs7 := hs6.alloc [.int .i64 p0, .int .i64 p1, .int .i64 p2] 42
        rw [hy, hw7] at hs7
        have HS7 := Lib.hid hs7
        clear hs6 hs7 HA
        go_wp2_with fail
        clear hy hw7
        obtain ⟨F7, hl7, _, _⟩ := HS7.out.ex
        have hpk := l_pack _ l L1 F7 w7 hl7 HOK1.out (by omega) HLO1.out
        obtain ⟨T, hT⟩ : ∃ T, bs (packL L1) = T := ⟨_, rfl⟩
        have HTE := Lib.hid hT
        rw [hT] at hpk
        refine hpk.mono ?_
        rintro e w8 ⟨rfl, hk8⟩
        have HS8 := Lib.hid (HS7.out.keptNo hk8)
        clear hl7 hpk hT hk8 HS7
        have hb8 := HS8.out.blk (x, _, _) (List.mem_cons_of_mem _ List.mem_cons_self)
        have z0 : w8.cell? ⟨x, 0, none⟩ = some _ := Blk.cell hb8 rfl
        have z1 : w8.cell? ⟨x, 1, none⟩ = some _ := Blk.cell hb8 rfl
        have z2 : w8.cell? ⟨x, 2, none⟩ = some _ := Blk.cell hb8 rfl
        have z3 : w8.cell? ⟨x, 3, none⟩ = some _ := Blk.cell hb8 rfl
        have z4 : w8.cell? ⟨x, 4, none⟩ = some _ := Blk.cell hb8 rfl
        have z5 : w8.cell? ⟨x, 5, none⟩ = some _ := Blk.cell hb8 rfl
        have z6 : w8.cell? ⟨x, 6, none⟩ = some _ := Blk.cell hb8 rfl
        have z7 : w8.cell? ⟨x, 7, none⟩ = some _ := Blk.cell hb8 rfl
        have z8 : w8.cell? ⟨x, 8, none⟩ = some _ := Blk.cell hb8 rfl
        have z9 : w8.cell? ⟨x, 9, none⟩ = some _ := Blk.cell hb8 rfl
        have z10 : w8.cell? ⟨x, 10, none⟩ = some _ := Blk.cell hb8 rfl
        have z11 : w8.cell? ⟨x, 11, none⟩ = some _ := Blk.cell hb8 rfl
        have z12 : w8.cell? ⟨x, 12, none⟩ = some _ := Blk.cell hb8 rfl
        have z13 : w8.cell? ⟨x, 13, none⟩ = some _ := Blk.cell hb8 rfl
        have z14 : w8.cell? ⟨x, 14, none⟩ = some _ := Blk.cell hb8 rfl
        have z15 : w8.cell? ⟨x, 15, none⟩ = some _ := Blk.cell hb8 rfl
        clear hb8
        go_wp2_with fail
        clear z0 z1 z2 z3 z4 z5 z6 z7 z8 z9 z10 z11 z12 z13 z14 z15
        refine (HOW.out w8 HS8.out.kp HS1C.out).mono ?_
        rintro e w9 ⟨A5, c5, B5, d5, rfl, hr1, hr2, hk9⟩
        have HA := Lib.hid (HAP.out L1 L1 d0 d1 d2 _ _ w8 w9 A5 B5 c5 d5 HD.out HOK1.out (by omega) HS8.out hk9 hr1 hr2)
        clear hr1 hr2 hk9 HS8
        go_wp2_with fail
        refine HA.out.mono ?_
        rintro e w10 ⟨rfl, hs10⟩
        obtain ⟨y2, hy2⟩ : ∃ v, w10.heap.size = v := ⟨_, rfl⟩
        obtain ⟨w11, hw11⟩ : ∃ v, w10.alloc (.cells #[.int .i64 d0, .int .i64 d1, .int .i64 d2] 42) = v := ⟨_, rfl⟩
        have hs11 := hs10.alloc [.int .i64 d0, .int .i64 d1, .int .i64 d2] 42
        rw [hy2, hw11] at hs11
        have HS11 := Lib.hid hs11
        clear hs10 hs11 HA
        go_wp2_with fail
        clear hy2 hw11
        obtain ⟨F11, hl11, _, _⟩ := HS11.out.ex
        have hpk := l_pack _ l L1 F11 w11 hl11 HOK1.out (by omega) HLO1.out
        rw [HTE.out] at hpk
        refine hpk.mono ?_
        rintro e w12 ⟨rfl, hk12⟩
        have HS12 := Lib.hid (HS11.out.keptNo hk12)
        clear hl11 hpk hk12 HS11
        have hby2 := HS12.out.blk (y2, _, _) List.mem_cons_self
        have hby := HS12.out.blk (y, _, _) (List.mem_cons_of_mem _ List.mem_cons_self)
        have a0 : w12.cell? ⟨y, 0, none⟩ = some _ := Blk.cell hby rfl
        have a1 : w12.cell? ⟨y, 1, none⟩ = some _ := Blk.cell hby rfl
        have a2 : w12.cell? ⟨y, 2, none⟩ = some _ := Blk.cell hby rfl
        have b0 : w12.cell? ⟨y2, 0, none⟩ = some _ := Blk.cell hby2 rfl
        have b1 : w12.cell? ⟨y2, 1, none⟩ = some _ := Blk.cell hby2 rfl
        have b2 : w12.cell? ⟨y2, 2, none⟩ = some _ := Blk.cell hby2 rfl
        clear hby hby2
        by_cases hp0 : p0 = 0
        · have hd := HD0.out hp0
          simp only [Prod.mk.injEq] at hd
          obtain ⟨rfl, rfl, rfl⟩ := hd
          subst hp0
          go_wp2_with fail
          go_ret
          exact ⟨rfl, HS12.out.kp⟩
        · have hp0b : (p0 == 0) = false := beq_eq_false_iff_ne.2 hp0
          have hp0c : (p0 != 0) = true := by rw [bne, hp0b]; rfl
          go_wp2_with fail
          go_ret
          exact ⟨rfl, HS12.out.kp⟩
theorem ledgerOnceUpto_holds : Rows.LedgerOnceUptoSaid := ledgerOnceUpto_of ledgerOnceUpto_walk
#print axioms ledgerOnceUpto_holds
end
end Go.Proofs.Ytobgnklebfdbnaa
